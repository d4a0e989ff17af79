/- Walks: function$1, function. Conditions: the table of keywords; small parts. -/
import Derived.Test.YtlmoblmkhicoeaaGreatDoorJ1
set_option linter.unusedVariables false
set_option linter.unusedSimpArgs false
namespace Go.Proofs.YtlmoblmkhicoeaaGreatDoor
open Go.RowKit
/-- What came in is small. -/
structure Small (F : Fn) : Prop where
  nm : F.nm.size ≤ maxLen
  bl : F.bl.length ≤ 17592186044416
  os : ∀ b ∈ F.bl, b.os.length ≤ 17592186044416
  ar : ∀ b ∈ F.bl, ∀ o ∈ b.os, o.ar.length ≤ 17592186044414 ∧ o.tx.size ≤ maxLen
theorem mx {n : Nat} (h : n ≤ maxLen) : n ≤ maxLen := h
set_option maxRecDepth 100000 in
theorem fn1_any (g : Nat) (regs sl st : Int) (l : List Op) (w : World) (h : Blk w g 133 (bndA regs sl st)) (hk : KeysAt w) (hl : ∀ o ∈ l, o.tx.size ≤ maxLen) :
    Tests w 75 #[.pointer (some ⟨g, 0, none⟩)] (fun W x v => atO W x v ∧ x ∈ l) (fun o => !opB regs sl st o) := by
  rintro W hb x v ⟨⟨av, hav, rfl⟩, hx⟩
  have hB := h.below hb h.lt
  have HO := Lib.hid (op_any regs sl st x av (W.alloc (.cells (opA x av) 75)) (hav.below (below1 _ _)) ((hk.below hb).below (below1 _ _)) (hl x hx))
  have c0 : (W.alloc (.cells (opA x av) 75)).cell? ⟨g, 0, none⟩ = some (.int .i64 regs) := by rw [(hB.alloc _).cell]; rfl
  have c1 : (W.alloc (.cells (opA x av) 75)).cell? ⟨g, 1, none⟩ = some (.int .i64 sl) := by rw [(hB.alloc _).cell]; rfl
  have c2 : (W.alloc (.cells (opA x av) 75)).cell? ⟨g, 2, none⟩ = some (.int .i64 st) := by rw [(hB.alloc _).cell]; rfl
  obtain ⟨A, c, rfl, h1, h2⟩ := hav.form
  clear hB h hb hav hx hl hk
  show Calls Tryz.prog 75 #[opv x _, .pointer (some ⟨g, 0, none⟩)] W fun e W' => e = .returned (.bool (!opB regs sl st x)) ∧ Below W.heap.size W W'
  unfold opv bnds opA at HO
  unfold opv
  unfold opA at c0 c1 c2
  go_enter Tryz.func75, Tryz.ntmps75
  go_wp2_with fail
  refine HO.out.mono ?_
  rintro e w1 ⟨rfl, hb⟩
  go_wp2
  go_ret
  exact ⟨rfl, (below1 W _).trans (below_of_le hb (size_le1 _ _))⟩
theorem blsB_step {regs slots strs blocks : Int} {n : Nat} {bs : List Bl} {k : Nat} (hk : k < bs.length) : blsB regs slots strs blocks n (bs.drop k) = (decide (n + bs[k].os.length ≤ 4096) && (exB regs blocks bs[k].x && (!(bs[k].os.any (fun o => !opB regs slots strs o)) && blsB regs slots strs blocks (n + bs[k].os.length) (bs.drop (k + 1))))) := by
  rw [List.drop_eq_getElem_cons hk, blsB]
  have e : bs[k].os.all (opB regs slots strs) = !(bs[k].os.any (fun o => !opB regs slots strs o)) := by rw [Bool.eq_iff_iff]; simp
  rw [e]
theorem slB_step {ss : List Sl} {k : Nat} (hk : k < ss.length) : (ss.drop k).all slB = (slB ss[k] && (ss.drop (k + 1)).all slB) := by
  rw [List.drop_eq_getElem_cons hk, List.all_cons]
/-- The frame's own box, and what lies below. -/
structure FuW (w : World) (F : Fn) (sv bv : Value) (W : World) : Prop where
  bx : Blk W w.heap.size 25 (fnA F sv bv)
  be : Below w.heap.size w W
theorem FuW.next {w W W' : World} {F : Fn} {sv bv : Value} (h : FuW w F sv bv W) (hb : Below W.heap.size W W') : FuW w F sv bv W' :=
  ⟨h.bx.below hb h.bx.lt, h.be.trans (below_of_le hb h.be.size)⟩
structure FuC (F : Fn) (sv bv : Value) (n : Nat) (W : World) : Prop where
  f0 : W.cell? ⟨n, 0, none⟩ = some (.string F.nm)
  f1 : W.cell? ⟨n, 1, none⟩ = some (.int .i64 F.ps)
  f2 : W.cell? ⟨n, 2, none⟩ = some (.int .i64 F.rs)
  f3 : W.cell? ⟨n, 3, none⟩ = some sv
  f4 : W.cell? ⟨n, 4, none⟩ = some bv
theorem FuW.cells {w W : World} {F : Fn} {sv bv : Value} (h : FuW w F sv bv W) : FuC F sv bv w.heap.size W :=
  ⟨(h.bx.cell 0).trans rfl, (h.bx.cell 1).trans rfl, (h.bx.cell 2).trans rfl, (h.bx.cell 3).trans rfl, (h.bx.cell 4).trans rfl⟩
set_option maxRecDepth 100000 in
set_option maxHeartbeats 4000000 in
theorem function_any (F : Fn) (sv bv : Value) (w : World) (hs : SlsAt w sv F.sl) (hb : BlsAt w bv F.bl) (hk : KeysAt w) (hS : Small F) :
    Calls Tryz.prog 51 #[fnv F sv bv, .int .i64 4611686018427387904] w fun e w' => e = .returned (.bool (fnB F)) ∧ Below w.heap.size w w' := by
  obtain ⟨A, c, rfl, h1, h2⟩ := hb.form
  obtain ⟨As, cs, rfl, s1, s2⟩ := RowOf.form hs
  unfold maxLen at h2 s2
  have HB := Lib.hid hb
  have HS := Lib.hid hs
  have HK := Lib.hid hk
  have HSM := Lib.hid hS
  have HN := Lib.hid (isName_any F.nm (w.alloc (.cells (fnA F (.slice As F.sl.length cs) (.slice A F.bl.length c)) 25)) (mx hS.nm) (hk.below (below1 _ _)))
  have HW := Lib.hid (show FuW w F (.slice As F.sl.length cs) (.slice A F.bl.length c) (w.alloc (.cells (fnA F (.slice As F.sl.length cs) (.slice A F.bl.length c)) 25)) from ⟨Blk.new _ _ _, below1 _ _⟩)
  have HAP := Lib.hid (fun W (h : Below w.heap.size w W) hn hx => apart_any F (.slice As F.sl.length cs) (.slice A F.bl.length c) W (hb.below h) hn hx)
  obtain ⟨nb, hnb⟩ : ∃ b, isNameB F.nm = b := ⟨_, rfl⟩
  rw [hnb] at HN
  have hfb : fnB F = ((nb && (decide (0 ≤ F.ps) && (decide (F.ps ≤ 8) && (decide (F.ps ≤ F.rs) && (decide (F.rs ≤ 4096) && (decide (F.sl.length ≤ 256) && (decide (1 ≤ F.bl.length) && decide (F.bl.length ≤ 4096)))))))) && (F.sl.all slB && (blsB F.rs F.sl.length 4611686018427387904 F.bl.length 0 F.bl && apartB F.bl))) := by rw [fnB, headB, hnb]
  have HO := Lib.hid hfb
  clear hs hb hk hS hnb hfb
  unfold fnv
  unfold fnA at HN HW
  go_enter Tryz.func51, Tryz.ntmps51
  go_wp2_with fail
  refine HN.out.mono ?_
  rintro e w1 ⟨rfl, hb1⟩
  replace HW := Lib.hid (HW.out.next hb1)
  clear hb1 HN
  obtain ⟨f0, f1, f2, f3, f4⟩ := HW.out.cells
  cases nb with
  | false =>
    go_wp2_with fail
    go_ret
    exact ⟨ret_bool (by rw [HO.out]; simp [*]; try (intros; omega)), HW.out.be⟩
  | true =>
    by_cases q0 : 0 ≤ F.ps
    rotate_left
    · skip
      go_wp2_with fail
      go_ret
      exact ⟨ret_bool (by rw [HO.out]; simp [*]; try (intros; omega)), HW.out.be⟩
    by_cases q1 : F.ps ≤ 8
    rotate_left
    · skip
      go_wp2_with fail
      go_ret
      exact ⟨ret_bool (by rw [HO.out]; simp [*]; try (intros; omega)), HW.out.be⟩
    by_cases q2 : F.ps ≤ F.rs
    rotate_left
    · skip
      go_wp2_with fail
      go_ret
      exact ⟨ret_bool (by rw [HO.out]; simp [*]; try (intros; omega)), HW.out.be⟩
    by_cases q3 : F.rs ≤ 4096
    rotate_left
    · skip
      go_wp2_with fail
      go_ret
      exact ⟨ret_bool (by rw [HO.out]; simp [*]; try (intros; omega)), HW.out.be⟩
    by_cases q4 : F.sl.length ≤ 256
    rotate_left
    · skip
      go_wp2_with fail
      go_ret
      exact ⟨ret_bool (by rw [HO.out]; simp [*]; try (intros; omega)), HW.out.be⟩
    by_cases q5 : 1 ≤ F.bl.length
    rotate_left
    · skip
      go_wp2_with fail
      go_ret
      exact ⟨ret_bool (by rw [HO.out]; simp [*]; try (intros; omega)), HW.out.be⟩
    by_cases q6 : F.bl.length ≤ 4096
    rotate_left
    · skip
      go_wp2_with fail
      go_ret
      exact ⟨ret_bool (by rw [HO.out]; simp [*]; try (intros; omega)), HW.out.be⟩
    have HO2 := Lib.hid (show fnB F = (F.sl.all slB && (blsB F.rs F.sl.length 4611686018427387904 F.bl.length 0 F.bl && apartB F.bl)) by rw [HO.out]; simp [*])
    clear HO
    clear f0 f1 f2 f3 f4
    obtain ⟨f0, f1, f2, f3, f4⟩ := HW.out.cells
    go_wp2_with fail
    go_loopw [58] (fun i wr => ∃ k : Nat, k ≤ F.sl.length ∧ i = .int .i64 k ∧ Hid (F.sl.all slB = (F.sl.drop k).all slB) ∧ Hid (FuW w F (.slice As F.sl.length cs) (.slice A F.bl.length c) wr)) (fun i _ => F.sl.length - (intOf i).toNat)
    case atStart => exact ⟨0, Nat.zero_le _, rfl, rfl, HW.out⟩
    case round =>
      clear HW f0 f1 f2 f3 f4
      obtain ⟨k, hk, rfl, HA, HW⟩ := hrel
      by_cases hlt : k < F.sl.length
      · obtain ⟨g, off, cap', ea, h3, h4, hg, hc⟩ := (SlsAt.below HS.out HW.out.be).open_ (Nat.lt_of_le_of_lt (Nat.zero_le _) hlt)
        cases ea
        obtain ⟨c0, c1, c2⟩ := hc k hlt
        have hst := slB_step hlt
        obtain ⟨s, hs⟩ : ∃ s, F.sl[k] = s := ⟨_, rfl⟩
        rw [hs] at c0 c1 c2 hst
        obtain ⟨z, a, vo⟩ := s
        have HST := Lib.hid (HA.out.trans hst)
        clear hst hs HA hc
        simp only at c0 c1 c2
        by_cases z1 : 1 ≤ z
        · by_cases z2 : z ≤ 65536
          · rcases (show a = 1 ∨ a = 2 ∨ a = 4 ∨ (a ≠ 1 ∧ a ≠ 2 ∧ a ≠ 4) by omega) with rfl | rfl | rfl | ⟨a1, a2, a3⟩
            case inr.inr.inr =>
              have HF := Lib.hid (show fnB F = false by rw [HO2.out, HST.out]; simp [slB, a1, a2, a3])
              have b1 : (a == 1) = false := by simp [a1]
              have b2 : (a == 2) = false := by simp [a2]
              have b3 : (a == 4) = false := by simp [a3]
              have b4 : (a != 1) = true := by simp [a1]
              have b5 : (a != 2) = true := by simp [a2]
              have b6 : (a != 4) = true := by simp [a3]
              clear a1 a2 a3
              go_wp2_with fail
              go_ret
              exact ⟨ret_bool HF.out.symm, (HW.out.next (below1 _ _)).be⟩
            all_goals
              have HF := Lib.hid (show F.sl.all slB = (F.sl.drop (k + 1)).all slB by rw [HST.out]; simp [slB, z1, z2])
              go_wp2_with fail
              go_roundw
              case rel => exact ⟨k + 1, by omega, by go_num, HF.out, HW.out.next (below1 _ _)⟩
              case measure => simp [intOf]; omega
          · have HF := Lib.hid (show fnB F = false by rw [HO2.out, HST.out]; simp [slB, z2])
            go_wp2_with fail
            go_ret
            exact ⟨ret_bool HF.out.symm, (HW.out.next (below1 _ _)).be⟩
        · have HF := Lib.hid (show fnB F = false by rw [HO2.out, HST.out]; simp [slB, z1])
          go_wp2_with fail
          go_ret
          exact ⟨ret_bool HF.out.symm, (HW.out.next (below1 _ _)).be⟩
      · have HO3 := Lib.hid (show fnB F = (blsB F.rs F.sl.length 4611686018427387904 F.bl.length 0 F.bl && apartB F.bl) by rw [HO2.out, HA.out, List.drop_eq_nil_of_le (by omega)]; rfl)
        clear HO2 HA
        obtain ⟨gb, hgb⟩ : ∃ gb, wr.heap.size = gb := ⟨_, rfl⟩
        have HW0 := Lib.hid (HW.out.next (below1 wr (.cells (bndA F.rs F.sl.length 4611686018427387904) 133)))
        have HG0 := Lib.hid (Blk.new wr 133 (bndA F.rs F.sl.length 4611686018427387904))
        obtain ⟨f0, f1, f2, f3, f4⟩ := HW0.out.cells
        unfold bndA at f0 f1 f2 f3 f4 HW0 HG0
        obtain ⟨e0, e1, e2, e3, e4⟩ := HW.out.cells
        rw [hgb] at HG0
        clear HW
        go_wp2_with fail
        go_loopw [96, 8] (fun i nn wr => ∃ k m : Nat, k ≤ F.bl.length ∧ m ≤ 4096 ∧ i = .int .i64 k ∧ nn = .int .i64 m ∧ Hid (fnB F = (blsB F.rs F.sl.length 4611686018427387904 F.bl.length m (F.bl.drop k) && apartB F.bl)) ∧ Hid (∀ b ∈ F.bl.take k, exB F.rs F.bl.length b.x = true) ∧ Hid (FuW w F (.slice As F.sl.length cs) (.slice A F.bl.length c) wr ∧ Blk wr gb 133 (bndA F.rs F.sl.length 4611686018427387904))) (fun i _ _ => F.bl.length - (intOf i).toNat)
        case atStart => exact ⟨0, 0, Nat.zero_le _, Nat.zero_le _, rfl, rfl, HO3.out, by simp [Hid], HW0.out, HG0.out⟩
        case round =>
          clear HW0 HG0 f0 f1 f2 f3 f4 e0 e1 e2 e3 e4 HO3
          obtain ⟨k, m, hk, hm, rfl, rfl, HA, HE, HW⟩ := hrel
          by_cases hlt : k < F.bl.length
          · obtain ⟨g, off, cap', ea, h3, h4, hg, hc⟩ := (BlsAt.below HB.out HW.out.1.be).open_ (Nat.lt_of_le_of_lt (Nat.zero_le _) hlt)
            cases ea
            obtain ⟨ov, hcc⟩ := hc k hlt
            have hmem := List.getElem_mem hlt
            have hos := HSM.out.os _ hmem
            have har := HSM.out.ar _ hmem
            have hst := blsB_step (regs := F.rs) (slots := F.sl.length) (strs := 4611686018427387904) (blocks := F.bl.length) (n := m) hlt
            have hex : ∀ y : Bl, y = F.bl[k] → exB F.rs F.bl.length y.x = true → ∀ b ∈ F.bl.take (k + 1), exB F.rs F.bl.length b.x = true := by
              intro y hy h b hb
              rw [List.take_succ_eq_append_getElem hlt, List.mem_append] at hb
              rcases hb with hb | hb
              · exact HE.out b hb
              · rw [List.mem_singleton] at hb
                rw [hb, ← hy]; exact h
            obtain ⟨b, hbk⟩ : ∃ b, F.bl[k] = b := ⟨_, rfl⟩
            rw [hbk] at hcc hos har hst
            have HEX := Lib.hid (hex b hbk.symm)
            have HAR := Lib.hid (fun o ho => mx (har o ho).2)
            obtain ⟨c0, c1, c2, c3, c4, c5, car⟩ := hcc
            have hcar := car
            obtain ⟨Ao, co, rfl, o1, o2⟩ := car.form
            unfold maxLen at o2
            have hw1 := below1 wr (.cells #[.slice Ao b.os.length co, .int .i64 b.x.k, .int .i64 b.x.a, .int .i64 b.x.d, .int .i64 b.x.t, .int .i64 b.x.e] 45)
            have HC2 := Lib.hid (hcar.below hw1)
            have hW := HW.out.1.next hw1
            have hG := HW.out.2.below hw1 HW.out.2.lt
            obtain ⟨f0, f1, f2, f3, f4⟩ := hW.cells
            have g0 : (wr.alloc (.cells #[.slice Ao b.os.length co, .int .i64 b.x.k, .int .i64 b.x.a, .int .i64 b.x.d, .int .i64 b.x.t, .int .i64 b.x.e] 45)).cell? ⟨gb, 0, none⟩ = some (.int .i64 F.rs) := (hG.cell 0).trans rfl
            have g1 : (wr.alloc (.cells #[.slice Ao b.os.length co, .int .i64 b.x.k, .int .i64 b.x.a, .int .i64 b.x.d, .int .i64 b.x.t, .int .i64 b.x.e] 45)).cell? ⟨gb, 1, none⟩ = some (.int .i64 F.sl.length) := (hG.cell 1).trans rfl
            have g2 : (wr.alloc (.cells #[.slice Ao b.os.length co, .int .i64 b.x.k, .int .i64 b.x.a, .int .i64 b.x.d, .int .i64 b.x.t, .int .i64 b.x.e] 45)).cell? ⟨gb, 2, none⟩ = some (.int .i64 4611686018427387904) := (hG.cell 2).trans rfl
            have HWG := Lib.hid (And.intro hW hG)
            have HXQ := Lib.hid (fun W => exit_any F.rs F.sl.length 4611686018427387904 F.bl.length b.x W)
            obtain ⟨b1, hb1⟩ : ∃ q, exB F.rs F.bl.length b.x = q := ⟨_, rfl⟩
            obtain ⟨b2, hb2⟩ : ∃ q, b.os.any (fun o => !opB F.rs F.sl.length 4611686018427387904 o) = q := ⟨_, rfl⟩
            have HFN := Lib.hid (fun W h1 h2 h3 => containsO_any b.os (.slice Ao b.os.length co) 75 #[.pointer (some ⟨gb, 0, none⟩)] (fun o => !opB F.rs F.sl.length 4611686018427387904 o) W enters_fn1 h1 (fn1_any gb F.rs F.sl.length 4611686018427387904 b.os W h2 h3 HAR.out))
            rw [hb1] at HXQ HEX hst
            rw [hb2] at HFN hst
            have HST := Lib.hid (HA.out.trans (by rw [hst]))
            unfold bnds exv at HXQ
            clear hst hbk HA hc har hex hcar car hmem hb1 hb2 hw1 hW hG HE HW
            by_cases hm2 : m + b.os.length ≤ 4096
            · have hm3 : ((m : Int) + (b.os.length : Int)) ≤ 4096 := by omega
              have hm4 : ¬ 4096 < ((m : Int) + (b.os.length : Int)) := by omega
              have hm5 : decide (4096 < ((m : Int) + (b.os.length : Int))) = false := by simp; omega
              go_wp2_with fail
              refine (HXQ.out _).mono ?_
              rintro e w2 ⟨rfl, hw2⟩
              cases b1 with
              | false =>
                have HF := Lib.hid (show fnB F = false by rw [HST.out]; simp)
                have HBE := Lib.hid (HWG.out.1.next hw2).be
                clear hw2
                go_wp2_with fail
                go_ret
                exact ⟨ret_bool HF.out.symm, HBE.out⟩
              | true =>
                have cc0 : w2.cell? ⟨wr.heap.size, 0, none⟩ = some (.slice Ao b.os.length co) := ((hw2.cell (p := ⟨wr.heap.size, 0, none⟩) (by simp [World.size_alloc])).trans ((Blk.new wr 45 #[.slice Ao b.os.length co, .int .i64 b.x.k, .int .i64 b.x.a, .int .i64 b.x.d, .int .i64 b.x.t, .int .i64 b.x.e]).cell 0)).trans rfl
                have HF2 := Lib.hid (HFN.out w2 (HC2.out.below hw2) (HWG.out.2.below hw2 HWG.out.2.lt) (HK.out.below (HWG.out.1.next hw2).be))
                have HWG2 := Lib.hid (And.intro (HWG.out.1.next hw2) (HWG.out.2.below hw2 HWG.out.2.lt))
                clear hw2 HWG HFN HXQ f0 f1 f2 f3 f4 g0 g1 g2 c0 c1 c2 c3 c4 c5
                go_wp2_with fail
                refine HF2.out.mono ?_
                rintro e w3 ⟨rfl, hw3⟩
                have HWG3 := Lib.hid (And.intro (HWG2.out.1.next hw3) (HWG2.out.2.below hw3 HWG2.out.2.lt))
                clear hw3 HWG2
                cases b2 with
                | true =>
                  have HF := Lib.hid (show fnB F = false by rw [HST.out]; simp)
                  go_wp2_with fail
                  go_ret
                  exact ⟨ret_bool HF.out.symm, HWG3.out.1.be⟩
                | false =>
                  have HF := Lib.hid (show fnB F = (blsB F.rs F.sl.length 4611686018427387904 F.bl.length (m + b.os.length) (F.bl.drop (k + 1)) && apartB F.bl) by rw [HST.out]; simp [hm2])
                  go_wp2_with fail
                  go_roundw
                  case rel => exact ⟨k + 1, m + b.os.length, by omega, hm2, by go_num, by go_num, HF.out, HEX.out (by trivial), HWG3.out⟩
                  case measure => simp [intOf]; omega
            · have hm3 : 4096 < ((m : Int) + (b.os.length : Int)) := by omega
              have HF := Lib.hid (show fnB F = false by rw [HST.out]; simp [hm2])
              go_wp2_with fail
              go_ret
              exact ⟨ret_bool HF.out.symm, HWG.out.1.be⟩
          · have hke : k = F.bl.length := by omega
            subst hke
            have HF := Lib.hid (show fnB F = apartB F.bl by rw [HA.out, List.drop_eq_nil_of_le (Nat.le_refl _)]; rfl)
            have HE2 := Lib.hid HE.out
            rw [List.take_length] at HE2
            have HQ := Lib.hid (HAP.out wr HW.out.1.be q6 HE2.out)
            have HBE := Lib.hid HW.out.1.be
            obtain ⟨f0, f1, f2, f3, f4⟩ := HW.out.1.cells
            unfold fnv at HQ
            clear HA HE HE2 HW
            go_wp2_with fail
            refine HQ.out.mono ?_
            rintro e w2 ⟨rfl, hw2⟩
            go_wp2_with fail
            go_ret
            exact ⟨ret_bool HF.out.symm, HBE.out.trans (below_of_le hw2 HBE.out.size)⟩

end Go.Proofs.YtlmoblmkhicoeaaGreatDoor
