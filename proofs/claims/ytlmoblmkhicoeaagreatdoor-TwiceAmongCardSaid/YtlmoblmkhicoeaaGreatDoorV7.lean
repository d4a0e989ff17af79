/- Walks: twice.Warn. Conditions: the tables; small parts. -/
import Derived.Test.YtlmoblmkhicoeaaGreatDoorV6
set_option linter.unusedVariables false
set_option linter.unusedSimpArgs false
namespace Go.Proofs.YtlmoblmkhicoeaaGreatDoor
open Go.RowKit
theorem ruleL_ar {k : Int} {r : Rule} (h : ruleL k = some r) (ha : r.ar = true) : k = 28 ∨ k = 29 := by
  unfold ruleL at h
  by_cases h0 : 3 ≤ k ∧ k ≤ 19
  · rw [if_pos h0] at h; injection h with h; subst h; cases ha
  rw [if_neg h0] at h
  by_cases h1 : k = 1
  · rw [if_pos h1] at h; injection h with h; subst h; cases ha
  rw [if_neg h1] at h
  by_cases h2 : k = 2
  · rw [if_pos h2] at h; injection h with h; subst h; cases ha
  rw [if_neg h2] at h
  by_cases h3 : k = 20
  · rw [if_pos h3] at h; injection h with h; subst h; cases ha
  rw [if_neg h3] at h
  by_cases h4 : k = 21
  · rw [if_pos h4] at h; injection h with h; subst h; cases ha
  rw [if_neg h4] at h
  by_cases h5 : k = 22
  · rw [if_pos h5] at h; injection h with h; subst h; cases ha
  rw [if_neg h5] at h
  by_cases h6 : k = 23
  · rw [if_pos h6] at h; injection h with h; subst h; cases ha
  rw [if_neg h6] at h
  by_cases h7 : k = 24
  · rw [if_pos h7] at h; injection h with h; subst h; cases ha
  rw [if_neg h7] at h
  by_cases h8 : k = 25
  · rw [if_pos h8] at h; injection h with h; subst h; cases ha
  rw [if_neg h8] at h
  by_cases h9 : k = 26
  · rw [if_pos h9] at h; injection h with h; subst h; cases ha
  rw [if_neg h9] at h
  by_cases h10 : k = 27
  · rw [if_pos h10] at h; injection h with h; subst h; cases ha
  rw [if_neg h10] at h
  by_cases a1 : k = 28
  · exact Or.inl a1
  rw [if_neg a1] at h
  by_cases a2 : k = 29
  · exact Or.inr a2
  rw [if_neg a2] at h
  cases h
theorem builtL_le {s : ByteArray} {n : Nat} {a : Bool} (h : builtL s = some (n, a)) : n ≤ 3 := by
  unfold builtL at h
  repeat' split at h
  all_goals first | (injection h with h; injection h with h1 h2; omega) | cases h
theorem opB_ar {regs sl st : Int} {o : Op} (h : opB regs sl st o = true) (hk : o.k ≠ 28) : o.ar.length ≤ 3 := by
  unfold opB at h
  split at h
  · cases h
  · rename_i r hr
    simp only [Bool.and_eq_true] at h
    obtain ⟨-, -, -, -, -, h6, -, h8⟩ := h
    cases ha : r.ar with
    | false =>
      rw [ha] at h6
      simp at h6
      simp [h6]
    | true =>
      have h29 : o.k = 29 := (ruleL_ar hr ha).resolve_left hk
      unfold tailB at h8
      rw [if_neg (by omega), if_neg (by omega), if_pos h29] at h8
      split at h8
      · rename_i n ans hb
        have := builtL_le hb
        simp only [Bool.and_eq_true, beq_iff_eq] at h8
        omega
      · simp only [Bool.and_eq_true, beq_iff_eq] at h8
        omega
theorem askL_len {regs sl st : Int} {o : Op} (h : opB regs sl st o = true) : (askL o).length ≤ 5 := by
  unfold askL
  split
  · simp
  · split
    · simp
    · rename_i h2 h3
      have := opB_ar h (fun e => h3 (Or.inr e))
      have := reads_len o
      omega
theorem enters19 : ∀ (a : Array Value) (w : World), (callFunc 19 a).run Tryz.prog w = .ok (.enter 19 a) w := fun _ _ => by kernel_rfl
/-- Blocks of other kinds than Warn's own stay as they are. -/
def Kx (w w' : World) : Prop := ∀ (t : TypeId) (q : Nat) (cs : Array Value), t ≠ 40 → t ≠ 31 → Blk w q t cs → Blk w' q t cs
theorem Kx.refl (w : World) : Kx w w := fun _ _ _ _ _ h => h
theorem Kx.trans {a b c : World} (h : Kx a b) (k : Kx b c) : Kx a c := fun t q cs h1 h2 x => k t q cs h1 h2 (h t q cs h1 h2 x)
theorem Kx.of {a b : World} (h : Below a.heap.size a b) : Kx a b := fun t q cs _ _ x => x.below h x.lt
theorem Kx.ownB {a b : World} (h : Kx a b) {B : Nat} {v : Value} {l : List Bool} (ho : OwnB a B v l) : OwnB b B v l := by
  rcases ho.2 with ⟨e, e2⟩ | ⟨g', cap', cur, e, t1, t2, t3⟩
  · exact ⟨ho.1, Or.inl ⟨e, e2⟩⟩
  · exact ⟨ho.1, Or.inr ⟨g', cap', cur, e, t1, h _ _ _ (by decide) (by decide) t2, t3⟩⟩
structure WaW (w1 w2 : World) (F : Fn) (gO : Nat) (l : List Sp) (W : World) : Prop where
  o : ∃ A n c, Blk W gO 31 #[.slice A n c] ∧ OwnS W w1.heap.size (.slice A n c) l
  be : Below w1.heap.size w1 W
  kx : Kx w2 W
theorem WaW.below {w1 w2 W W' : World} {F : Fn} {gO : Nat} {l : List Sp} (h : WaW w1 w2 F gO l W) (hb : Below W.heap.size W W') : WaW w1 w2 F gO l W' := by
  obtain ⟨A, n, c, h1, h2⟩ := h.o
  exact ⟨⟨A, n, c, h1.below hb h1.lt, ownsRow_keeps h2 (keeps_of_below (fun _ => False) hb) (fun _ _ => id)⟩, h.be.trans (below_of_le hb h.be.size), h.kx.trans (Kx.of hb)⟩
set_option maxRecDepth 100000 in
set_option maxHeartbeats 16000000 in
theorem warn_any (F : Fn) (sv bv : Value) (w : World) (h : FnIn w F sv bv) (ht : TzAt w) :
    Calls Tryz.prog 7 #[fnv F sv bv] w fun e w' => (fnB F = false ∧ e = .returned (.tuple #[.slice none 0 0, errV F]) ∨ fnB F = true ∧ ∃ v, e = .returned (.tuple #[v, .int .i64 0]) ∧ OwnS w' w.heap.size v (warnL F)) ∧ Below w.heap.size w w' := by
  obtain ⟨A, c, rfl, h1, h2⟩ := h.bl.form
  obtain ⟨As, cs, rfl, -, -⟩ := RowOf.form h.sl
  unfold maxLen at h2
  have hb1 := below1 w (.cells #[.string F.nm, .int .i64 F.ps, .int .i64 F.rs, .slice As F.sl.length cs, .slice A F.bl.length c] 25)
  have HBX := Lib.hid hb1
  have HLK := Lib.hid (looked_any F (.slice As F.sl.length cs) (.slice A F.bl.length c) _ (h.below hb1) (ht.below hb1))
  have HE := Lib.hid (show fnB F = false → errV F = .int .i64 180 from fun hb => by rw [errV, hb]; rfl)
  unfold fnv at HLK
  unfold fnv
  clear h ht hb1
  go_enter Tryz.func7, Tryz.ntmps7
  go_wp2_with fail
  refine HLK.out.mono ?_
  rintro e w1 ⟨⟨hf0, rfl⟩ | ⟨hf, gp, rv, tov, inv, ouv, rfl, hp⟩, hb1⟩
  · have hb2 := HBX.out.trans (below_of_le hb1 HBX.out.size)
    have HN := Lib.hid (And.intro hf0 (hb2.trans (below_of_le (below1 w1 (.cells #[.pointer none] 61)) hb2.size)))
    rw [HE.out hf0]
    clear hf0 hb1 hb2
    go_wp2_with fail
    refine bodyPost_ret (v := .tuple #[.slice none 0 0, .int .i64 180]) (by simp [results, Tryz.results7, go_sem]) rfl ⟨Or.inl ⟨HN.out.1, by rw [HE.out HN.out.1]⟩, HN.out.2⟩
  · have HF := Lib.hid hf
    have hn2 := (fnB_ok hf).b2
    have hr1 := (fnB_ok hf).r1
    have hr0 := (fnB_ok hf).rs0
    have HP := Lib.hid hp
    have hn1 := (fnB_ok hf).b1
    obtain ⟨g2, o2, c2, Ao, co, eb, r1, r2, r3, -⟩ := hp.bl_ (b := 0) (by omega)
    cases eb
    have HB1 := Lib.hid (HBX.out.trans (below_of_le hb1 HBX.out.size))
    have hal := below2 w1 (.cells #[.pointer (some ⟨gp, 0, none⟩)] 61) (.cells #[.slice none 0 0] 31)
    obtain ⟨gP, hgP⟩ : ∃ gP, w1.heap.size = gP := ⟨_, rfl⟩
    have HW1 := Lib.hid (show Blk ((w1.alloc (.cells #[.pointer (some ⟨gp, 0, none⟩)] 61)).alloc (.cells #[.slice none 0 0] 31)) gP 61 #[.pointer (some ⟨gp, 0, none⟩)] ∧ Blk ((w1.alloc (.cells #[.pointer (some ⟨gp, 0, none⟩)] 61)).alloc (.cells #[.slice none 0 0] 31)) (gP + 1) 31 #[.slice none 0 0] ∧ Below w1.heap.size w1 ((w1.alloc (.cells #[.pointer (some ⟨gp, 0, none⟩)] 61)).alloc (.cells #[.slice none 0 0] 31)) from
      ⟨by rw [← hgP]; exact (Blk.new w1 _ _).alloc _, by rw [← hgP]; exact blk_at (w := w1.alloc _) (by simp [World.size_alloc]) _ _, hal⟩)
    have HUN := Lib.hid (unset_any gp F _ _ rv tov inv ouv ((w1.alloc (.cells #[.pointer (some ⟨gp, 0, none⟩)] 61)).alloc (.cells #[.slice none 0 0] 31)) (hp.below hal))
    have cp : ((w1.alloc (.cells #[.pointer (some ⟨gp, 0, none⟩)] 61)).alloc (.cells #[.slice none 0 0] 31)).cell? ⟨gP, 0, none⟩ = some (.pointer (some ⟨gp, 0, none⟩)) := (HW1.out.1.cell 0).trans rfl
    have he := enters19
    clear hb1 hp hf hal hr0
    go_wp2_with fail
    refine HUN.out.mono ?_
    rintro e w2 ⟨⟨gI, gs, rfl, hu, hok⟩, hb2⟩
    try rw [hgP]
    have HGP := Lib.hid (show w1.heap.size ≤ gP from by rw [hgP]; exact Nat.le_refl _)
    have HU := Lib.hid hu
    have HOK := Lib.hid hok
    have HPP := Lib.hid (show Blk w2 gP 61 #[.pointer (some ⟨gp, 0, none⟩)] from HW1.out.1.below hb2 HW1.out.1.lt)
    have HW2 := Lib.hid (show WaW w1 w2 F (gP + 1) (warnN F 0) w2 from ⟨⟨none, 0, 0, HW1.out.2.1.below hb2 HW1.out.2.1.lt, ⟨by simp [warnN], Or.inl ⟨rfl, rfl⟩⟩⟩, HW1.out.2.2.trans (below_of_le hb2 HW1.out.2.2.size), Kx.refl _⟩)
    clear hb2 hu hok HUN cp HW1 hgP
    go_wp2_with fail
    go_loopw [27] (fun i wr => ∃ k : Nat, k ≤ F.bl.length ∧ i = .int .i64 k ∧ Hid (WaW w1 w2 F (gP + 1) (warnN F k) wr)) (fun i _ => F.bl.length - (intOf i).toNat)
    case atStart => exact ⟨0, Nat.zero_le _, rfl, HW2.out⟩
    case round =>
      clear HW2
      obtain ⟨k, hk, rfl, HW⟩ := hrel
      by_cases hlt : k < F.bl.length
      · obtain ⟨csI, i1, i2, i3⟩ := HU.out.ib
        have y1 : wr.cell? ⟨gI, k, none⟩ = some (unV F gs F.bl.length k) := by
          rw [(HW.out.kx _ _ _ (by decide) (by decide) i1).cell, Array.getElem?_eq_getElem (by omega), i3]
        cases hrk : (rchL F).getD k false with
        | false =>
          rw [unV_no hrk] at y1
          have hnn := fun w => Lib.run_eql_slice_nil (P := Tryz.prog) w 66 4 none 0 0 0 0 und66
          have hal := below2 wr (.cells #[.int .i64 (k : Int)] 3) (.cells #[.slice none 0 0] 66)
          have HN := Lib.hid (show WaW w1 w2 F (gP + 1) (warnN F (k + 1)) ((wr.alloc (.cells #[.int .i64 (k : Int)] 3)).alloc (.cells #[.slice none 0 0] 66)) from by
            rw [warnN, hrk]; exact HW.out.below hal)
          clear HW hrk hal i1 i2 i3
          go_wp2_with fail
          go_roundw
          case rel => exact ⟨k + 1, by omega, by go_num, HN.out⟩
          case measure => simp [intOf]; omega
        | true =>
          rw [unV_yes hlt hrk] at y1
          obtain ⟨hro, hrl, -, -⟩ := HU.out.ro k hlt hrk
          obtain ⟨R, hR⟩ : ∃ R, F.rs.toNat = R := ⟨_, rfl⟩
          rw [hR] at y1 hro
          have hnn := fun w => Lib.run_eql_slice_nil (P := Tryz.prog) w 66 4 (some ⟨gs k, 0, none⟩) R R 0 0 und66
          have HWN := Lib.hid (show warnN F (k + 1) = warnN F k ++ opsN F k ((unL F).getD k []) (blk F k).os.length ++ exiF F k ((unL F).getD k []) from by rw [warnN, hrk]; rfl)
          obtain ⟨s0, hs0⟩ : ∃ s0, (unL F).getD k [] = s0 := ⟨_, rfl⟩
          rw [hs0] at HWN hro hrl
          have hal := below2 wr (.cells #[.int .i64 (k : Int)] 3) (.cells #[.slice (some ⟨gs k, 0, none⟩) R R] 66)
          obtain ⟨gb, hgb⟩ : ∃ gb, wr.heap.size = gb := ⟨_, rfl⟩
          have H0 := Lib.hid (show ∃ A n c, SeW w1 gp gP (gb + 1) gb (gP + 1) k (.slice (some ⟨gs k, 0, none⟩) R R) (.slice A n c) (warnN F k ++ opsN F k s0 0) ((wr.alloc (.cells #[.int .i64 (k : Int)] 3)).alloc (.cells #[.slice (some ⟨gs k, 0, none⟩) R R] 66)) ∧ Kx w2 ((wr.alloc (.cells #[.int .i64 (k : Int)] 3)).alloc (.cells #[.slice (some ⟨gs k, 0, none⟩) R R] 66)) from by
            have h5 := HW.out.below hal
            obtain ⟨A, n, c, h6, h7⟩ := h5.o
            refine ⟨A, n, c, ⟨h5.kx _ _ _ (by decide) (by decide) HPP.out, ?_, ?_, h6, by simpa [opsN] using h7, h5.be, ?_⟩, h5.kx⟩
            · rw [← hgb]; exact blk_at (w := wr.alloc _) (by simp [World.size_alloc]) _ _
            · rw [← hgb]; exact (Blk.new wr 3 _).alloc _
            · have := HGP.out; omega)
          have hBC := (HP.out.below HW.out.be).bl_ hlt
          obtain ⟨gB, oB, cB, Ab, nb, eb, t1, t2, t3, t4⟩ := HP.out.bl_ hlt
          cases eb
          obtain ⟨bk, hbk⟩ : ∃ bk, blk F k = bk := ⟨_, rfl⟩
          rw [hbk] at t4
          have HBK := Lib.hid hbk
          have HT4 := Lib.hid t4
          obtain ⟨u1, u2⟩ := t4.os.form.choose_spec.choose_spec.2
          have HOL := Lib.hid (show bk.os.length ≤ 4096 from by rw [← hbk]; exact os_le HP.out.ok k)
          rw [hbk] at HWN
          have HRO := Lib.hid (And.intro hro hrl)
          have HWK := Lib.hid (warnN_len HP.out.ok k)
          have hltk : (k : Int) < (F.bl.length : Int) := by omega
          have HCE := Lib.hid (fun W (hW : Below w1.heap.size w1 W) => show W.cell? ⟨gp, 4, none⟩ = some (.slice (some ⟨g2, o2, none⟩) F.bl.length c) ∧ W.cell? ⟨g2, o2 + k * 6, none⟩ = some (.slice Ab bk.os.length nb) from ⟨((HP.out.below hW).pb.cell 4).trans rfl, (hW.cell (p := ⟨g2, o2 + k * 6, none⟩) r3).trans HT4.out.c0⟩)
          obtain ⟨A0, n0, c0, hs9, hkx9⟩ := H0.out
          obtain ⟨a2, a4⟩ := HCE.out _ hs9.be
          have a1 := (hs9.pP.cell 0).trans rfl
          have a3 := (hs9.pb.cell 0).trans rfl
          clear HW hrk hal i1 i2 i3 hs0 hBC hbk t1 t2 t3 t4 u1 u2 hro hrl hs9 hkx9 hR
          go_wp2_with fail
          try rw [hgb]
          obtain ⟨W0, hW0⟩ : ∃ W0, (wr.alloc (.cells #[.int .i64 (k : Int)] 3)).alloc (.cells #[.slice (some ⟨gs k, 0, none⟩) R R] 66) = W0 := ⟨_, rfl⟩
          have HW0 := Lib.hid hW0
          rw [hW0] at a1 a2 a3 a4 H0 ⊢
          clear hW0 hgb
          refine wp_region_held_drew (S := (fun W => W.cell? ⟨gP, 0, none⟩ = some (.pointer (some ⟨gp, 0, none⟩)) ∧ W.cell? ⟨gp, 4, none⟩ = some (.slice (some ⟨g2, o2, none⟩) F.bl.length c) ∧ W.cell? ⟨gb, 0, none⟩ = some (.int .i64 (k : Int)) ∧ W.cell? ⟨g2, o2 + k * 6, none⟩ = some (.slice Ab bk.os.length nb))) (by kernel_rfl) ?_ (fun hHeld => ?_)
          · exact ⟨a1, a2, a3, a4⟩
          first
          | (refine wpAnyH_take (i := 0) (v := ?_) rfl (by kernel_rfl) (by kernel_rfl) (by kernel_rfl) (fun _ _ _ h => h) (Or.inl ⟨by rfl, ?_⟩) (by assumption) ?_
             rotate_left 1
             focus (intro w hSw; (try dsimp only at hSw); first | (go_simp; done) | (go_simp; with_reducible rfl))
             try simp only [Act.put, List.setIfInBounds_toArray, List.set_cons_zero, List.set_cons_succ, List.getElem_toArray, List.getElem_cons_succ, List.getElem_cons_zero])
          | (refine wpAnyH_take (i := 0) (v := undef) rfl (by kernel_rfl) (by kernel_rfl) (by kernel_rfl) (fun _ _ _ h => h) (Or.inr ⟨by rfl, rfl⟩) (by assumption) ?_
             try simp only [Act.put, List.setIfInBounds_toArray, List.set_cons_zero, List.set_cons_succ, List.getElem_toArray, List.getElem_cons_succ, List.getElem_cons_zero])
          first
          | (refine wpAnyH_take (i := 1) (v := ?_) rfl (by kernel_rfl) (by kernel_rfl) (by kernel_rfl) (fun _ _ _ h => h) (Or.inl ⟨by rfl, ?_⟩) (by assumption) ?_
             rotate_left 1
             focus (intro w hSw; (try dsimp only at hSw); first | (go_simp; done) | (go_simp; with_reducible rfl))
             try simp only [Act.put, List.setIfInBounds_toArray, List.set_cons_zero, List.set_cons_succ, List.getElem_toArray, List.getElem_cons_succ, List.getElem_cons_zero])
          | (refine wpAnyH_take (i := 1) (v := undef) rfl (by kernel_rfl) (by kernel_rfl) (by kernel_rfl) (fun _ _ _ h => h) (Or.inr ⟨by rfl, rfl⟩) (by assumption) ?_
             try simp only [Act.put, List.setIfInBounds_toArray, List.set_cons_zero, List.set_cons_succ, List.getElem_toArray, List.getElem_cons_succ, List.getElem_cons_zero])
          first
          | (refine wpAnyH_take (i := 2) (v := ?_) rfl (by kernel_rfl) (by kernel_rfl) (by kernel_rfl) (fun _ _ _ h => h) (Or.inl ⟨by rfl, ?_⟩) (by assumption) ?_
             rotate_left 1
             focus (intro w hSw; (try dsimp only at hSw); first | (go_simp; done) | (go_simp; with_reducible rfl))
             try simp only [Act.put, List.setIfInBounds_toArray, List.set_cons_zero, List.set_cons_succ, List.getElem_toArray, List.getElem_cons_succ, List.getElem_cons_zero])
          | (refine wpAnyH_take (i := 2) (v := undef) rfl (by kernel_rfl) (by kernel_rfl) (by kernel_rfl) (fun _ _ _ h => h) (Or.inr ⟨by rfl, rfl⟩) (by assumption) ?_
             try simp only [Act.put, List.setIfInBounds_toArray, List.set_cons_zero, List.set_cons_succ, List.getElem_toArray, List.getElem_cons_succ, List.getElem_cons_zero])
          first
          | (refine wpAnyH_take (i := 3) (v := ?_) rfl (by kernel_rfl) (by kernel_rfl) (by kernel_rfl) (fun _ _ _ h => h) (Or.inl ⟨by rfl, ?_⟩) (by assumption) ?_
             rotate_left 1
             focus (intro w hSw; (try dsimp only at hSw); first | (go_simp; done) | (go_simp; with_reducible rfl))
             try simp only [Act.put, List.setIfInBounds_toArray, List.set_cons_zero, List.set_cons_succ, List.getElem_toArray, List.getElem_cons_succ, List.getElem_cons_zero])
          | (refine wpAnyH_take (i := 3) (v := undef) rfl (by kernel_rfl) (by kernel_rfl) (by kernel_rfl) (fun _ _ _ h => h) (Or.inr ⟨by rfl, rfl⟩) (by assumption) ?_
             try simp only [Act.put, List.setIfInBounds_toArray, List.set_cons_zero, List.set_cons_succ, List.getElem_toArray, List.getElem_cons_succ, List.getElem_cons_zero])
          first
          | (refine wpAnyH_take (i := 4) (v := ?_) rfl (by kernel_rfl) (by kernel_rfl) (by kernel_rfl) (fun _ _ _ h => h) (Or.inl ⟨by rfl, ?_⟩) (by assumption) ?_
             rotate_left 1
             focus (intro w hSw; (try dsimp only at hSw); first | (go_simp; done) | (go_simp; with_reducible rfl))
             try simp only [Act.put, List.setIfInBounds_toArray, List.set_cons_zero, List.set_cons_succ, List.getElem_toArray, List.getElem_cons_succ, List.getElem_cons_zero])
          | (refine wpAnyH_take (i := 4) (v := undef) rfl (by kernel_rfl) (by kernel_rfl) (by kernel_rfl) (fun _ _ _ h => h) (Or.inr ⟨by rfl, rfl⟩) (by assumption) ?_
             try simp only [Act.put, List.setIfInBounds_toArray, List.set_cons_zero, List.set_cons_succ, List.getElem_toArray, List.getElem_cons_succ, List.getElem_cons_zero])
          first
          | (refine wpAnyH_take (i := 5) (v := ?_) rfl (by kernel_rfl) (by kernel_rfl) (by kernel_rfl) (fun _ _ _ h => h) (Or.inl ⟨by rfl, ?_⟩) (by assumption) ?_
             rotate_left 1
             focus (intro w hSw; (try dsimp only at hSw); first | (go_simp; done) | (go_simp; with_reducible rfl))
             try simp only [Act.put, List.setIfInBounds_toArray, List.set_cons_zero, List.set_cons_succ, List.getElem_toArray, List.getElem_cons_succ, List.getElem_cons_zero])
          | (refine wpAnyH_take (i := 5) (v := undef) rfl (by kernel_rfl) (by kernel_rfl) (by kernel_rfl) (fun _ _ _ h => h) (Or.inr ⟨by rfl, rfl⟩) (by assumption) ?_
             try simp only [Act.put, List.setIfInBounds_toArray, List.set_cons_zero, List.set_cons_succ, List.getElem_toArray, List.getElem_cons_succ, List.getElem_cons_zero])
          first
          | (refine wpAnyH_take (i := 6) (v := ?_) rfl (by kernel_rfl) (by kernel_rfl) (by kernel_rfl) (fun _ _ _ h => h) (Or.inl ⟨by rfl, ?_⟩) (by assumption) ?_
             rotate_left 1
             focus (intro w hSw; (try dsimp only at hSw); first | (go_simp; done) | (go_simp; with_reducible rfl))
             try simp only [Act.put, List.setIfInBounds_toArray, List.set_cons_zero, List.set_cons_succ, List.getElem_toArray, List.getElem_cons_succ, List.getElem_cons_zero])
          | (refine wpAnyH_take (i := 6) (v := undef) rfl (by kernel_rfl) (by kernel_rfl) (by kernel_rfl) (fun _ _ _ h => h) (Or.inr ⟨by rfl, rfl⟩) (by assumption) ?_
             try simp only [Act.put, List.setIfInBounds_toArray, List.set_cons_zero, List.set_cons_succ, List.getElem_toArray, List.getElem_cons_succ, List.getElem_cons_zero])
          first
          | (refine wpAnyH_take (i := 7) (v := ?_) rfl (by kernel_rfl) (by kernel_rfl) (by kernel_rfl) (fun _ _ _ h => h) (Or.inl ⟨by rfl, ?_⟩) (by assumption) ?_
             rotate_left 1
             focus (intro w hSw; (try dsimp only at hSw); first | (go_simp; done) | (go_simp; with_reducible rfl))
             try simp only [Act.put, List.setIfInBounds_toArray, List.set_cons_zero, List.set_cons_succ, List.getElem_toArray, List.getElem_cons_succ, List.getElem_cons_zero])
          | (refine wpAnyH_take (i := 7) (v := undef) rfl (by kernel_rfl) (by kernel_rfl) (by kernel_rfl) (fun _ _ _ h => h) (Or.inr ⟨by rfl, rfl⟩) (by assumption) ?_
             try simp only [Act.put, List.setIfInBounds_toArray, List.set_cons_zero, List.set_cons_succ, List.getElem_toArray, List.getElem_cons_succ, List.getElem_cons_zero])
          first
          | (refine wpAnyH_take (i := 8) (v := ?_) rfl (by kernel_rfl) (by kernel_rfl) (by kernel_rfl) (fun _ _ _ h => h) (Or.inl ⟨by rfl, ?_⟩) (by assumption) ?_
             rotate_left 1
             focus (intro w hSw; (try dsimp only at hSw); first | (go_simp; done) | (go_simp; with_reducible rfl))
             try simp only [Act.put, List.setIfInBounds_toArray, List.set_cons_zero, List.set_cons_succ, List.getElem_toArray, List.getElem_cons_succ, List.getElem_cons_zero])
          | (refine wpAnyH_take (i := 8) (v := undef) rfl (by kernel_rfl) (by kernel_rfl) (by kernel_rfl) (fun _ _ _ h => h) (Or.inr ⟨by rfl, rfl⟩) (by assumption) ?_
             try simp only [Act.put, List.setIfInBounds_toArray, List.set_cons_zero, List.set_cons_succ, List.getElem_toArray, List.getElem_cons_succ, List.getElem_cons_zero])
          first
          | (refine wpAnyH_take (i := 9) (v := ?_) rfl (by kernel_rfl) (by kernel_rfl) (by kernel_rfl) (fun _ _ _ h => h) (Or.inl ⟨by rfl, ?_⟩) (by assumption) ?_
             rotate_left 1
             focus (intro w hSw; (try dsimp only at hSw); first | (go_simp; done) | (go_simp; with_reducible rfl))
             try simp only [Act.put, List.setIfInBounds_toArray, List.set_cons_zero, List.set_cons_succ, List.getElem_toArray, List.getElem_cons_succ, List.getElem_cons_zero])
          | (refine wpAnyH_take (i := 9) (v := undef) rfl (by kernel_rfl) (by kernel_rfl) (by kernel_rfl) (fun _ _ _ h => h) (Or.inr ⟨by rfl, rfl⟩) (by assumption) ?_
             try simp only [Act.put, List.setIfInBounds_toArray, List.set_cons_zero, List.set_cons_succ, List.getElem_toArray, List.getElem_cons_succ, List.getElem_cons_zero])
          refine wpAnyH_done (by kernel_rfl) ?_ _
          have H1 := Lib.hid (show ∃ A n c, SeW w1 gp gP (gb + 1) gb (gP + 1) k (.slice (some ⟨gs k, 0, none⟩) R R) (.slice A n c) (warnN F k ++ opsN F k s0 0) W0.drew ∧ Kx w2 W0.drew from by
            obtain ⟨A, n, c, h6, h7⟩ := H0.out
            exact ⟨A, n, c, h6.below (drewB (Below.refl _ _)), h7.trans (Kx.of (drewB (Below.refl _ _)))⟩)
          clear a1 a2 a3 a4 H0 HW0 y1 hnn
          go_wp2_with fail
          go_loopw [46] (fun i wr => ∃ j : Nat, j ≤ bk.os.length ∧ i = .int .i64 j ∧ Hid (∃ A n c, SeW w1 gp gP (gb + 1) gb (gP + 1) k (.slice (some ⟨gs k, 0, none⟩) R R) (.slice A n c) (warnN F k ++ opsN F k s0 j) wr ∧ Kx w2 wr)) (fun i _ => bk.os.length - (intOf i).toNat)
          case atStart => exact ⟨0, Nat.zero_le _, rfl, H1.out⟩
          case round =>
            clear H1
            obtain ⟨j, hj, rfl, HQ⟩ := hrel
            obtain ⟨A7, n7, c7, q1, q2⟩ := HQ.out
            have hj4 : bk.os.length ≤ 4096 := HOL.out
            have hlen7 : (warnN F k ++ opsN F k s0 j).length ≤ 4000000000000 := by
              rw [List.length_append]
              have h8 := HWK.out
              have h9 := opsN_len HP.out.ok k s0 j (by rw [HBK.out]; exact hj)
              have h10 := HOL.out
              omega
            by_cases hjt : j < bk.os.length
            · obtain ⟨ga, oa, ca, ea, m1, m2, mg, mc⟩ := HT4.out.os.open_ (Nat.lt_of_le_of_lt (Nat.zero_le _) hjt)
              cases ea
              obtain ⟨av, d0, d1, d2, d3, d4, d5, d6, dar⟩ := mc j hjt
              obtain ⟨Aa, caa, rfl, -, -⟩ := dar.form
              have hopb : opB F.rs F.sl.length 4611686018427387904 bk.os[j] = true := by
                have h8 := op_ok HP.out.ok (b := k) (j := j) (by rw [HBK.out]; exact hjt)
                simp only [HBK.out] at h8
                exact h8
              have hsm := HP.out.fi.sm.ar F.bl[k] (List.getElem_mem hlt) bk.os[j] (by rw [← blk_at_ hlt, HBK.out]; exact List.getElem_mem hjt)
              have hst : opsN F k s0 (j + 1) = opsN F k s0 j ++ seeF F k j s0 (askL bk.os[j]) := by
                rw [opsN, os_getD (by rw [HBK.out]; exact hjt)]
                simp only [HBK.out]
              obtain ⟨o, ho⟩ : ∃ o, bk.os[j] = o := ⟨_, rfl⟩
              rw [ho] at d0 d1 d2 d3 d4 d5 d6 dar hopb hsm hst
              have hBj := q1.be
              have x0 := (hBj.cell (p := ⟨ga, oa + j * 7, none⟩) mg).trans d0
              have x1 := (hBj.cell (p := ⟨ga, oa + j * 7 + 1, none⟩) mg).trans d1
              have x2 := (hBj.cell (p := ⟨ga, oa + j * 7 + 2, none⟩) mg).trans d2
              have x3 := (hBj.cell (p := ⟨ga, oa + j * 7 + 3, none⟩) mg).trans d3
              have x4 := (hBj.cell (p := ⟨ga, oa + j * 7 + 4, none⟩) mg).trans d4
              have x5 := (hBj.cell (p := ⟨ga, oa + j * 7 + 5, none⟩) mg).trans d5
              have x6 := (hBj.cell (p := ⟨ga, oa + j * 7 + 6, none⟩) mg).trans d6
              have hal := below1 wr (.cells #[.int .i64 o.k, .int .i64 o.d, .int .i64 o.a, .int .i64 o.b, .int .i64 o.im, .string o.tx, .slice Aa o.ar.length caa] 75)
              have hB2 := hBj.trans (below_of_le hal hBj.size)
              have HAS := Lib.hid (asked_any o (.slice Aa o.ar.length caa) _ (dar.below hB2) (HP.out.fi.ke.below hB2) (mx hsm.2) hsm.1)
              unfold opv at HAS
              have HQ2 := Lib.hid (show SeW w1 gp gP (gb + 1) gb (gP + 1) k (.slice (some ⟨gs k, 0, none⟩) R R) (.slice A7 n7 c7) (warnN F k ++ opsN F k s0 j) (wr.alloc (.cells #[.int .i64 o.k, .int .i64 o.d, .int .i64 o.a, .int .i64 o.b, .int .i64 o.im, .string o.tx, .slice Aa o.ar.length caa] 75)) ∧ Kx w2 (wr.alloc (.cells #[.int .i64 o.k, .int .i64 o.d, .int .i64 o.a, .int .i64 o.b, .int .i64 o.im, .string o.tx, .slice Aa o.ar.length caa] 75)) from ⟨q1.below hal, q2.trans (Kx.of hal)⟩)
              have HAR := Lib.hid (askL_reg hopb)
              have HAL := Lib.hid (askL_len hopb)
              have HST := Lib.hid hst
              have HSM := Lib.hid hsm.1
              clear mc d0 d1 d2 d3 d4 d5 d6 dar hopb hsm ho hBj hal hB2 q1 q2 HQ hst
              go_wp2_with fail
              refine HAS.out.mono ?_
              rintro e w5 ⟨⟨a, rfl, hia⟩, hb5⟩
              have hq5 := HQ2.out.1.below hb5
              have hk5 := HQ2.out.2.trans (Kx.of hb5)
              have HSE := Lib.hid (see_any w1 gp F _ _ rv tov inv ouv gP (gb + 1) gb (gP + 1) k j (.slice (some ⟨gs k, 0, none⟩) R R) (.slice A7 n7 c7) a s0 (askL o) (warnN F k ++ opsN F k s0 j) w5 HP.out hq5 hlt (by rw [HBK.out]; omega) (hk5.ownB HRO.out.1).bools HRO.out.2 hia HAR.out hlen7 (Nat.le_trans HAL.out (by decide)))
              have HK5 := Lib.hid hk5
              obtain ⟨A5, c5, rfl, -, -⟩ := hia.form
              clear hia hb5 hq5 hk5 HQ2 HAS
              go_wp2_with fail
              refine HSE.out.mono ?_
              rintro e w6 ⟨rfl, ⟨A6, n6, c6, hs6⟩, hk6⟩
              have HN := Lib.hid (show ∃ A n c, SeW w1 gp gP (gb + 1) gb (gP + 1) k (.slice (some ⟨gs k, 0, none⟩) R R) (.slice A n c) (warnN F k ++ opsN F k s0 (j + 1)) w6 ∧ Kx w2 w6 from ⟨A6, n6, c6, by rw [HST.out, ← List.append_assoc]; exact hs6, HK5.out.trans hk6⟩)
              clear hs6 hk6 HSE HK5 HST
              go_wp2_with fail
              go_roundw
              case rel => exact ⟨j + 1, by omega, by go_num, HN.out⟩
              case measure => simp [intOf]; omega
            · have hje : j = bk.os.length := by omega
              subst hje
              have b1 : wr.cell? ⟨gP, 0, none⟩ = some (.pointer (some ⟨gp, 0, none⟩)) := (q1.pP.cell 0).trans rfl
              obtain ⟨b2, -⟩ := HCE.out _ q1.be
              have b3 : wr.cell? ⟨gb, 0, none⟩ = some (.int .i64 (k : Int)) := (q1.pb.cell 0).trans rfl
              have v1 := (q1.be.cell (p := ⟨g2, o2 + k * 6 + 1, none⟩) r3).trans HT4.out.c1
              have v2 := (q1.be.cell (p := ⟨g2, o2 + k * 6 + 2, none⟩) r3).trans HT4.out.c2
              have v3 := (q1.be.cell (p := ⟨g2, o2 + k * 6 + 3, none⟩) r3).trans HT4.out.c3
              have v4 := (q1.be.cell (p := ⟨g2, o2 + k * 6 + 4, none⟩) r3).trans HT4.out.c4
              have v5 := (q1.be.cell (p := ⟨g2, o2 + k * 6 + 5, none⟩) r3).trans HT4.out.c5
              have z1 := fun o => cell_al b1 o
              have z2 := fun o => cell_al b2 o
              have z3 := fun o => cell_al b3 o
              have y1 := fun o => cell_al v1 o
              have y2 := fun o => cell_al v2 o
              have y3 := fun o => cell_al v3 o
              have y4 := fun o => cell_al v4 o
              have y5 := fun o => cell_al v5 o
              have hal := below1 wr (.cells #[.int .i64 bk.x.k, .int .i64 bk.x.a, .int .i64 bk.x.d, .int .i64 bk.x.t, .int .i64 bk.x.e] 43)
              have HQ2 := Lib.hid (show SeW w1 gp gP (gb + 1) gb (gP + 1) k (.slice (some ⟨gs k, 0, none⟩) R R) (.slice A7 n7 c7) (warnN F k ++ opsN F k s0 bk.os.length) ((wr.alloc (.cells #[.int .i64 bk.x.k, .int .i64 bk.x.a, .int .i64 bk.x.d, .int .i64 bk.x.t, .int .i64 bk.x.e] 43)).drew) ∧ Kx w2 ((wr.alloc (.cells #[.int .i64 bk.x.k, .int .i64 bk.x.a, .int .i64 bk.x.d, .int .i64 bk.x.t, .int .i64 bk.x.e] 43)).drew) from ⟨q1.below (drewB hal), q2.trans (Kx.of (drewB hal))⟩)
              clear q1 q2 HQ hal
              go_wp2_with fail
              have HEX := Lib.hid (fun w => exits_any bk.x w)
              unfold exv at HEX
              have HER := Lib.hid (show ∀ r ∈ exR bk.x, 0 ≤ r ∧ r < F.rs from by have := exR_ok HP.out.ok k; rw [HBK.out] at this; exact this)
              have hel := exR_len bk.x
              have HXF := Lib.hid (show exiF F k s0 = (if bk.x.k = 3 then [] else seeF F k bk.os.length s0 (exR bk.x)) from by rw [exiF, HBK.out])
              go_region
              all_goals
                clear z1 z2 z3 y1 y2 y3 y4 y5 b1 b2 b3 v1 v2 v3 v4 v5
                cases h3 : (bk.x.k != 3) with
                | false =>
                  have hk3 : bk.x.k = 3 := by simpa using h3
                  have HN := Lib.hid (show WaW w1 w2 F (gP + 1) (warnN F (k + 1)) ((wr.alloc (.cells #[.int .i64 bk.x.k, .int .i64 bk.x.a, .int .i64 bk.x.d, .int .i64 bk.x.t, .int .i64 bk.x.e] 43)).drew) from by
                    rw [HWN.out, HXF.out, if_pos hk3, List.append_nil]
                    exact ⟨⟨A7, n7, c7, HQ2.out.1.pO, HQ2.out.1.ow⟩, HQ2.out.1.be, HQ2.out.2⟩)
                  clear hk3 HQ2
                  go_wp2_with fail
                  go_roundw
                  case rel => exact ⟨k + 1, by omega, by go_num, HN.out⟩
                  case measure => simp [intOf]; omega
                | true =>
                  have hk3 : ¬ bk.x.k = 3 := by simpa using h3
                  have HXG := Lib.hid (show warnN F (k + 1) = (warnN F k ++ opsN F k s0 bk.os.length) ++ seeF F k bk.os.length s0 (exR bk.x) from by rw [HWN.out, HXF.out, if_neg hk3])
                  clear hk3
                  go_wp2_with fail
                  refine (HEX.out _).mono ?_
                  rintro e w5 ⟨⟨ra, rb, rfl, ⟨hia, -⟩, ⟨hib, -⟩⟩, hb5⟩
                  have hq5 := HQ2.out.1.below hb5
                  have hk5 := HQ2.out.2.trans (Kx.of hb5)
                  have HSE := Lib.hid (see_any w1 gp F _ _ rv tov inv ouv gP (gb + 1) gb (gP + 1) k bk.os.length (.slice (some ⟨gs k, 0, none⟩) R R) (.slice A7 n7 c7) ra s0 (exR bk.x) (warnN F k ++ opsN F k s0 bk.os.length) w5 HP.out hq5 hlt (by rw [HBK.out]; exact Nat.le_refl _) (hk5.ownB HRO.out.1).bools HRO.out.2 hia HER.out hlen7 (by omega))
                  have HK5 := Lib.hid hk5
                  obtain ⟨A5, c5, rfl, -, -⟩ := hia.form
                  obtain ⟨A9, c9, rfl, -, -⟩ := hib.form
                  clear hia hib hb5 hq5 hk5 HQ2 HEX
                  go_wp2_with fail
                  refine HSE.out.mono ?_
                  rintro e w6 ⟨rfl, ⟨A6, n6, c6, hs6⟩, hk6⟩
                  have HN := Lib.hid (show WaW w1 w2 F (gP + 1) (warnN F (k + 1)) w6 from by
                    rw [HXG.out]
                    exact ⟨⟨A6, n6, c6, hs6.pO, hs6.ow⟩, hs6.be, HK5.out.trans hk6⟩)
                  clear hs6 hk6 HSE HK5
                  go_wp2_with fail
                  go_roundw
                  case rel => exact ⟨k + 1, by omega, by go_num, HN.out⟩
                  case measure => simp [intOf]; omega
      · have hke : k = F.bl.length := by omega
        subst hke
        obtain ⟨A, n, c', h6, h7⟩ := HW.out.o
        have cO : wr.cell? ⟨gP + 1, 0, none⟩ = some (.slice A n c') := (h6.cell 0).trans rfl
        have HN := Lib.hid (show OwnS wr w.heap.size (.slice A n c') (warnL F) ∧ Below w.heap.size w wr from ⟨ownsRow_lower h7 HB1.out.size, HB1.out.trans (below_of_le HW.out.be HB1.out.size)⟩)
        clear HW h6 h7
        go_wp2_with fail
        refine bodyPost_ret (v := .tuple #[.slice A n c', .int .i64 0]) (by simp [results, Tryz.results7, go_sem]) rfl ⟨Or.inr ⟨HF.out, _, rfl, HN.out.1⟩, HN.out.2⟩
end Go.Proofs.YtlmoblmkhicoeaaGreatDoor
