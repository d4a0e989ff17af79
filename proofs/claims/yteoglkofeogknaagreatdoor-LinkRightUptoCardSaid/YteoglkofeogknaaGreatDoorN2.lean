/- Walk: asm.Join. Conditions: what the theorem states. -/
import Derived.Test.YteoglkofeogknaaGreatDoorQA
import Derived.Deep.CutRange
import Derived.BigRegion
set_option linter.unusedVariables false
set_option linter.unusedSimpArgs false
namespace Go.Proofs.YteoglkofeogknaaGreatDoor
open Go.RowKit
theorem RowOf.clip {W : World} {A : Option Addr} {n c k : Nat} {xs : List Value} (h : RowOf W (.slice A n c) k xs) : RowOf W (.slice A n n) k xs := by
  obtain ⟨A', c', e, h1, h2, h3⟩ := h
  injection e with e1 e2 e3
  subst e1 e2 e3
  exact ⟨A, n, rfl, Nat.le_refl _, Nat.le_trans h1 h2, h3⟩
theorem KB.rj {w W : World} {p b : Nat} {px bx : Array Value} {z1 z2 z3 z4 : Value} {J : Ob} {S : List ByteArray} (h : KB w W p b px bx z1 z2 z3 z4 J S) : RJ w W p := ⟨h.below, by have := h.sz; have := h.pb; omega, h.res, h.flt⟩
theorem KB.new {w W : World} {p : Nat} (h : RJ w W p) : KB w (((W.alloc (.cells #[.slice none 0 0, .slice none 0 0] 74)).alloc (.cells #[.slice none 0 0, .slice none 0 0, .slice none 0 0, .slice none 0 0] 41)).alloc (.map #[] 0)) p W.heap.size #[.slice none 0 0, .slice none 0 0] #[.slice none 0 0, .slice none 0 0, .slice none 0 0, .slice none 0 0] (.slice none 0 0) (.slice none 0 0) (.slice none 0 0) (.slice none 0 0) ⟨[], [], [], []⟩ [] := by
  have hr := ((h.bel ((Below.refl _ _).alloc (Nat.le_refl _) (.cells #[.slice none 0 0, .slice none 0 0] 74))).bel ((Below.refl _ _).alloc (Nat.le_refl _) (.cells #[.slice none 0 0, .slice none 0 0, .slice none 0 0, .slice none 0 0] 41))).bel ((Below.refl _ _).alloc (Nat.le_refl _) (.map #[] 0))
  have hm := SetAt.new ((W.alloc (.cells #[.slice none 0 0, .slice none 0 0] 74)).alloc (.cells #[.slice none 0 0, .slice none 0 0, .slice none 0 0, .slice none 0 0] 41))
  have hsz : ((W.alloc (.cells #[.slice none 0 0, .slice none 0 0] 74)).alloc (.cells #[.slice none 0 0, .slice none 0 0, .slice none 0 0, .slice none 0 0] 41)).heap.size = W.heap.size + 2 := by simp
  rw [hsz] at hm
  exact ⟨hr.below, h.size, hr.ob, hr.fl, ((Blk.new W _ _).alloc _).alloc _, (blk_at (by simp) _ _).alloc _, hm, by simp, ⟨rfl, Or.inl ⟨rfl, rfl⟩⟩, ⟨rfl, Or.inl ⟨rfl, rfl⟩⟩, ⟨rfl, Or.inl ⟨rfl, rfl⟩⟩, ⟨rfl, Or.inl ⟨rfl, rfl⟩⟩, fun g hg => by cases hg⟩
set_option maxRecDepth 100000 in
set_option maxHeartbeats 40000000 in
theorem join_any (v : Value) (os : List Ob) (w : World) (h : OsAt w v os) (ho : OpsAt w) (h0 : 0 < w.heap.size) (hnm : ∀ o ∈ os, NmOK o) (hN : os.length ≤ 1073741824) (hB : ∀ k, k ≤ os.length → SzOK (joinO (os.take k))) :
    Calls Tryz.prog 9 #[v] w (JPostO os w) := by
  have hmm := @run_makeMap Tryz.prog
  obtain ⟨p, hp⟩ : ∃ p, w.heap.size = p := ⟨_, rfl⟩
  have HO := Lib.hid h
  have HOP := Lib.hid ho
  have HNM := Lib.hid hnm
  have HSZ := Lib.hid hB
  obtain ⟨A, cap, rfl, q1, q2⟩ := h.form
  unfold maxLen at q2
  obtain ⟨N, hNN⟩ : ∃ N, os.length = N := ⟨_, rfl⟩
  have HN := Lib.hid hNN
  rw [hNN] at HO hN q1 ⊢
  clear h ho hnm hNN hB
  have HST : Hid (RJ w ((w.alloc (.cells #[.slice none 0 0, .slice none 0 0, .slice none 0 0, .slice none 0 0] 41)).alloc (.cells #[.int .i64 0, .int .i64 0] 34)) p) := by
    subst hp
    exact ⟨((Below.refl _ _).alloc (Nat.le_refl _) _).alloc (by simp) _, by simp, (Blk.new w _ _).alloc _, blk_at (by simp) _ _⟩
  have HP := Lib.hid hp
  go_enter Tryz.func9, Tryz.ntmps9
  go_wp2_with fail
  try rw [hp]
  go_loopw [20] (fun iv W => ∃ k : Nat, k ≤ N ∧ iv = .int .i64 k ∧ Hid ((List.range k).any (badAt os) = false) ∧ Hid (RJ w W p)) (fun iv _ => N - (intOf iv).toNat)
  case atStart => exact ⟨0, Nat.zero_le _, rfl, rfl, HST.out⟩
  case round =>
    clear HST
    obtain ⟨k, hk, rfl, HA, HI⟩ := hrel
    by_cases hlt : k < N
    · as_aux_lemma =>
      have hkl : k < os.length := by rw [HN.out]; exact hlt
      obtain ⟨g, off, rfl, hc⟩ := HO.out.at_ (by omega)
      obtain ⟨v1, v2, v3, v4, c0, c1, c2, c3, hob⟩ := hc k hkl
      obtain ⟨o, hoo⟩ : ∃ o, os.getD k default = o := ⟨_, rfl⟩
      rw [hoo] at hob
      have hmem : o ∈ os := by rw [← hoo]; simp [List.getD, hkl]
      have hbw : ∀ {a : Addr} {v : Value}, w.cell? a = some v → wr.cell? a = some v := fun h => (HI.out.below.cell (by have := cell_lt h; rw [HP.out] at this; exact this)).trans h
      replace c0 := hbw c0
      replace c1 := hbw c1
      replace c2 := hbw c2
      replace c3 := hbw c3
      have hbel : Below w.heap.size w wr := by rw [HP.out]; exact HI.out.below
      have HZ : Hid (ObAt wr v1 v2 v3 v4 o ∧ OpsAt wr ∧ 0 < wr.heap.size) := ⟨hob.below hbel, HOP.out.below h0 hbel, Nat.lt_of_lt_of_le h0 hbel.size⟩
      have HNO := Lib.hid (HNM.out o hmem)
      obtain ⟨A1, d1, rfl, _⟩ := hob.tx.form
      obtain ⟨A2, d2, rfl, _⟩ := hob.dt.form
      obtain ⟨A3, d3, rfl, _, _⟩ := hob.lb.form
      obtain ⟨A4, d4, rfl, _, _⟩ := hob.rl.form
      have HBD : Hid (badAt os k = (chkO o != 0)) := by show _ = _; unfold badAt; rw [hoo]
      have HOO := Lib.hid hoo
      clear hob hc hbw hmem hoo hbel
      have e3 : (k : Int) < (N : Int) := by omega
      have e5 : (0 : Int) ≤ (k : Int) := by omega
      have e6 : IntKind.i64.wrap ((k : Int) + 1) = ((k + 1 : Nat) : Int) := by rw [IntWalk.i64_in _ (by omega)]; omega
      obtain ⟨q, hq⟩ : ∃ q, wr.heap.size = q := ⟨_, rfl⟩
      go_upto_region 4 with fail
      try rw [hq]
      obtain ⟨w0, hw0⟩ : ∃ w0, wr.alloc (.cells #[.slice A1 o.tx.length d1, .slice A2 o.dt.length d2, .slice A3 o.lb.length d3, .slice A4 o.rl.length d4] 41) = w0 := ⟨_, rfl⟩
      rw [hw0]
      have hb0 : Below wr.heap.size wr w0 := by rw [← hw0]; exact (Below.refl _ _).alloc (Nat.le_refl _) _
      have hblk : Blk w0 q 41 #[.slice A1 o.tx.length d1, .slice A2 o.dt.length d2, .slice A3 o.lb.length d3, .slice A4 o.rl.length d4] := by
        have := Blk.new wr 41 #[.slice A1 o.tx.length d1, .slice A2 o.dt.length d2, .slice A3 o.lb.length d3, .slice A4 o.rl.length d4]
        rwa [hw0, hq] at this
      have HCK := Lib.hid (acheck_any _ _ _ _ o w0 (HZ.out.1.below hb0) (HZ.out.2.1.below HZ.out.2.2 hb0) (Nat.lt_of_lt_of_le HZ.out.2.2 hb0.size) HNO.out)
      have HI0 := Lib.hid (HI.out.bel hb0)
      have q0 : w0.cell? ⟨q, 0, none⟩ = some (.slice A1 o.tx.length d1) := by rw [hblk.cell]; rfl
      have q1 : w0.cell? ⟨q, 1, none⟩ = some (.slice A2 o.dt.length d2) := by rw [hblk.cell]; rfl
      have q2 : w0.cell? ⟨q, 2, none⟩ = some (.slice A3 o.lb.length d3) := by rw [hblk.cell]; rfl
      have q3 : w0.cell? ⟨q, 3, none⟩ = some (.slice A4 o.rl.length d4) := by rw [hblk.cell]; rfl
      clear hblk hb0 hw0 hq HI c0 c1 c2 c3
      go_wp2_with fail
      refine HCK.out.mono ?_
      rintro e w1 ⟨rfl, hb⟩
      have HI1 := Lib.hid (HI0.out.bel hb)
      clear hb HI0 HCK q0 q1 q2 q3
      by_cases hz : chkO o = 0
      · have HA2 : Hid ((List.range (k + 1)).any (badAt os) = false) := rng_miss HA.out (by rw [HBD.out, hz]; rfl)
        rw [hz]
        go_wp2_with fail
        go_roundw
        case rel => exact ⟨k + 1, by omega, by go_num, HA2.out, HI1.out⟩
        case measure => simp [intOf]; omega
      · have hz2 : (chkO o == 0) = false := by simpa using hz
        have hj := jres_bad hkl (by rw [HBD.out]; simp [hz]) HA.out
        rw [HOO.out] at hj
        have HJR := Lib.hid hj
        clear hj
        obtain ⟨z, hzz⟩ : ∃ z, chkO o = z := ⟨_, rfl⟩
        rw [hzz] at hz2 HJR ⊢
        clear hz hzz
        have r0 : w1.cell? ⟨p, 0, none⟩ = some (.slice none 0 0) := by rw [HI1.out.ob.cell]; rfl
        have r1 : w1.cell? ⟨p, 1, none⟩ = some (.slice none 0 0) := by rw [HI1.out.ob.cell]; rfl
        have r2 : w1.cell? ⟨p, 2, none⟩ = some (.slice none 0 0) := by rw [HI1.out.ob.cell]; rfl
        have r3 : w1.cell? ⟨p, 3, none⟩ = some (.slice none 0 0) := by rw [HI1.out.ob.cell]; rfl
        have s0 : w1.cell? ⟨p + 1, 0, none⟩ = some (.int .i64 0) := by rw [HI1.out.fl.cell]; rfl
        have s1 : w1.cell? ⟨p + 1, 1, none⟩ = some (.int .i64 0) := by rw [HI1.out.fl.cell]; rfl
        have f0 := HI1.out.ob.frozen 0
        have f1 := HI1.out.ob.frozen 1
        have f2 := HI1.out.ob.frozen 2
        have f3 := HI1.out.ob.frozen 3
        have f4 := HI1.out.fl.frozen 0
        have f5 := HI1.out.fl.frozen 1
        have HF := Lib.hid (HI1.out.out (.slice none 0 0) (.slice none 0 0) (.slice none 0 0) (.slice none 0 0) k z)
        clear HI1
        go_wp2_with fail
        obtain ⟨W6, hW6, h1, hkk, h2, h3⟩ := HF.out
        rw [← hW6]
        have y0 := h2.cell 0
        have y1 := h2.cell 1
        have y2 := h2.cell 2
        have y3 := h2.cell 3
        have u0 := h3.cell 0
        have u1 := h3.cell 1
        refine bodyPost_ret (v := .tuple #[.agg #[.slice none 0 0, .slice none 0 0, .slice none 0 0, .slice none 0 0], .agg #[.int .i64 k, .int .i64 z]]) (by simp [results, Tryz.results9, y0, y1, y2, y3, u0, u1, go_sem]) rfl ?_
        exact ⟨none, 0, 0, 0, _, _, _, by rw [HJR.out], by rw [HJR.out]; exact obnil, by rw [HP.out]; exact h1, ⟨[], rfl, Or.inl ⟨rfl, rfl⟩⟩, 0, [], rfl, Or.inl ⟨rfl, rfl⟩⟩
    · have hkn : k = N := by omega
      subst hkn
      have HAL : Hid ((List.range os.length).any (badAt os) = false) := by show _ = _; rw [HN.out]; exact HA.out
      obtain ⟨b, hbb⟩ : ∃ b, wr.heap.size = b := ⟨_, rfl⟩
      have HKS : Hid (KB w (((wr.alloc (.cells #[.slice none 0 0, .slice none 0 0] 74)).alloc (.cells #[.slice none 0 0, .slice none 0 0, .slice none 0 0, .slice none 0 0] 41)).alloc (.map #[] 0)) p b #[.slice none 0 0, .slice none 0 0] #[.slice none 0 0, .slice none 0 0, .slice none 0 0, .slice none 0 0] (.slice none 0 0) (.slice none 0 0) (.slice none 0 0) (.slice none 0 0) (joinO (os.take 0)) (namesO (os.take 0))) := by
        subst hbb
        exact KB.new HI.out
      clear hlt hk HA HI
      go_upto_region 11 with fail
      try rw [hbb]
      generalize hws : ((wr.alloc (.cells #[.slice none 0 0, .slice none 0 0] 74)).alloc (.cells #[.slice none 0 0, .slice none 0 0, .slice none 0 0, .slice none 0 0] 41)).alloc (.map #[] 0) = ws at HKS ⊢
      clear hws hbb
      have HKT : Hid (∃ z1 z2 z3 z4, KB w ws p b #[z1, z2] #[.slice none 0 0, .slice none 0 0, z3, z4] z1 z2 z3 z4 (joinO (os.take 0)) (namesO (os.take 0))) := ⟨_, _, _, _, HKS.out⟩
      clear HKS
      go_wp2_with fail
      go_loopw [37] (fun iv W => ∃ i : Nat, i ≤ k ∧ iv = .int .i64 i ∧ Hid ((List.range i).any (dupAt os) = false) ∧ Hid (∃ z1 z2 z3 z4, KB w W p b #[z1, z2] #[.slice none 0 0, .slice none 0 0, z3, z4] z1 z2 z3 z4 (joinO (os.take i)) (namesO (os.take i)))) (fun iv _ => k - (intOf iv).toNat)
      case atStart => exact ⟨0, Nat.zero_le _, rfl, rfl, HKT.out⟩
      case round =>
        clear HKT
        obtain ⟨i, hi, rfl, HD, HK⟩ := hrel
        by_cases hlt : i < k
        · as_aux_lemma =>
          have hil : i < os.length := by rw [HN.out]; exact hlt
          have HIL := Lib.hid hil
          obtain ⟨z1, z2, z3, z4, hks⟩ := HK.out
          obtain ⟨g, off, rfl, hc⟩ := HO.out.at_ (by omega)
          obtain ⟨v1, v2, v3, v4, c0, c1, c2, c3, hob⟩ := hc i hil
          obtain ⟨o, hoo⟩ : ∃ o, os.getD i default = o := ⟨_, rfl⟩
          rw [hoo] at hob
          have hmem : o ∈ os := by rw [← hoo]; simp [List.getD, hil]
          have hbw : ∀ {a : Addr} {v : Value}, w.cell? a = some v → wr.cell? a = some v := fun h => (hks.below.cell (by have := cell_lt h; rw [HP.out] at this; exact this)).trans h
          replace c0 := hbw c0
          replace c1 := hbw c1
          replace c2 := hbw c2
          replace c3 := hbw c3
          obtain ⟨A1, d1, rfl, _⟩ := hob.tx.form
          obtain ⟨A2, d2, rfl, _⟩ := hob.dt.form
          obtain ⟨A3, d3, rfl, l3, m3⟩ := hob.lb.form
          obtain ⟨A4, d4, rfl, l4, m4⟩ := hob.rl.form
          unfold maxLen at m3 m4
          have HOB := Lib.hid hob
          have HOO := Lib.hid hoo
          have HNO := Lib.hid (HNM.out o hmem)
          have HRO : Hid (Rgt o ∧ longO o = false ∧ (List.range o.lb.length).any (badL o) = false ∧ (List.range o.rl.length).any (badR o) = false) := by
            have hz := all_right HAL.out o hmem
            exact ⟨rgt_of hz, chk_ok hz⟩
          have HSJ := Lib.hid (HSZ.out i (by omega))
          obtain ⟨M3, hM3⟩ : ∃ M3, o.lb.length = M3 := ⟨_, rfl⟩
          obtain ⟨M4, hM4⟩ : ∃ M4, o.rl.length = M4 := ⟨_, rfl⟩
          have HM3 := Lib.hid hM3
          have HM4 := Lib.hid hM4
          rw [hM3] at HOB l3 c2
          rw [hM4] at HOB l4 c3
          have e3 : (i : Int) < (k : Int) := by omega
          have e5 : (0 : Int) ≤ (i : Int) := by omega
          have e6 : IntKind.i64.wrap ((i : Int) + 1) = ((i + 1 : Nat) : Int) := by rw [IntWalk.i64_in _ (by omega)]; omega
          have HLT := Lib.hid hlt
          have HKJ := Lib.hid hks
          clear hc hbw hob hoo hmem hks HK hM3 hM4 hlt
          go_upto_region 14 with fail
          obtain ⟨q, hq⟩ : ∃ q, wr.heap.size = q := ⟨_, rfl⟩
          try rw [hq]
          obtain ⟨w2, hw2⟩ : ∃ w2, wr.alloc (.cells #[.slice A1 o.tx.length d1, .slice A2 o.dt.length d2, .slice A3 M3 d3, .slice A4 M4 d4] 41) = w2 := ⟨_, rfl⟩
          rw [hw2]
          have HKQ : Hid (KB w w2 p b #[z1, z2] #[.slice none 0 0, .slice none 0 0, z3, z4] z1 z2 z3 z4 (joinO (os.take i)) (namesO (os.take i)) ∧ Blk w2 q 41 #[.slice A1 o.tx.length d1, .slice A2 o.dt.length d2, .slice A3 M3 d3, .slice A4 M4 d4] ∧ b + 3 ≤ q) := by
            have hb : Below wr.heap.size wr w2 := by rw [← hw2]; exact (Below.refl _ _).alloc (Nat.le_refl _) _
            refine ⟨HKJ.out.bel hb, ?_, by have := HKJ.out.sz; omega⟩
            have := Blk.new wr 41 #[.slice A1 o.tx.length d1, .slice A2 o.dt.length d2, .slice A3 M3 d3, .slice A4 M4 d4]
            rwa [hw2, hq] at this
          have b2 : w2.cell? ⟨q, 2, none⟩ = some (.slice A3 M3 d3) := by rw [HKQ.out.2.1.cell]; rfl
          clear hw2 hq HKJ c0 c1 c2 c3
          generalize decide ((i : Int) < (k : Int)) = bik
          go_upto_region 15 with fail
          clear b2
          go_loopw [45] (fun av W => ∃ a : Nat, a ≤ M3 ∧ av = .int .i64 a ∧ Hid (((o.lb.take a).any fun x => amongB (namesO (os.take i)) x.nm) = false) ∧ Hid (KB w W p b #[z1, z2] #[.slice none 0 0, .slice none 0 0, z3, z4] z1 z2 z3 z4 (joinO (os.take i)) ((namesO (os.take i)) ++ (o.lb.take a).map Lbl.nm) ∧ Blk W q 41 #[.slice A1 o.tx.length d1, .slice A2 o.dt.length d2, .slice A3 M3 d3, .slice A4 M4 d4] ∧ b + 3 ≤ q)) (fun av _ => M3 - (intOf av).toNat)
          case atStart => exact ⟨0, Nat.zero_le _, rfl, rfl, Lib.hid (by have h := HKQ.out; simpa using h)⟩
          case round =>
            clear HKQ
            obtain ⟨a, ha, rfl, HDA, HK⟩ := hrel
            by_cases hlt2 : a < M3
            · as_aux_lemma =>
              have hal : a < o.lb.length := by rw [HM3.out]; exact hlt2
              obtain ⟨g6, off6, rfl, _, hc6⟩ := HOB.out.lb.at_ (by omega)
              obtain ⟨x, hx⟩ : ∃ x, o.lb.getD a default = x := ⟨_, rfl⟩
              have hcx := hc6 a hal
              rw [hx] at hcx
              have hxm : x ∈ o.lb := by rw [← hx]; simp [List.getD, hal]
              have HXS := Lib.hid (HNO.out.1 x hxm)
              have hww : ∀ {a : Addr} {v : Value}, w.cell? a = some v → wr.cell? a = some v := fun h => (HK.out.1.below.cell (by have := cell_lt h; rw [HP.out] at this; exact this)).trans h
              obtain ⟨x0, x1, x2, x3⟩ := hcx
              replace x0 := hww x0
              replace x1 := hww x1
              replace x2 := hww x2
              replace x3 := hww x3
              have HX := Lib.hid hx
              clear hww hc6 hx hxm
              have e8 : (a : Int) < (M3 : Int) := by omega
              have e9 : (0 : Int) ≤ (a : Int) := by omega
              have e10 : IntKind.i64.wrap ((a : Int) + 1) = ((a + 1 : Nat) : Int) := by rw [IntWalk.i64_in _ (by omega)]; omega
              have HIN : Hid (amongB ((namesO (os.take i)) ++ (o.lb.take a).map Lbl.nm) x.nm = amongB (namesO (os.take i)) x.nm) := by
                show _ = _
                have h1 := rng_all HRO.out.2.2.1 hal
                unfold badL lblB at h1
                rw [HX.out] at h1
                simp only [Bool.or_eq_false_iff] at h1
                have h2 := h1.1.1.1.1.1.2
                unfold amongB at h2 ⊢
                rw [List.any_append, h2, Bool.or_false]
              obtain ⟨nm, sec, at_, gl⟩ := x
              dsimp only at x0 x1 x2 x3 HXS HIN
              go_upto_region 17 with fail
              obtain ⟨s, hs⟩ : ∃ s, wr.heap.size = s := ⟨_, rfl⟩
              try rw [hs]
              obtain ⟨w5, hw5⟩ : ∃ w5, wr.alloc (.cells #[.string nm, .int .i64 sec, .int .i64 at_, .bool gl] 68) = w5 := ⟨_, rfl⟩
              rw [hw5]
              have hb5 : Below wr.heap.size wr w5 := by rw [← hw5]; exact (Below.refl _ _).alloc (Nat.le_refl _) _
              have hbl : Blk w5 s 68 #[.string nm, .int .i64 sec, .int .i64 at_, .bool gl] := by
                have := Blk.new wr 68 #[.string nm, .int .i64 sec, .int .i64 at_, .bool gl]
                rwa [hw5, hs] at this
              have HK5 : Hid (KB w w5 p b #[z1, z2] #[.slice none 0 0, .slice none 0 0, z3, z4] z1 z2 z3 z4 (joinO (os.take i)) ((namesO (os.take i)) ++ (o.lb.take a).map Lbl.nm) ∧ Blk w5 q 41 #[.slice A1 o.tx.length d1, .slice A2 o.dt.length d2, .slice (some ⟨g6, off6, none⟩) M3 d3, .slice A4 M4 d4] ∧ b + 3 ≤ q) := ⟨HK.out.1.bel hb5, HK.out.2.1.below hb5 HK.out.2.1.lt, HK.out.2.2⟩
              have t0 : w5.cell? ⟨s, 0, none⟩ = some (.string nm) := by rw [hbl.cell]; rfl
              have hlk := HK5.out.1.mp.look nm HXS.out
              rw [HIN.out] at hlk
              have HLK := Lib.hid hlk
              clear hbl hb5 hw5 hs HK x0 x1 x2 x3 hlk
              cases hd : amongB (namesO (os.take i)) nm with
              | true =>
                have HJR : Hid (jres os = (⟨[], [], [], []⟩, (i : Int), 51)) := by
                  refine jres_dup HAL.out HIL.out ?_ HD.out
                  unfold dupAt
                  rw [HOO.out, List.any_eq_true]
                  exact ⟨o.lb.getD a default, by simp [List.getD, hal], by rw [HX.out]; exact hd⟩
                rw [hd] at HLK
                have hlk := HLK.out
                have HRJ := Lib.hid HK5.out.1.rj
                have r0 : w5.cell? ⟨p, 0, none⟩ = some (.slice none 0 0) := by rw [HRJ.out.ob.cell]; rfl
                have r1 : w5.cell? ⟨p, 1, none⟩ = some (.slice none 0 0) := by rw [HRJ.out.ob.cell]; rfl
                have r2 : w5.cell? ⟨p, 2, none⟩ = some (.slice none 0 0) := by rw [HRJ.out.ob.cell]; rfl
                have r3 : w5.cell? ⟨p, 3, none⟩ = some (.slice none 0 0) := by rw [HRJ.out.ob.cell]; rfl
                have s0 : w5.cell? ⟨p + 1, 0, none⟩ = some (.int .i64 0) := by rw [HRJ.out.fl.cell]; rfl
                have s1 : w5.cell? ⟨p + 1, 1, none⟩ = some (.int .i64 0) := by rw [HRJ.out.fl.cell]; rfl
                have f0 := HRJ.out.ob.frozen 0
                have f1 := HRJ.out.ob.frozen 1
                have f2 := HRJ.out.ob.frozen 2
                have f3 := HRJ.out.ob.frozen 3
                have f4 := HRJ.out.fl.frozen 0
                have f5 := HRJ.out.fl.frozen 1
                have HF := Lib.hid (HRJ.out.out (.slice none 0 0) (.slice none 0 0) (.slice none 0 0) (.slice none 0 0) i 51)
                clear HRJ HK5 HLK hd
                go_wp2_with fail
                obtain ⟨W6, hW6, h1, hkk, h2, h3⟩ := HF.out
                rw [← hW6]
                have y0 := h2.cell 0
                have y1 := h2.cell 1
                have y2 := h2.cell 2
                have y3 := h2.cell 3
                have u0 := h3.cell 0
                have u1 := h3.cell 1
                refine bodyPost_ret (v := .tuple #[.agg #[.slice none 0 0, .slice none 0 0, .slice none 0 0, .slice none 0 0], .agg #[.int .i64 i, .int .i64 51]]) (by simp [results, Tryz.results9, y0, y1, y2, y3, u0, u1, go_sem]) rfl ?_
                exact ⟨none, 0, 0, 0, _, _, _, by rw [HJR.out], by rw [HJR.out]; exact obnil, by rw [HP.out]; exact h1, ⟨[], rfl, Or.inl ⟨rfl, rfl⟩⟩, 0, [], rfl, Or.inl ⟨rfl, rfl⟩⟩
              | false =>
                rw [hd] at HLK
                have hlk := HLK.out
                have HDA2 : Hid (((o.lb.take (a + 1)).any fun x => amongB (namesO (os.take i)) x.nm) = false) := by
                  show _ = _
                  have e : o.lb[a] = ⟨nm, sec, at_, gl⟩ := by rw [← HX.out]; simp [List.getD, hal]
                  rw [List.take_succ_eq_append_getElem hal, List.any_append, HDA.out, e]
                  simp [hd]
                obtain ⟨w6, hup, hset, hgr⟩ := HK5.out.1.mp.put nm HXS.out (by
                  have h1 := HSJ.out.2.2.1
                  have h2 := short_le HRO.out.2.1
                  have h3 : (namesO (os.take i)).length = (joinO (os.take i)).lb.length := by rw [← joinO_names, List.length_map]
                  have h4 := HM3.out
                  rw [List.length_append, List.length_map, List.length_take]
                  unfold maxLen
                  omega)
                have HK6 : Hid (KB w w6 p b #[z1, z2] #[.slice none 0 0, .slice none 0 0, z3, z4] z1 z2 z3 z4 (joinO (os.take i)) ((namesO (os.take i)) ++ (o.lb.take (a + 1)).map Lbl.nm) ∧ Blk w6 q 41 #[.slice A1 o.tx.length d1, .slice A2 o.dt.length d2, .slice (some ⟨g6, off6, none⟩) M3 d3, .slice A4 M4 d4] ∧ b + 3 ≤ q) := by
                  have e : o.lb[a] = ⟨nm, sec, at_, gl⟩ := by rw [← HX.out]; simp [List.getD, hal]
                  have e2 : (namesO (os.take i)) ++ (o.lb.take (a + 1)).map Lbl.nm = (namesO (os.take i)) ++ (o.lb.take a).map Lbl.nm ++ [nm] := by
                    rw [List.take_succ_eq_append_getElem hal, List.map_append, e, List.append_assoc]
                    rfl
                  refine ⟨HK5.out.1.putM hgr ?_, HK5.out.2.1.grown hgr (fun h => by injection h with h; have := HK5.out.2.2; omega), HK5.out.2.2⟩
                  rw [e2, List.length_append]
                  exact hset
                have hup2 := hup
                clear hup HK5 HLK hset hgr hd
                go_wp2_with fail
                go_roundw
                case rel => exact ⟨a + 1, by omega, by go_num, HDA2.out, HK6.out⟩
                case measure => simp [intOf]; omega
            · have han : a = M3 := by omega
              have HND : Hid (dupAt os i = false) := by
                show _ = _
                have hd := HDA.out
                rw [List.take_of_length_le (l := o.lb) (by rw [HM3.out]; omega)] at hd
                unfold dupAt
                rw [HOO.out]
                exact hd
              have HKA : Hid (KB w wr p b #[z1, z2] #[.slice none 0 0, .slice none 0 0, z3, z4] z1 z2 z3 z4 (joinO (os.take i)) (namesO (os.take (i + 1))) ∧ Blk wr q 41 #[.slice A1 o.tx.length d1, .slice A2 o.dt.length d2, .slice A3 M3 d3, .slice A4 M4 d4] ∧ b + 3 ≤ q) := by
                have h := HK.out
                rw [List.take_of_length_le (l := o.lb) (by rw [HM3.out]; omega)] at h
                have e : (namesO (os.take (i + 1))) = (namesO (os.take i)) ++ o.lb.map Lbl.nm := by
                  rw [take_snoc HIL.out, HOO.out]
                  unfold namesO
                  rw [List.flatMap_append]
                  simp
                rw [e]
                exact h
              clear HDA HK ha han
              rename_i a4 Q4 K4
              have HAG := Lib.hid (align_any b 74 0 (b + 3) #[z1, z2] z1 (joinO (os.take i)).tx wr HKA.out.1.par rfl HKA.out.1.tx (fun e => by have := (own_some2 HKA.out.1.tx e).1; omega) (by have := HSJ.out.1; omega) HKA.out.1.sz)
              go_wp2_with fail
              refine HAG.out.mono ?_
              rintro e w1 ⟨rfl, y1, ha1⟩
              have HKB : Hid (KB w w1 p b #[y1, z2] #[.slice none 0 0, .slice none 0 0, z3, z4] y1 z2 z3 z4 ⟨padL (joinO (os.take i)).tx, (joinO (os.take i)).dt, (joinO (os.take i)).lb, (joinO (os.take i)).rl⟩ (namesO (os.take (i + 1))) ∧ Blk w1 q 41 #[.slice A1 o.tx.length d1, .slice A2 o.dt.length d2, .slice A3 M3 d3, .slice A4 M4 d4] ∧ b + 3 ≤ q) := by
                refine ⟨?_, HKA.out.1.keepA HKA.out.1.tx ha1 HKA.out.2.1, HKA.out.2.2⟩
                have h := HKA.out.1.algT ha1
                exact Lib.hid (by simpa using h)
              clear ha1 HAG HKA
              have HAG := Lib.hid (align_any b 74 1 (b + 3) #[y1, z2] z2 (joinO (os.take i)).dt w1 HKB.out.1.par rfl HKB.out.1.dt (fun e => by have := (own_some2 HKB.out.1.dt e).1; omega) (by have := HSJ.out.2.1; omega) HKB.out.1.sz)
              go_wp2_with fail
              refine HAG.out.mono ?_
              rintro e w2 ⟨rfl, y2, ha2⟩
              have HKC : Hid (KB w w2 p b #[y1, y2] #[.slice none 0 0, .slice none 0 0, z3, z4] y1 y2 z3 z4 ⟨padL (joinO (os.take i)).tx, padL (joinO (os.take i)).dt, (joinO (os.take i)).lb, (joinO (os.take i)).rl⟩ (namesO (os.take (i + 1))) ∧ Blk w2 q 41 #[.slice A1 o.tx.length d1, .slice A2 o.dt.length d2, .slice A3 M3 d3, .slice A4 M4 d4] ∧ b + 3 ≤ q) := by
                refine ⟨?_, HKB.out.1.keepA HKB.out.1.dt ha2 HKB.out.2.1, HKB.out.2.2⟩
                have h := HKB.out.1.algD ha2
                exact Lib.hid (by simpa using h)
              clear ha2 HAG HKB
              obtain ⟨pt, hpt⟩ : ∃ pt, padL (joinO (os.take i)).tx = pt := ⟨_, rfl⟩
              obtain ⟨pd, hpd⟩ : ∃ pd, padL (joinO (os.take i)).dt = pd := ⟨_, rfl⟩
              rw [hpt, hpd] at HKC
              have HPT := Lib.hid (And.intro hpt hpd)
              obtain ⟨E1, k1, g1, _, _⟩ := slice_form HKC.out.1.tx
              obtain ⟨E2, k2, g2, _, _⟩ := slice_form HKC.out.1.dt
              obtain ⟨L1, hL1⟩ : ∃ L1, pt.length = L1 := ⟨_, rfl⟩
              obtain ⟨L2, hL2⟩ : ∃ L2, pd.length = L2 := ⟨_, rfl⟩
              rw [hL1] at g1
              rw [hL2] at g2
              have HLB : Hid (L1 ≤ 1099511628000 ∧ L2 ≤ 1099511628000) := by
                have h1 := HSJ.out.1
                have h2 := HSJ.out.2.1
                have h3 := padL_len (joinO (os.take i)).tx
                have h4 := padL_len (joinO (os.take i)).dt
                rw [HPT.out.1] at h3
                rw [HPT.out.2] at h4
                exact ⟨by omega, by omega⟩
              have HL12 := Lib.hid (And.intro hL1 hL2)
              have HST5 : Hid (∃ z3', KB w w2 p b #[y1, y2] #[.slice none 0 0, .slice none 0 0, z3', z4] y1 y2 z3' z4 ⟨pt, pd, (joinO (os.take i)).lb ++ (o.lb.take 0).map (shL L1 L2), (joinO (os.take i)).rl⟩ (namesO (os.take (i + 1))) ∧ Blk w2 q 41 #[.slice A1 o.tx.length d1, .slice A2 o.dt.length d2, .slice A3 M3 d3, .slice A4 M4 d4] ∧ b + 3 ≤ q) := ⟨z3, by have h := HKC.out; simpa using h⟩
              have b2 : w2.cell? ⟨q, 2, none⟩ = some (.slice A3 M3 d3) := by rw [HKC.out.2.1.cell]; rfl
              clear HKC hpt hpd hL1 hL2
              subst g1
              subst g2
              obtain ⟨y1, hy1⟩ : ∃ y, Value.slice E1 L1 k1 = y := ⟨_, rfl⟩
              obtain ⟨y2, hy2⟩ : ∃ y, Value.slice E2 L2 k2 = y := ⟨_, rfl⟩
              have HY := Lib.hid (And.intro hy1 hy2)
              rw [hy1, hy2] at HST5
              clear hy1 hy2
              go_upto_region 24 with fail
              clear b2
              go_loopw [67] (fun av W => ∃ a : Nat, a ≤ M3 ∧ av = .int .i64 a ∧ Hid (∃ z3', KB w W p b #[y1, y2] #[.slice none 0 0, .slice none 0 0, z3', z4] y1 y2 z3' z4 ⟨pt, pd, (joinO (os.take i)).lb ++ (o.lb.take a).map (shL L1 L2), (joinO (os.take i)).rl⟩ (namesO (os.take (i + 1))) ∧ Blk W q 41 #[.slice A1 o.tx.length d1, .slice A2 o.dt.length d2, .slice A3 M3 d3, .slice A4 M4 d4] ∧ b + 3 ≤ q)) (fun av _ => M3 - (intOf av).toNat)
              case atStart => exact ⟨0, Nat.zero_le _, rfl, HST5.out⟩
              case round =>
                clear HST5
                obtain ⟨a, ham, rfl, HL⟩ := hrel
                obtain ⟨z3', hks, hqb, hrq⟩ := HL.out
                have HJ5 := Lib.hid hks
                have HQ5 := Lib.hid (And.intro hqb hrq)
                clear hks hqb hrq HL
                by_cases hlt4 : a < M3
                · as_aux_lemma =>
                  have hal : a < o.lb.length := by rw [HM3.out]; exact hlt4
                  obtain ⟨g7, off7, rfl, _, hc6⟩ := HOB.out.lb.at_ (by omega)
                  obtain ⟨x, hx⟩ : ∃ x, o.lb.getD a default = x := ⟨_, rfl⟩
                  have hcx := hc6 a hal
                  rw [hx] at hcx
                  have HX := Lib.hid hx
                  have hww : ∀ {a : Addr} {v : Value}, w.cell? a = some v → wr.cell? a = some v := fun h => (HJ5.out.below.cell (by have := cell_lt h; rw [HP.out] at this; exact this)).trans h
                  obtain ⟨x0, x1, x2, x3⟩ := hcx
                  replace x0 := hww x0
                  replace x1 := hww x1
                  replace x2 := hww x2
                  replace x3 := hww x3
                  clear hww hc6 hx
                  have e8 : (a : Int) < (M3 : Int) := by omega
                  have e9 : (0 : Int) ≤ (a : Int) := by omega
                  have e10 : IntKind.i64.wrap ((a : Int) + 1) = ((a + 1 : Nat) : Int) := by rw [IntWalk.i64_in _ (by omega)]; omega
                  obtain ⟨nm, sec, at_, gl⟩ := x
                  dsimp only at x0 x1 x2 x3
                  go_upto_region 26 with fail
                  obtain ⟨s, hs⟩ : ∃ s, wr.heap.size = s := ⟨_, rfl⟩
                  try rw [hs]
                  obtain ⟨w5, hw5⟩ : ∃ w5, wr.alloc (.cells #[.string nm, .int .i64 sec, .int .i64 at_, .bool gl] 68) = w5 := ⟨_, rfl⟩
                  rw [hw5]
                  have HS5 : Hid (KB w w5 p b #[y1, y2] #[.slice none 0 0, .slice none 0 0, z3', z4] y1 y2 z3' z4 ⟨pt, pd, (joinO (os.take i)).lb ++ (o.lb.take a).map (shL L1 L2), (joinO (os.take i)).rl⟩ (namesO (os.take (i + 1))) ∧ Blk w5 s 68 #[.string nm, .int .i64 sec, .int .i64 at_, .bool gl] ∧ Blk w5 q 41 #[.slice A1 o.tx.length d1, .slice A2 o.dt.length d2, .slice (some ⟨g7, off7, none⟩) M3 d3, .slice A4 M4 d4] ∧ b + 3 ≤ q ∧ q < s) := by
                    have hb : Below wr.heap.size wr w5 := by rw [← hw5]; exact (Below.refl _ _).alloc (Nat.le_refl _) _
                    have hn := Blk.new wr 68 #[.string nm, .int .i64 sec, .int .i64 at_, .bool gl]
                    rw [hw5, hs] at hn
                    exact ⟨HJ5.out.bel hb, hn, HQ5.out.1.below hb HQ5.out.1.lt, HQ5.out.2, by have := HQ5.out.1.lt; omega⟩
                  have hn3 : z3'.ownBlock ≠ some s := fun e => by have := (own_some2 HJ5.out.lb e).2; omega
                  have hn4 : z4.ownBlock ≠ some s := fun e => by have := (own_some2 HJ5.out.rl e).2; omega
                  clear hs hw5 HJ5 HQ5 x0 x1 x2 x3
                  have HXB : Hid (0 ≤ sec ∧ sec ≤ 1 ∧ 0 ≤ at_ ∧ at_ ≤ 1048576) := by
                    have h1 := HRO.out.1.lb (o.lb.getD a default) (by simp [List.getD, hal])
                    rw [HX.out] at h1
                    dsimp only at h1
                    have h2 := short_le HRO.out.2.1
                    have h3 : (o.sec sec).length ≤ 1048576 := by unfold Ob.sec; split <;> omega
                    exact ⟨h1.1, h1.2.1, h1.2.2.1, by omega⟩
                  obtain ⟨na, hna⟩ : ∃ na : Int, at_ + (if sec = 0 then (L1 : Int) else (L2 : Int)) = na := ⟨_, rfl⟩
                  have HNA := Lib.hid hna
                  have hn34 := Lib.hid (And.intro hn3 hn4)
                  clear hna hn3 hn4
                  generalize decide ((a : Int) < (M3 : Int)) = bam
                  go_cut [] from 71 to 80 (fun W => Hid (KB w W p b #[y1, y2] #[.slice none 0 0, .slice none 0 0, z3', z4] y1 y2 z3' z4 ⟨pt, pd, (joinO (os.take i)).lb ++ (o.lb.take a).map (shL L1 L2), (joinO (os.take i)).rl⟩ (namesO (os.take (i + 1))) ∧ Blk W s 68 #[.string nm, .int .i64 sec, .int .i64 na, .bool gl] ∧ Blk W q 41 #[.slice A1 o.tx.length d1, .slice A2 o.dt.length d2, .slice (some ⟨g7, off7, none⟩) M3 d3, .slice A4 M4 d4] ∧ b + 3 ≤ q ∧ q < s))
                  case first => as_aux_lemma =>
                    have HB7 : Hid (KB w (w5.drew.setCell ⟨s, 2, none⟩ (.int .i64 na)) p b #[y1, y2] #[.slice none 0 0, .slice none 0 0, z3', z4] y1 y2 z3' z4 ⟨pt, pd, (joinO (os.take i)).lb ++ (o.lb.take a).map (shL L1 L2), (joinO (os.take i)).rl⟩ (namesO (os.take (i + 1))) ∧ Blk (w5.drew.setCell ⟨s, 2, none⟩ (.int .i64 na)) s 68 #[.string nm, .int .i64 sec, .int .i64 na, .bool gl] ∧ Blk (w5.drew.setCell ⟨s, 2, none⟩ (.int .i64 na)) q 41 #[.slice A1 o.tx.length d1, .slice A2 o.dt.length d2, .slice (some ⟨g7, off7, none⟩) M3 d3, .slice A4 M4 d4] ∧ b + 3 ≤ q ∧ q < s) := by
                      have h0 : KB w w5.drew p b #[y1, y2] #[.slice none 0 0, .slice none 0 0, z3', z4] y1 y2 z3' z4 ⟨pt, pd, (joinO (os.take i)).lb ++ (o.lb.take a).map (shL L1 L2), (joinO (os.take i)).rl⟩ (namesO (os.take (i + 1))) := HS5.out.1.bel (Below.refl _ _).drew
                      have hbk : Blk w5.drew s 68 #[.string nm, .int .i64 sec, .int .i64 at_, .bool gl] := HS5.out.2.1
                      have hqk : Blk w5.drew q 41 #[.slice A1 o.tx.length d1, .slice A2 o.dt.length d2, .slice (some ⟨g7, off7, none⟩) M3 d3, .slice A4 M4 d4] := HS5.out.2.2.1
                      refine ⟨h0.far hbk (by have := HS5.out.2.2.2; omega) 2 _ (by first | exact Or.inl rfl | exact Or.inr rfl) hn34.out.1 hn34.out.2, ?_, hqk.far (p := ⟨s, 2, none⟩) (by have := HS5.out.2.2.2.2; show q ≠ s; omega) _, HS5.out.2.2.2⟩
                      have := hbk.set_ 2 (.int .i64 na)
                      simpa using this
                    have s1 : w5.cell? ⟨s, 1, none⟩ = some (.int .i64 sec) := by rw [HS5.out.2.1.cell]; rfl
                    have s2 : w5.cell? ⟨s, 2, none⟩ = some (.int .i64 at_) := by rw [HS5.out.2.1.cell]; rfl
                    have f2 := HS5.out.2.1.frozen 2
                    have p0 : w5.cell? ⟨b, 0, none⟩ = some (.slice E1 L1 k1) := by rw [HS5.out.1.par.cell, HY.out.1]; rfl
                    have p1 : w5.cell? ⟨b, 1, none⟩ = some (.slice E2 L2 k2) := by rw [HS5.out.1.par.cell, HY.out.2]; rfl
                    have hxb := HXB.out
                    have hlb := HLB.out
                    rcases (by omega : sec = 0 ∨ sec = 1) with rfl | rfl
                    · have e11 : IntKind.i64.wrap (at_ + (L1 : Int)) = na := by
                        have h := HNA.out
                        rw [if_pos rfl] at h
                        rw [IntWalk.i64_in _ (by omega)]; exact h
                      clear HS5 hxb hlb p1
                      go_region
                      all_goals
                        go_wp2_with fail
                        go_meet
                        case rel => exact HB7.out
                    · have e11 : IntKind.i64.wrap (at_ + (L2 : Int)) = na := by
                        have h := HNA.out
                        rw [if_neg (by omega)] at h
                        rw [IntWalk.i64_in _ (by omega)]; exact h
                      clear HS5 hxb hlb p0
                      go_region
                      all_goals
                        go_wp2_with fail
                        go_meet
                        case rel => exact HB7.out
                  case rest => as_aux_lemma =>
                    clear HS5
                    have HC := hcut
                    obtain ⟨v', w', r1, r2, r3, r4⟩ := OwnL.snoc HC.out.1.lb ⟨nm, sec, na, gl⟩ (by
                      have h1 := HSJ.out.2.2.1
                      have h2 := HM3.out
                      rw [List.length_append, List.length_map, List.length_take]
                      have h3 := short_le HRO.out.2.1
                      omega) (by have := HC.out.1.sz; omega)
                    have HE : Hid ((joinO (os.take i)).lb ++ (o.lb.take a).map (shL L1 L2) ++ [(⟨nm, sec, na, gl⟩ : Lbl)] = (joinO (os.take i)).lb ++ (o.lb.take (a + 1)).map (shL L1 L2)) := by
                      show _ = _
                      have e : o.lb[a] = ⟨nm, sec, at_, gl⟩ := by rw [← HX.out]; simp [List.getD, hal]
                      rw [List.take_succ_eq_append_getElem hal, List.map_append, e, List.append_assoc]
                      congr 2
                      show _ = [shL L1 L2 ⟨nm, sec, at_, gl⟩]
                      unfold shL
                      rw [← HNA.out]
                    obtain ⟨Bv, cv, hv, _, _⟩ := slice_form r2
                    obtain ⟨NL, hNL⟩ : ∃ NL, ((joinO (os.take i)).lb ++ (o.lb.take a).map (shL L1 L2) ++ [(⟨nm, sec, na, gl⟩ : Lbl)]).length = NL := ⟨_, rfl⟩
                    rw [hNL] at hv
                    have HG : Hid (KB w w' p b #[y1, y2] #[.slice none 0 0, .slice none 0 0, z3', z4] y1 y2 v' z4 ⟨pt, pd, (joinO (os.take i)).lb ++ (o.lb.take (a + 1)).map (shL L1 L2), (joinO (os.take i)).rl⟩ (namesO (os.take (i + 1))) ∧ Blk w' q 41 #[.slice A1 o.tx.length d1, .slice A2 o.dt.length d2, .slice (some ⟨g7, off7, none⟩) M3 d3, .slice A4 M4 d4] ∧ b + 3 ≤ q) := by
                      have hb : Below wc.heap.size wc (wc.alloc (.cells #[.string nm, .int .i64 sec, .int .i64 na, .bool gl] 68)) := (Below.refl _ _).alloc (Nat.le_refl _) _
                      have hJ := HC.out.1.bel hb
                      rw [HE.out] at r2
                      exact ⟨hJ.growL r3 r2, hJ.keepT hJ.lb (by decide) r3 (HC.out.2.2.1.alloc _), HC.out.2.2.2.1⟩
                    have HR := Lib.hid r1
                    have b2 : wc.cell? ⟨b + 1, 2, none⟩ = some z3' := by rw [HC.out.1.box.cell]; rfl
                    have s0 : wc.cell? ⟨s, 0, none⟩ = some (.string nm) := by rw [HC.out.2.1.cell]; rfl
                    have s1 : wc.cell? ⟨s, 1, none⟩ = some (.int .i64 sec) := by rw [HC.out.2.1.cell]; rfl
                    have s2 : wc.cell? ⟨s, 2, none⟩ = some (.int .i64 na) := by rw [HC.out.2.1.cell]; rfl
                    have s3 : wc.cell? ⟨s, 3, none⟩ = some (.bool gl) := by rw [HC.out.2.1.cell]; rfl
                    have b3 : w'.cell? ⟨b + 1, 2, none⟩ = some z3' := by rw [HG.out.1.box.cell]; rfl
                    have f3 := HG.out.1.box.frozen 2
                    have HN6 := Lib.hid (And.intro (HG.out.1.putO 2 v') (And.intro (HG.out.2.1.far (p := ⟨b + 1, 2, none⟩) (by have := HG.out.2.2; show q ≠ b + 1; omega) v') HG.out.2.2))
                    clear r1 r2 r3 r4 HG hcut HC HE hNL
                    subst hv
                    go_wp2_with (at_builtin; refine wpList_append_eq rfl (.tmp 82) (.tmp 84) 38 rfl rfl rfl HR.out ?_)
                    go_roundw
                    case rel => exact ⟨a + 1, by omega, by go_num, _, by have h := HN6.out.1; simpa using h, HN6.out.2.1, HN6.out.2.2⟩
                    case measure => simp [intOf]; omega
                · have HLR : Hid (∃ z4', KB w wr p b #[y1, y2] #[.slice none 0 0, .slice none 0 0, z3', z4'] y1 y2 z3' z4' ⟨pt, pd, (joinO (os.take i)).lb ++ o.lb.map (shL L1 L2), (joinO (os.take i)).rl ++ (o.rl.take 0).map (shR L1 L2)⟩ (namesO (os.take (i + 1))) ∧ Blk wr q 41 #[.slice A1 o.tx.length d1, .slice A2 o.dt.length d2, .slice A3 M3 d3, .slice A4 M4 d4] ∧ b + 3 ≤ q) := by
                    have h := HJ5.out
                    rw [List.take_of_length_le (l := o.lb) (by rw [HM3.out]; omega)] at h
                    exact ⟨z4, by simpa using h, HQ5.out⟩
                  obtain ⟨LL, hLL⟩ : ∃ LL, (joinO (os.take i)).lb ++ o.lb.map (shL L1 L2) = LL := ⟨_, rfl⟩
                  rw [hLL] at HLR
                  have HLL := Lib.hid hLL
                  have b3 : wr.cell? ⟨q, 3, none⟩ = some (.slice A4 M4 d4) := by rw [HQ5.out.1.cell]; rfl
                  clear HJ5 HQ5 ham hLL
                  go_upto_region 30 with fail
                  clear b3 hlt4
                  rename_i a5 Q5 K5
                  go_loopw [91] (fun av W => ∃ c : Nat, c ≤ M4 ∧ av = .int .i64 c ∧ Hid (∃ z4', KB w W p b #[y1, y2] #[.slice none 0 0, .slice none 0 0, z3', z4'] y1 y2 z3' z4' ⟨pt, pd, LL, (joinO (os.take i)).rl ++ (o.rl.take c).map (shR L1 L2)⟩ (namesO (os.take (i + 1))) ∧ Blk W q 41 #[.slice A1 o.tx.length d1, .slice A2 o.dt.length d2, .slice A3 M3 d3, .slice A4 M4 d4] ∧ b + 3 ≤ q)) (fun av _ => M4 - (intOf av).toNat)
                  case atStart => exact ⟨0, Nat.zero_le _, rfl, HLR.out⟩
                  case round =>
                    clear HLR
                    obtain ⟨c, hcm, rfl, HL⟩ := hrel
                    obtain ⟨z4', hks, hqb, hrq⟩ := HL.out
                    have HJ5 := Lib.hid hks
                    have HQ5 := Lib.hid (And.intro hqb hrq)
                    clear hks hqb hrq HL
                    by_cases hlt4 : c < M4
                    · as_aux_lemma =>
                      have hcl : c < o.rl.length := by rw [HM4.out]; exact hlt4
                      obtain ⟨g7, off7, rfl, _, hc6⟩ := HOB.out.rl.at_ (by omega)
                      obtain ⟨x, hx⟩ : ∃ x, o.rl.getD c default = x := ⟨_, rfl⟩
                      have hcx := hc6 c hcl
                      rw [hx] at hcx
                      have HX := Lib.hid hx
                      have hww : ∀ {a : Addr} {v : Value}, w.cell? a = some v → wr.cell? a = some v := fun h => (HJ5.out.below.cell (by have := cell_lt h; rw [HP.out] at this; exact this)).trans h
                      obtain ⟨x0, x1, x2, x3, x4⟩ := hcx
                      replace x0 := hww x0
                      replace x1 := hww x1
                      replace x2 := hww x2
                      replace x3 := hww x3
                      replace x4 := hww x4
                      clear hww hc6 hx
                      have e8 : (c : Int) < (M4 : Int) := by omega
                      have e9 : (0 : Int) ≤ (c : Int) := by omega
                      have e10 : IntKind.i64.wrap ((c : Int) + 1) = ((c + 1 : Nat) : Int) := by rw [IntWalk.i64_in _ (by omega)]; omega
                      obtain ⟨sec, at_, kd, add, nm⟩ := x
                      dsimp only at x0 x1 x2 x3 x4
                      go_upto_region 32 with fail
                      obtain ⟨s, hs⟩ : ∃ s, wr.heap.size = s := ⟨_, rfl⟩
                      try rw [hs]
                      obtain ⟨w5, hw5⟩ : ∃ w5, wr.alloc (.cells #[.int .i64 sec, .int .i64 at_, .int .i64 kd, .int .i64 add, .string nm] 51) = w5 := ⟨_, rfl⟩
                      rw [hw5]
                      have HS5 : Hid (KB w w5 p b #[y1, y2] #[.slice none 0 0, .slice none 0 0, z3', z4'] y1 y2 z3' z4' ⟨pt, pd, LL, (joinO (os.take i)).rl ++ (o.rl.take c).map (shR L1 L2)⟩ (namesO (os.take (i + 1))) ∧ Blk w5 s 51 #[.int .i64 sec, .int .i64 at_, .int .i64 kd, .int .i64 add, .string nm] ∧ Blk w5 q 41 #[.slice A1 o.tx.length d1, .slice A2 o.dt.length d2, .slice A3 M3 d3, .slice (some ⟨g7, off7, none⟩) M4 d4] ∧ b + 3 ≤ q ∧ q < s) := by
                        have hb : Below wr.heap.size wr w5 := by rw [← hw5]; exact (Below.refl _ _).alloc (Nat.le_refl _) _
                        have hn := Blk.new wr 51 #[.int .i64 sec, .int .i64 at_, .int .i64 kd, .int .i64 add, .string nm]
                        rw [hw5, hs] at hn
                        exact ⟨HJ5.out.bel hb, hn, HQ5.out.1.below hb HQ5.out.1.lt, HQ5.out.2, by have := HQ5.out.1.lt; omega⟩
                      have hn3 : z3'.ownBlock ≠ some s := fun e => by have := (own_some2 HJ5.out.lb e).2; omega
                      have hn4 : z4'.ownBlock ≠ some s := fun e => by have := (own_some2 HJ5.out.rl e).2; omega
                      clear hs hw5 HJ5 HQ5 x0 x1 x2 x3 x4
                      have HXB : Hid (0 ≤ sec ∧ sec ≤ 1 ∧ 0 ≤ at_ ∧ at_ ≤ 1048576) := by
                        have h1 := HRO.out.1.rl (o.rl.getD c default) (by simp [List.getD, hcl])
                        rw [HX.out] at h1
                        dsimp only at h1
                        have h2 := short_le HRO.out.2.1
                        have h3 : (o.sec sec).length ≤ 1048576 := by unfold Ob.sec; split <;> omega
                        exact ⟨h1.1, h1.2.1, h1.2.2.1, by omega⟩
                      obtain ⟨na, hna⟩ : ∃ na : Int, at_ + (if sec = 0 then (L1 : Int) else (L2 : Int)) = na := ⟨_, rfl⟩
                      have HNA := Lib.hid hna
                      have hn34 := Lib.hid (And.intro hn3 hn4)
                      clear hna hn3 hn4
                      generalize decide ((c : Int) < (M4 : Int)) = bam
                      go_cut [] from 95 to 104 (fun W => Hid (KB w W p b #[y1, y2] #[.slice none 0 0, .slice none 0 0, z3', z4'] y1 y2 z3' z4' ⟨pt, pd, LL, (joinO (os.take i)).rl ++ (o.rl.take c).map (shR L1 L2)⟩ (namesO (os.take (i + 1))) ∧ Blk W s 51 #[.int .i64 sec, .int .i64 na, .int .i64 kd, .int .i64 add, .string nm] ∧ Blk W q 41 #[.slice A1 o.tx.length d1, .slice A2 o.dt.length d2, .slice A3 M3 d3, .slice (some ⟨g7, off7, none⟩) M4 d4] ∧ b + 3 ≤ q ∧ q < s))
                      case first => as_aux_lemma =>
                        have HB7 : Hid (KB w (w5.drew.setCell ⟨s, 1, none⟩ (.int .i64 na)) p b #[y1, y2] #[.slice none 0 0, .slice none 0 0, z3', z4'] y1 y2 z3' z4' ⟨pt, pd, LL, (joinO (os.take i)).rl ++ (o.rl.take c).map (shR L1 L2)⟩ (namesO (os.take (i + 1))) ∧ Blk (w5.drew.setCell ⟨s, 1, none⟩ (.int .i64 na)) s 51 #[.int .i64 sec, .int .i64 na, .int .i64 kd, .int .i64 add, .string nm] ∧ Blk (w5.drew.setCell ⟨s, 1, none⟩ (.int .i64 na)) q 41 #[.slice A1 o.tx.length d1, .slice A2 o.dt.length d2, .slice A3 M3 d3, .slice (some ⟨g7, off7, none⟩) M4 d4] ∧ b + 3 ≤ q ∧ q < s) := by
                          have h0 : KB w w5.drew p b #[y1, y2] #[.slice none 0 0, .slice none 0 0, z3', z4'] y1 y2 z3' z4' ⟨pt, pd, LL, (joinO (os.take i)).rl ++ (o.rl.take c).map (shR L1 L2)⟩ (namesO (os.take (i + 1))) := HS5.out.1.bel (Below.refl _ _).drew
                          have hbk : Blk w5.drew s 51 #[.int .i64 sec, .int .i64 at_, .int .i64 kd, .int .i64 add, .string nm] := HS5.out.2.1
                          have hqk : Blk w5.drew q 41 #[.slice A1 o.tx.length d1, .slice A2 o.dt.length d2, .slice A3 M3 d3, .slice (some ⟨g7, off7, none⟩) M4 d4] := HS5.out.2.2.1
                          refine ⟨h0.far hbk (by have := HS5.out.2.2.2; omega) 1 _ (by first | exact Or.inl rfl | exact Or.inr rfl) hn34.out.1 hn34.out.2, ?_, hqk.far (p := ⟨s, 1, none⟩) (by have := HS5.out.2.2.2.2; show q ≠ s; omega) _, HS5.out.2.2.2⟩
                          have := hbk.set_ 1 (.int .i64 na)
                          simpa using this
                        have s1 : w5.cell? ⟨s, 0, none⟩ = some (.int .i64 sec) := by rw [HS5.out.2.1.cell]; rfl
                        have s2 : w5.cell? ⟨s, 1, none⟩ = some (.int .i64 at_) := by rw [HS5.out.2.1.cell]; rfl
                        have f2 := HS5.out.2.1.frozen 1
                        have p0 : w5.cell? ⟨b, 0, none⟩ = some (.slice E1 L1 k1) := by rw [HS5.out.1.par.cell, HY.out.1]; rfl
                        have p1 : w5.cell? ⟨b, 1, none⟩ = some (.slice E2 L2 k2) := by rw [HS5.out.1.par.cell, HY.out.2]; rfl
                        have hxb := HXB.out
                        have hlb := HLB.out
                        rcases (by omega : sec = 0 ∨ sec = 1) with rfl | rfl
                        · have e11 : IntKind.i64.wrap (at_ + (L1 : Int)) = na := by
                            have h := HNA.out
                            rw [if_pos rfl] at h
                            rw [IntWalk.i64_in _ (by omega)]; exact h
                          clear HS5 hxb hlb p1
                          go_region
                          all_goals
                            go_wp2_with fail
                            go_meet
                            case rel => exact HB7.out
                        · have e11 : IntKind.i64.wrap (at_ + (L2 : Int)) = na := by
                            have h := HNA.out
                            rw [if_neg (by omega)] at h
                            rw [IntWalk.i64_in _ (by omega)]; exact h
                          clear HS5 hxb hlb p0
                          go_region
                          all_goals
                            go_wp2_with fail
                            go_meet
                            case rel => exact HB7.out
                      case rest => as_aux_lemma =>
                        clear HS5
                        have HC := hcut
                        obtain ⟨v', w', r1, r2, r3, r4⟩ := OwnR.snoc HC.out.1.rl ⟨sec, na, kd, add, nm⟩ (by
                          have h1 := HSJ.out.2.2.2
                          have h2 := HM4.out
                          rw [List.length_append, List.length_map, List.length_take]
                          have h3 := short_le HRO.out.2.1
                          omega) (by have := HC.out.1.sz; omega)
                        have HE : Hid ((joinO (os.take i)).rl ++ (o.rl.take c).map (shR L1 L2) ++ [(⟨sec, na, kd, add, nm⟩ : Rel)] = (joinO (os.take i)).rl ++ (o.rl.take (c + 1)).map (shR L1 L2)) := by
                          show _ = _
                          have e : o.rl[c] = ⟨sec, at_, kd, add, nm⟩ := by rw [← HX.out]; simp [List.getD, hcl]
                          rw [List.take_succ_eq_append_getElem hcl, List.map_append, e, List.append_assoc]
                          congr 2
                          show _ = [shR L1 L2 ⟨sec, at_, kd, add, nm⟩]
                          unfold shR
                          rw [← HNA.out]
                        obtain ⟨Bv, cv, hv, _, _⟩ := slice_form r2
                        obtain ⟨NL, hNL⟩ : ∃ NL, ((joinO (os.take i)).rl ++ (o.rl.take c).map (shR L1 L2) ++ [(⟨sec, na, kd, add, nm⟩ : Rel)]).length = NL := ⟨_, rfl⟩
                        rw [hNL] at hv
                        have HG : Hid (KB w w' p b #[y1, y2] #[.slice none 0 0, .slice none 0 0, z3', z4'] y1 y2 z3' v' ⟨pt, pd, LL, (joinO (os.take i)).rl ++ (o.rl.take (c + 1)).map (shR L1 L2)⟩ (namesO (os.take (i + 1))) ∧ Blk w' q 41 #[.slice A1 o.tx.length d1, .slice A2 o.dt.length d2, .slice A3 M3 d3, .slice (some ⟨g7, off7, none⟩) M4 d4] ∧ b + 3 ≤ q) := by
                          have hb : Below wc.heap.size wc (wc.alloc (.cells #[.int .i64 sec, .int .i64 na, .int .i64 kd, .int .i64 add, .string nm] 51)) := (Below.refl _ _).alloc (Nat.le_refl _) _
                          have hJ := HC.out.1.bel hb
                          rw [HE.out] at r2
                          exact ⟨hJ.growR r3 r2, hJ.keepT hJ.rl (by decide) r3 (HC.out.2.2.1.alloc _), HC.out.2.2.2.1⟩
                        have HR := Lib.hid r1
                        have b2 : wc.cell? ⟨b + 1, 3, none⟩ = some z4' := by rw [HC.out.1.box.cell]; rfl
                        have s0 : wc.cell? ⟨s, 0, none⟩ = some (.int .i64 sec) := by rw [HC.out.2.1.cell]; rfl
                        have s1 : wc.cell? ⟨s, 1, none⟩ = some (.int .i64 na) := by rw [HC.out.2.1.cell]; rfl
                        have s2 : wc.cell? ⟨s, 2, none⟩ = some (.int .i64 kd) := by rw [HC.out.2.1.cell]; rfl
                        have s3 : wc.cell? ⟨s, 3, none⟩ = some (.int .i64 add) := by rw [HC.out.2.1.cell]; rfl
                        have s4 : wc.cell? ⟨s, 4, none⟩ = some (.string nm) := by rw [HC.out.2.1.cell]; rfl
                        have b3 : w'.cell? ⟨b + 1, 3, none⟩ = some z4' := by rw [HG.out.1.box.cell]; rfl
                        have f3 := HG.out.1.box.frozen 3
                        have HN6 := Lib.hid (And.intro (HG.out.1.putO 3 v') (And.intro (HG.out.2.1.far (p := ⟨b + 1, 3, none⟩) (by have := HG.out.2.2; show q ≠ b + 1; omega) v') HG.out.2.2))
                        clear r1 r2 r3 r4 HG hcut HC HE hNL
                        subst hv
                        go_wp2_with (at_builtin; refine wpList_append_eq rfl (.tmp 106) (.tmp 108) 39 rfl rfl rfl HR.out ?_)
                        go_roundw
                        case rel => exact ⟨c + 1, by omega, by go_num, _, by have h := HN6.out.1; simpa using h, HN6.out.2.1, HN6.out.2.2⟩
                        case measure => simp [intOf]; omega
                    · obtain ⟨RR, hRR⟩ : ∃ RR, (joinO (os.take i)).rl ++ o.rl.map (shR L1 L2) = RR := ⟨_, rfl⟩
                      have HB0 : Hid (KB w wr p b #[y1, y2] #[.slice none 0 0, .slice none 0 0, z3', z4'] y1 y2 z3' z4' ⟨pt, pd, LL, RR⟩ (namesO (os.take (i + 1))) ∧ Blk wr q 41 #[.slice A1 o.tx.length d1, .slice A2 o.dt.length d2, .slice A3 M3 d3, .slice A4 M4 d4] ∧ b + 3 ≤ q) := by
                        have h := HJ5.out
                        rw [List.take_of_length_le (l := o.rl) (by rw [HM4.out]; omega), hRR] at h
                        exact ⟨h, HQ5.out⟩
                      have HRR := Lib.hid hRR
                      have HLN : Hid (pt.length ≤ 1099511627776 ∧ pd.length ≤ 1099511627776 ∧ o.tx.length ≤ 1099511627776 ∧ o.dt.length ≤ 1099511627776) := by
                        have h1 := HSJ.out.1
                        have h2 := HSJ.out.2.1
                        have h3 := padL_len (joinO (os.take i)).tx
                        have h4 := padL_len (joinO (os.take i)).dt
                        rw [HPT.out.1] at h3
                        rw [HPT.out.2] at h4
                        have h5 := short_le HRO.out.2.1
                        exact ⟨by omega, by omega, by omega, by omega⟩
                      have hbel : Below w.heap.size w wr := by rw [HP.out]; exact HB0.out.1.below
                      obtain ⟨u1, w1, r1, r2, r3, r4⟩ := OwnB.app HB0.out.1.tx (HOB.out.tx.below hbel) HLN.out.1 HLN.out.2.2.1 (by have := HB0.out.1.sz; omega)
                      have HB1 : Hid (KB w w1 p b #[y1, y2] #[.slice none 0 0, .slice none 0 0, z3', z4'] u1 y2 z3' z4' ⟨pt ++ o.tx, pd, LL, RR⟩ (namesO (os.take (i + 1))) ∧ Blk w1 q 41 #[.slice A1 o.tx.length d1, .slice A2 o.dt.length d2, .slice A3 M3 d3, .slice A4 M4 d4] ∧ b + 3 ≤ q) := ⟨HB0.out.1.growT r3 r4 r2, HB0.out.1.keepT HB0.out.1.tx (by decide) r3 HB0.out.2.1, HB0.out.2.2⟩
                      obtain ⟨Bu, cu, hu, _, _⟩ := slice_form r2
                      obtain ⟨NU, hNU⟩ : ∃ NU, (pt ++ o.tx).length = NU := ⟨_, rfl⟩
                      rw [hNU] at hu
                      have HB2 : Hid (KB w (w1.setCell ⟨b, 0, none⟩ u1) p b #[u1, y2] #[.slice none 0 0, .slice none 0 0, z3', z4'] u1 y2 z3' z4' ⟨pt ++ o.tx, pd, LL, RR⟩ (namesO (os.take (i + 1))) ∧ Blk (w1.setCell ⟨b, 0, none⟩ u1) q 41 #[.slice A1 o.tx.length d1, .slice A2 o.dt.length d2, .slice A3 M3 d3, .slice A4 M4 d4] ∧ b + 3 ≤ q) := by
                        refine ⟨?_, HB1.out.2.1.far (p := ⟨b, 0, none⟩) (by have := HB1.out.2.2; show q ≠ b; omega) u1, HB1.out.2.2⟩
                        have h := HB1.out.1.putP 0 u1
                        exact Lib.hid (by simpa using h)
                      have b0 : wr.cell? ⟨b, 0, none⟩ = some y1 := by rw [HB0.out.1.par.cell]; rfl
                      have q0 : wr.cell? ⟨q, 0, none⟩ = some (.slice A1 o.tx.length d1) := by rw [HB0.out.2.1.cell]; rfl
                      have b1 : w1.cell? ⟨b, 0, none⟩ = some y1 := by rw [HB1.out.1.par.cell]; rfl
                      have f1 := HB1.out.1.par.frozen 0
                      have HR := Lib.hid r1
                      clear r1 r2 r3 r4 hNU HB0 HB1 HJ5 HQ5 hRR hcm hbel
                      subst hu
                      go_upto_region 36 with (at_builtin; refine wpList_append_eq rfl (.tmp 114) (.tmp 116) 37 rfl rfl rfl HR.out ?_)
                      clear b0 q0 b1 f1 HR
                      generalize w1.setCell ⟨b, 0, none⟩ (.slice Bu NU cu) = w2 at *
                      have hbel : Below w.heap.size w w2 := by rw [HP.out]; exact HB2.out.1.below
                      obtain ⟨u3, w3, r1, r2, r3, r4⟩ := OwnB.app HB2.out.1.dt (HOB.out.dt.below hbel) HLN.out.2.1 HLN.out.2.2.2 (by have := HB2.out.1.sz; omega)
                      have HB3 : Hid (KB w w3 p b #[.slice Bu NU cu, y2] #[.slice none 0 0, .slice none 0 0, z3', z4'] (.slice Bu NU cu) u3 z3' z4' ⟨pt ++ o.tx, pd ++ o.dt, LL, RR⟩ (namesO (os.take (i + 1)))) := HB2.out.1.growD r3 r4 r2
                      obtain ⟨Bd, cd, hu, _, _⟩ := slice_form r2
                      obtain ⟨ND, hND⟩ : ∃ ND, (pd ++ o.dt).length = ND := ⟨_, rfl⟩
                      rw [hND] at hu
                      have HB4 : Hid (KB w (w3.setCell ⟨b, 1, none⟩ u3) p b #[.slice Bu NU cu, u3] #[.slice none 0 0, .slice none 0 0, z3', z4'] (.slice Bu NU cu) u3 z3' z4' ⟨pt ++ o.tx, pd ++ o.dt, LL, RR⟩ (namesO (os.take (i + 1)))) := by
                        have h := HB3.out.putP 1 u3
                        exact Lib.hid (by simpa using h)
                      have b0 : w2.cell? ⟨b, 1, none⟩ = some y2 := by rw [HB2.out.1.par.cell]; rfl
                      have q0 : w2.cell? ⟨q, 1, none⟩ = some (.slice A2 o.dt.length d2) := by rw [HB2.out.2.1.cell]; rfl
                      have b1 : w3.cell? ⟨b, 1, none⟩ = some y2 := by rw [HB3.out.par.cell]; rfl
                      have f1 := HB3.out.par.frozen 1
                      have HR := Lib.hid r1
                      clear r1 r2 r3 r4 hND HB2 HB3 hbel
                      subst hu
                      have HJN : Hid (KB w (w3.setCell ⟨b, 1, none⟩ (.slice Bd ND cd)) p b #[.slice Bu NU cu, .slice Bd ND cd] #[.slice none 0 0, .slice none 0 0, z3', z4'] (.slice Bu NU cu) (.slice Bd ND cd) z3' z4' (joinO (os.take (i + 1))) (namesO (os.take (i + 1)))) := by
                        have hj : joinO (os.take (i + 1)) = ⟨pt ++ o.tx, pd ++ o.dt, LL, RR⟩ := by
                          rw [take_snoc HIL.out, joinO_snoc, HOO.out]
                          unfold jstep
                          rw [HPT.out.1, HPT.out.2, HL12.out.1, HL12.out.2, HLL.out, HRR.out]
                        rw [hj]
                        exact HB4.out
                      have HD2 : Hid ((List.range (i + 1)).any (dupAt os) = false) := rng_miss HD.out HND.out
                      have hi2 : i + 1 ≤ k := HLT.out
                      clear HB4
                      go_wp2_with (at_builtin; refine wpList_append_eq rfl (.tmp 122) (.tmp 124) 37 rfl rfl rfl HR.out ?_)
                      go_roundw
                      case rel => exact ⟨i + 1, hi2, by go_num, HD2.out, _, _, _, _, HJN.out⟩
                      case measure => simp [intOf]; omega
        · have hik : i = k := by omega
          obtain ⟨z1, z2, z3, z4, hks⟩ := HK.out
          obtain ⟨J, hJJ⟩ : ∃ J, joinO (os.take i) = J := ⟨_, rfl⟩
          rw [hJJ] at hks
          have HJL : Hid (joinO os = J) := by
            show _ = _
            rw [← hJJ, List.take_of_length_le (by rw [HN.out]; omega)]
          have HDL : Hid ((List.range os.length).any (dupAt os) = false) := by show _ = _; rw [HN.out, ← hik]; exact HD.out
          have HSJ : Hid (SzOK J) := by rw [← hJJ]; exact HSZ.out i (by rw [HN.out]; omega)
          have HRG : Hid (Rgt J) := by rw [← HJL.out]; exact rgt_join (all_right HAL.out)
          have HKJ := Lib.hid hks
          obtain ⟨B1, c1, e1, m1, m1'⟩ := slice_form hks.tx
          obtain ⟨B2, c2, e2, m2, m2'⟩ := slice_form hks.dt
          have HM := Lib.hid (And.intro m1 (And.intro m1' (And.intro m2 m2')))
          obtain ⟨N1, hN1⟩ : ∃ n, J.tx.length = n := ⟨_, rfl⟩
          obtain ⟨N2, hN2⟩ : ∃ n, J.dt.length = n := ⟨_, rfl⟩
          rw [hN1] at e1 HM
          rw [hN2] at e2 HM
          have HNN := Lib.hid (And.intro hN1 hN2)
          clear hks HK HD hJJ hik hi hN1 hN2 m1 m1' m2 m2'
          subst e1
          subst e2
          rename_i a4 Q4 K4
          go_upto_region 38 with fail
          go_cut [] from 129 to 138 (fun W => Hid (KB w W p b #[.slice B1 N1 c1, .slice B2 N2 c2] #[.slice B1 N1 N1, .slice B2 N2 N2, z3, z4] (.slice B1 N1 c1) (.slice B2 N2 c2) z3 z4 J (namesO (os.take i))))
          case first => as_aux_lemma =>
            have HB7 : Hid (KB w ((wr.drew.setCell ⟨b + 1, 0, none⟩ (.slice B1 N1 N1)).setCell ⟨b + 1, 1, none⟩ (.slice B2 N2 N2)) p b #[.slice B1 N1 c1, .slice B2 N2 c2] #[.slice B1 N1 N1, .slice B2 N2 N2, z3, z4] (.slice B1 N1 c1) (.slice B2 N2 c2) z3 z4 J (namesO (os.take i))) := by
              have h0 : KB w wr.drew p b #[.slice B1 N1 c1, .slice B2 N2 c2] #[.slice none 0 0, .slice none 0 0, z3, z4] (.slice B1 N1 c1) (.slice B2 N2 c2) z3 z4 J (namesO (os.take i)) := HKJ.out.bel (Below.refl _ _).drew
              have h := (h0.putO 0 (.slice B1 N1 N1)).putO 1 (.slice B2 N2 N2)
              exact Lib.hid (by simpa using h)
            have p0 : wr.cell? ⟨b, 0, none⟩ = some (.slice B1 N1 c1) := by rw [HKJ.out.par.cell]; rfl
            have p1 : wr.cell? ⟨b, 1, none⟩ = some (.slice B2 N2 c2) := by rw [HKJ.out.par.cell]; rfl
            have o0 : wr.cell? ⟨b + 1, 0, none⟩ = some (.slice none 0 0) := by rw [HKJ.out.box.cell]; rfl
            have o1 : wr.cell? ⟨b + 1, 1, none⟩ = some (.slice none 0 0) := by rw [HKJ.out.box.cell]; rfl
            have g0 := HKJ.out.box.frozen 0
            have g1 := HKJ.out.box.frozen 1
            clear HKJ
            go_region_with (first | (refine (clip_any B1 N1 c1 _ HM.out.1 HM.out.2.1).mono ?_; rintro e w9 ⟨rfl, rfl⟩) | (refine (clip_any B2 N2 c2 _ HM.out.2.2.1 HM.out.2.2.2).mono ?_; rintro e w9 ⟨rfl, rfl⟩))
            all_goals
              go_wp2_with fail
              go_meet
              case rel => exact HB7.out
          case rest => as_aux_lemma =>
            clear HKJ
            have HC := Lib.hid hcut.out
            have HOK : Hid ((∀ x ∈ J.lb, OkL x) ∧ ∀ x ∈ J.rl, OkR x) := by
              have h1 := HSJ.out.1
              have h2 := HSJ.out.2.1
              have h3 : ∀ s : Int, (J.sec s).length ≤ 1099511626000 := fun s => by unfold Ob.sec; split <;> omega
              refine ⟨fun x hx => ?_, fun x hx => ?_⟩
              · obtain ⟨a1, a2, a3, a4⟩ := HRG.out.lb x hx
                exact ⟨a1, a2, a3, by have := h3 x.sec; omega⟩
              · obtain ⟨a1, a2, a3, a4⟩ := HRG.out.rl x hx
                exact ⟨a1, a2, a3, by have := h3 x.sec; omega⟩
            have HRD := Lib.hid (ordered_any (b + 3) J.lb.length J.rl.length z3 z4 J.lb J.rl wc hcut.out.lb hcut.out.rl rfl rfl HOK.out.1 HOK.out.2 (by have := HSJ.out.2.2.1; omega) (by have := HSJ.out.2.2.2; omega))
            have o2 : wc.cell? ⟨b + 1, 2, none⟩ = some z3 := by rw [hcut.out.box.cell]; rfl
            have o3 : wc.cell? ⟨b + 1, 3, none⟩ = some z4 := by rw [hcut.out.box.cell]; rfl
            clear hcut
            go_wp2_with fail
            refine HRD.out.mono ?_
            rintro e w3 ⟨rfl, ys, qs, s1, s2, t1, t2, hk⟩
            have ey := ord_eqL HOK.out.1 HRG.out.ul s1
            have eq := ord_eqR HOK.out.2 HRG.out.ur s2
            subst ey
            subst eq
            have HW3 : Hid (KB w w3 p b #[.slice B1 N1 c1, .slice B2 N2 c2] #[.slice B1 N1 N1, .slice B2 N2 N2, z3, z4] (.slice B1 N1 c1) (.slice B2 N2 c2) z3 z4 (ordO J) (namesO (os.take i))) := by
              have hc := HC.out
              have l1 : (ordLs J.lb 2).length = J.lb.length := by
                have h := t1.1
                rw [flatMap_len _ 4 (fun _ => rfl)] at h
                omega
              have l2 : (ordRs J.rl 2).length = J.rl.length := by
                have h := t2.1
                rw [flatMap_len _ 5 (fun _ => rfl)] at h
                omega
              have hB : ∀ {k : Nat} {v : Value} {xs : List Value}, wc.ownsRow (b + 3) 5 1 v k xs → w3.ownsRow (b + 3) 5 1 v k xs := fun h => ownsRow_keeps h hk (fun g hg e => by
                rcases e with e | e | e
                · obtain ⟨d1, b1⟩ := owns_kind h hg
                  obtain ⟨d2, b2⟩ := owns_kind hc.lb e
                  exact absurd (b1.kind b2) (by decide)
                · obtain ⟨d1, b1⟩ := owns_kind h hg
                  obtain ⟨d2, b2⟩ := owns_kind hc.rl e
                  exact absurd (b1.kind b2) (by decide)
                · have := (own_some2 h hg).2; omega)
              have hsz := hc.sz
              refine hc.move (J' := ordO J) hk (fun i hi e => ?_) (hB hc.tx) (hB hc.dt) (by show OwnL _ _ _ (ordLs J.lb 2); unfold OwnL; rw [l1]; exact t1) (by show OwnR _ _ _ (ordRs J.rl 2); unfold OwnR; rw [l2]; exact t2) hc.ap
              rcases e with e | e | e
              · have := (own_some2 hc.lb e).1; omega
              · have := (own_some2 hc.rl e).1; omega
              · omega
            clear s1 s2 t1 t2 hk HRD o2 o3 HC
            obtain ⟨B3, c3, e3, _, _⟩ := slice_form HW3.out.lb
            obtain ⟨B4, c4, e4, _, _⟩ := slice_form HW3.out.rl
            obtain ⟨N3, hN3⟩ : ∃ n, (ordO J).lb.length = n := ⟨_, rfl⟩
            obtain ⟨N4, hN4⟩ : ∃ n, (ordO J).rl.length = n := ⟨_, rfl⟩
            rw [hN3] at e3
            rw [hN4] at e4
            have HLG : Hid (longO (ordO J) = (decide (1048576 < N1) || decide (1048576 < N2) || decide (4096 < N3) || decide (16384 < N4))) := by
              show _ = _
              unfold longO
              rw [hN3, hN4, ← HNN.out.1, ← HNN.out.2]
              rfl
            clear hN3 hN4
            subst e3
            subst e4
            have d0 : w3.cell? ⟨b + 1, 0, none⟩ = some (.slice B1 N1 N1) := by rw [HW3.out.box.cell]; rfl
            have d1 : w3.cell? ⟨b + 1, 1, none⟩ = some (.slice B2 N2 N2) := by rw [HW3.out.box.cell]; rfl
            have d2 : w3.cell? ⟨b + 1, 2, none⟩ = some (.slice B3 N3 c3) := by rw [HW3.out.box.cell]; rfl
            have d3 : w3.cell? ⟨b + 1, 3, none⟩ = some (.slice B4 N4 c4) := by rw [HW3.out.box.cell]; rfl
            have HRJ := Lib.hid HW3.out.rj
            have r0 : w3.cell? ⟨p, 0, none⟩ = some (.slice none 0 0) := by rw [HRJ.out.ob.cell]; rfl
            have r1 : w3.cell? ⟨p, 1, none⟩ = some (.slice none 0 0) := by rw [HRJ.out.ob.cell]; rfl
            have r2 : w3.cell? ⟨p, 2, none⟩ = some (.slice none 0 0) := by rw [HRJ.out.ob.cell]; rfl
            have r3 : w3.cell? ⟨p, 3, none⟩ = some (.slice none 0 0) := by rw [HRJ.out.ob.cell]; rfl
            have s0 : w3.cell? ⟨p + 1, 0, none⟩ = some (.int .i64 0) := by rw [HRJ.out.fl.cell]; rfl
            have s1 : w3.cell? ⟨p + 1, 1, none⟩ = some (.int .i64 0) := by rw [HRJ.out.fl.cell]; rfl
            have f0 := HRJ.out.ob.frozen 0
            have f1 := HRJ.out.ob.frozen 1
            have f2 := HRJ.out.ob.frozen 2
            have f3 := HRJ.out.ob.frozen 3
            have f4 := HRJ.out.fl.frozen 0
            have f5 := HRJ.out.fl.frozen 1
            cases hlg : longO (ordO J) with
            | true =>
              have HJR := Lib.hid (jres_long HAL.out HDL.out (by rw [HJL.out]; exact hlg))
              have h4 : 1048576 < N1 ∨ (¬ 1048576 < N1 ∧ 1048576 < N2) ∨ (¬ 1048576 < N1 ∧ ¬ 1048576 < N2 ∧ 4096 < N3) ∨ (¬ 1048576 < N1 ∧ ¬ 1048576 < N2 ∧ ¬ 4096 < N3 ∧ 16384 < N4) := by
                rw [HLG.out] at hlg
                simp at hlg
                omega
              have HF := Lib.hid (HRJ.out.out (.slice none 0 0) (.slice none 0 0) (.slice none 0 0) (.slice none 0 0) 0 3)
              clear hlg
              rcases h4 with h1 | ⟨h1, h2⟩ | ⟨h1, h2, h3⟩ | ⟨h1, h2, h3, h4⟩
              all_goals
                go_wp2_with fail
                obtain ⟨W6, hW6, h1, hkk, h2, h3⟩ := HF.out
                rw [← hW6]
                have y0 := h2.cell 0
                have y1 := h2.cell 1
                have y2 := h2.cell 2
                have y3 := h2.cell 3
                have u0 := h3.cell 0
                have u1 := h3.cell 1
                refine bodyPost_ret (v := .tuple #[.agg #[.slice none 0 0, .slice none 0 0, .slice none 0 0, .slice none 0 0], .agg #[.int .i64 0, .int .i64 3]]) (by simp [results, Tryz.results9, y0, y1, y2, y3, u0, u1, go_sem]) rfl ?_
                exact ⟨none, 0, 0, 0, _, _, _, by rw [HJR.out], by rw [HJR.out]; exact obnil, by rw [HP.out]; exact h1, ⟨[], rfl, Or.inl ⟨rfl, rfl⟩⟩, 0, [], rfl, Or.inl ⟨rfl, rfl⟩⟩
            | false =>
              have HJR := Lib.hid (jres_ok HAL.out HDL.out (by rw [HJL.out]; exact hlg))
              have h4 : ¬ 1048576 < N1 ∧ ¬ 1048576 < N2 ∧ ¬ 4096 < N3 ∧ ¬ 16384 < N4 := by
                rw [HLG.out] at hlg
                simp at hlg
                omega
              have HF := Lib.hid (HRJ.out.out (.slice B1 N1 N1) (.slice B2 N2 N2) (.slice B3 N3 c3) (.slice B4 N4 c4) 0 0)
              clear hlg
              obtain ⟨h1, h2, h3, h4⟩ := h4
              go_wp2_with fail
              obtain ⟨W6, hW6, h1, hkk, h2, h3⟩ := HF.out
              rw [← hW6]
              have y0 := h2.cell 0
              have y1 := h2.cell 1
              have y2 := h2.cell 2
              have y3 := h2.cell 3
              have u0 := h3.cell 0
              have u1 := h3.cell 1
              refine bodyPost_ret (v := .tuple #[.agg #[.slice B1 N1 N1, .slice B2 N2 N2, .slice B3 N3 c3, .slice B4 N4 c4], .agg #[.int .i64 0, .int .i64 0]]) (by simp [results, Tryz.results9, y0, y1, y2, y3, u0, u1, go_sem]) rfl ?_
              have hr2 := HW3.out.pb
              have hq : ∀ {e size k : Nat} {v : Value} {xs : List Value}, w3.ownsRow (b + 3) e size v k xs → W6.ownsRow (b + 3) e size v k xs := fun h => ownsRow_keeps h hkk (fun g hg e => by have := (own_some2 h hg).1; omega)
              refine ⟨B1, N1, N1, c1, _, _, _, by rw [HJR.out], ?_, by rw [HP.out]; exact h1, ⟨_, ownsRow_lower (hq (by have h := HW3.out.tx; unfold OwnB at h; rw [show (ordO J).tx.length = N1 from HNN.out.1] at h; exact h)) (by have := HP.out; omega)⟩, _, _, ownsRow_lower (hq HW3.out.lb) (by have := HP.out; omega)⟩
              rw [HJR.out, HJL.out]
              exact ⟨RowOf.clip (RowOf.own (hq HW3.out.tx)), RowOf.clip (RowOf.own (hq HW3.out.dt)), RowOf.own (hq HW3.out.lb), RowOf.own (hq HW3.out.rl)⟩
end Go.Proofs.YteoglkofeogknaaGreatDoor
