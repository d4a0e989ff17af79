/- Walk: the reference's Join (under way). Conditions: what the theorem states. -/
import Derived.Test.YtlgdfacaeahcaaaDoorN0
import Derived.Test.YtlgdfacaeahcaaaDoorQA
import Derived.Deep.CutRange
set_option linter.unusedVariables false
set_option linter.unusedSimpArgs false
namespace Go.Proofs.YtlgdfacaeahcaaaDoor
open Go.RowKit
/-- Where the reference's Join stands. -/
def JS (w W : World) (p r : Nat) (z1 z2 z3 z4 : Value) (J : Ob) : Prop := JB w W p r #[z1, z2, z3, z4] z1 z2 z3 z4 J
theorem JB.rj {w W : World} {p r : Nat} {bx : Array Value} {z1 z2 z3 z4 : Value} {J : Ob} (h : JB w W p r bx z1 z2 z3 z4 J) : RJ w W p := ⟨h.below, by have := h.sz; have := h.pr; omega, h.res, h.flt⟩
theorem JS.new {w W : World} {p : Nat} (h : RJ w W p) : JS w (W.alloc (.cells #[.slice none 0 0, .slice none 0 0, .slice none 0 0, .slice none 0 0] 27)) p W.heap.size (.slice none 0 0) (.slice none 0 0) (.slice none 0 0) (.slice none 0 0) ⟨[], [], [], []⟩ := by
  have hr := h.bel ((Below.refl _ _).alloc (Nat.le_refl _) (.cells #[.slice none 0 0, .slice none 0 0, .slice none 0 0, .slice none 0 0] 27))
  exact ⟨hr.below, h.size, hr.ob, hr.fl, Blk.new W _ _, by simp, ⟨rfl, Or.inl ⟨rfl, rfl⟩⟩, ⟨rfl, Or.inl ⟨rfl, rfl⟩⟩, ⟨rfl, Or.inl ⟨rfl, rfl⟩⟩, ⟨rfl, Or.inl ⟨rfl, rfl⟩⟩, fun g hg => by cases hg⟩
set_option maxRecDepth 100000 in
set_option maxHeartbeats 40000000 in
theorem rjoin_any (v : Value) (os : List Ob) (w : World) (h : OsAt w v os) (ho : OpsAt w) (h0 : 0 < w.heap.size) (hnm : ∀ o ∈ os, NmOK o) (hN : os.length ≤ 1073741824) (hB : ∀ k, k ≤ os.length → SzOK (joinO (os.take k))) :
    Calls Tryd.prog 6 #[v] w (JPost os w) := by
  obtain ⟨p, hp⟩ : ∃ p, w.heap.size = p := ⟨_, rfl⟩
  have HO := Lib.hid h
  have HOP := Lib.hid ho
  have HNM := Lib.hid hnm
  have HSZ := Lib.hid hB
  obtain ⟨A, cap, rfl, q1, q2⟩ := h.form
  unfold maxLen at q2
  obtain ⟨N, hNN⟩ : ∃ N, os.length = N := ⟨_, rfl⟩
  have HN := Lib.hid hNN
  rw [hNN] at HO hN q1 ⊢
  clear h ho hnm hNN hB
  have HST : Hid (RJ w ((w.alloc (.cells #[.slice none 0 0, .slice none 0 0, .slice none 0 0, .slice none 0 0] 27)).alloc (.cells #[.int .i64 0, .int .i64 0] 31)) p) := by
    subst hp
    exact ⟨((Below.refl _ _).alloc (Nat.le_refl _) _).alloc (by simp) _, by simp, (Blk.new w _ _).alloc _, blk_at (by simp) _ _⟩
  have HP := Lib.hid hp
  go_enter Tryd.func6, Tryd.ntmps6
  go_wp2_with fail
  try rw [hp]
  go_loopw [4] (fun iv W => ∃ k : Nat, k ≤ N ∧ iv = .int .i64 k ∧ Hid ((List.range k).any (badAt os) = false) ∧ Hid (RJ w W p)) (fun iv _ => N - (intOf iv).toNat)
  case atStart => exact ⟨0, Nat.zero_le _, rfl, rfl, HST.out⟩
  case round =>
    clear HST
    obtain ⟨k, hk, rfl, HA, HI⟩ := hrel
    by_cases hlt : k < N
    · have hkl : k < os.length := by rw [HN.out]; exact hlt
      obtain ⟨g, off, rfl, hc⟩ := HO.out.at_ (by omega)
      obtain ⟨v1, v2, v3, v4, c0, c1, c2, c3, hob⟩ := hc k hkl
      obtain ⟨o, hoo⟩ : ∃ o, os.getD k default = o := ⟨_, rfl⟩
      rw [hoo] at hob
      have hmem : o ∈ os := by rw [← hoo]; simp [List.getD, hkl]
      have hbw : ∀ {a : Addr} {v : Value}, w.cell? a = some v → wr.cell? a = some v := fun h => (HI.out.below.cell (by have := cell_lt h; rw [HP.out] at this; exact this)).trans h
      replace c0 := hbw c0
      replace c1 := hbw c1
      replace c2 := hbw c2
      replace c3 := hbw c3
      have hbel : Below w.heap.size w wr := by rw [HP.out]; exact HI.out.below
      have HCK := Lib.hid (rcheck_obj v1 v2 v3 v4 o wr (hob.below hbel) (HOP.out.below h0 hbel) (Nat.lt_of_lt_of_le h0 hbel.size) (HNM.out o hmem))
      obtain ⟨A1, d1, rfl, _⟩ := hob.tx.form
      obtain ⟨A2, d2, rfl, _⟩ := hob.dt.form
      obtain ⟨A3, d3, rfl, _, _⟩ := hob.lb.form
      obtain ⟨A4, d4, rfl, _, _⟩ := hob.rl.form
      have HBD : Hid (badAt os k = (chkO o != 0)) := by show _ = _; unfold badAt; rw [hoo]
      have HOO := Lib.hid hoo
      clear hob hc hbw hmem hoo
      have e3 : (k : Int) < (N : Int) := by omega
      have e5 : (0 : Int) ≤ (k : Int) := by omega
      have e6 : IntKind.i64.wrap ((k : Int) + 1) = ((k + 1 : Nat) : Int) := by rw [IntWalk.i64_in _ (by omega)]; omega
      go_wp2_with fail
      refine HCK.out.mono ?_
      rintro e w1 ⟨rfl, hb⟩
      have HI1 := Lib.hid (HI.out.bel hb)
      clear hb HI HCK c0 c1 c2 c3
      by_cases hz : chkO o = 0
      · have HA2 : Hid ((List.range (k + 1)).any (badAt os) = false) := rng_miss HA.out (by rw [HBD.out, hz]; rfl)
        rw [hz]
        go_wp2_with fail
        go_roundw
        case rel => exact ⟨k + 1, by omega, by go_num, HA2.out, HI1.out⟩
        case measure => simp [intOf]; omega
      · have hz2 : (chkO o == 0) = false := by simpa using hz
        have hj := jres_bad hkl (by rw [HBD.out]; simp [hz]) HA.out
        rw [HOO.out] at hj
        have HJ := Lib.hid hj
        clear hj
        obtain ⟨z, hzz⟩ : ∃ z, chkO o = z := ⟨_, rfl⟩
        rw [hzz] at hz2 HJ ⊢
        clear hz hzz
        have r0 : w1.cell? ⟨p, 0, none⟩ = some (.slice none 0 0) := by rw [HI1.out.ob.cell]; rfl
        have r1 : w1.cell? ⟨p, 1, none⟩ = some (.slice none 0 0) := by rw [HI1.out.ob.cell]; rfl
        have r2 : w1.cell? ⟨p, 2, none⟩ = some (.slice none 0 0) := by rw [HI1.out.ob.cell]; rfl
        have r3 : w1.cell? ⟨p, 3, none⟩ = some (.slice none 0 0) := by rw [HI1.out.ob.cell]; rfl
        have s0 : w1.cell? ⟨p + 1, 0, none⟩ = some (.int .i64 0) := by rw [HI1.out.fl.cell]; rfl
        have s1 : w1.cell? ⟨p + 1, 1, none⟩ = some (.int .i64 0) := by rw [HI1.out.fl.cell]; rfl
        have f0 := HI1.out.ob.frozen 0
        have f1 := HI1.out.ob.frozen 1
        have f2 := HI1.out.ob.frozen 2
        have f3 := HI1.out.ob.frozen 3
        have f4 := HI1.out.fl.frozen 0
        have f5 := HI1.out.fl.frozen 1
        have HF := Lib.hid (HI1.out.out (.slice none 0 0) (.slice none 0 0) (.slice none 0 0) (.slice none 0 0) k z)
        clear HI1
        go_wp2_with fail
        obtain ⟨W6, hW6, h1, _, h2, h3⟩ := HF.out
        rw [← hW6]
        have y0 := h2.cell 0
        have y1 := h2.cell 1
        have y2 := h2.cell 2
        have y3 := h2.cell 3
        have u0 := h3.cell 0
        have u1 := h3.cell 1
        refine bodyPost_ret (v := .tuple #[.agg #[.slice none 0 0, .slice none 0 0, .slice none 0 0, .slice none 0 0], .agg #[.int .i64 k, .int .i64 z]]) (by simp [results, Tryd.results6, y0, y1, y2, y3, u0, u1, go_sem]) rfl ?_
        exact ⟨_, _, _, _, by rw [HJ.out], by rw [HJ.out]; exact obnil, by rw [HP.out]; exact h1⟩
    · have hkn : k = N := by omega
      subst hkn
      have HAL : Hid ((List.range os.length).any (badAt os) = false) := by show _ = _; rw [HN.out]; exact HA.out
      have HJS := Lib.hid (JS.new HI.out)
      clear hlt hk HA HI
      generalize wr = ws at *
      go_upto_region 8 with fail
      obtain ⟨r, hr⟩ : ∃ r, ws.heap.size = r := ⟨_, rfl⟩
      rw [hr] at HJS ⊢
      obtain ⟨w1, hw1⟩ : ∃ w1, ws.alloc (.cells #[.slice none 0 0, .slice none 0 0, .slice none 0 0, .slice none 0 0] 27) = w1 := ⟨_, rfl⟩
      rw [hw1] at HJS ⊢
      clear hr hw1
      have HJT : Hid (∃ z1 z2 z3 z4, JS w w1 p r z1 z2 z3 z4 (joinO (os.take 0))) := ⟨_, _, _, _, HJS.out⟩
      clear HJS
      go_wp2_with fail
      go_loopw [7] (fun iv W => ∃ i : Nat, i ≤ k ∧ iv = .int .i64 i ∧ Hid ((List.range i).any (dupAt os) = false) ∧ Hid (∃ z1 z2 z3 z4, JS w W p r z1 z2 z3 z4 (joinO (os.take i)))) (fun iv _ => k - (intOf iv).toNat)
      case atStart => exact ⟨0, Nat.zero_le _, rfl, rfl, HJT.out⟩
      case round =>
        clear HJT
        obtain ⟨i, hi, rfl, HD, HJ⟩ := hrel
        by_cases hlt : i < k
        · have hil : i < os.length := by rw [HN.out]; exact hlt
          obtain ⟨z1, z2, z3, z4, hjs⟩ := HJ.out
          have HJS := Lib.hid hjs
          obtain ⟨g, off, rfl, hc⟩ := HO.out.at_ (by omega)
          obtain ⟨v1, v2, v3, v4, c0, c1, c2, c3, hob⟩ := hc i hil
          obtain ⟨o, hoo⟩ : ∃ o, os.getD i default = o := ⟨_, rfl⟩
          rw [hoo] at hob
          have hbw : ∀ {a : Addr} {v : Value}, w.cell? a = some v → wr.cell? a = some v := fun h => (hjs.rj.below.cell (by have := cell_lt h; rw [HP.out] at this; exact this)).trans h
          replace c0 := hbw c0
          replace c1 := hbw c1
          replace c2 := hbw c2
          replace c3 := hbw c3
          obtain ⟨A1, d1, rfl, _⟩ := hob.tx.form
          obtain ⟨A2, d2, rfl, _⟩ := hob.dt.form
          obtain ⟨A3, d3, rfl, l3, m3⟩ := hob.lb.form
          obtain ⟨A4, d4, rfl, l4, m4⟩ := hob.rl.form
          unfold maxLen at m3 m4
          have HOB := Lib.hid hob
          have HOO := Lib.hid hoo
          have HRO : Hid (Rgt o ∧ longO o = false) := by
            have hz := all_right HAL.out o (by rw [← hoo]; simp [List.getD, hil])
            exact ⟨rgt_of hz, (chk_ok hz).1⟩
          obtain ⟨M3, hM3⟩ : ∃ M3, o.lb.length = M3 := ⟨_, rfl⟩
          obtain ⟨M4, hM4⟩ : ∃ M4, o.rl.length = M4 := ⟨_, rfl⟩
          have HM3 := Lib.hid hM3
          have HM4 := Lib.hid hM4
          rw [hM3] at HOB l3 c2
          rw [hM4] at HOB l4 c3
          have e3 : (i : Int) < (k : Int) := by omega
          have e5 : (0 : Int) ≤ (i : Int) := by omega
          have e6 : IntKind.i64.wrap ((i : Int) + 1) = ((i + 1 : Nat) : Int) := by rw [IntWalk.i64_in _ (by omega)]; omega
          have HLT := Lib.hid hlt
          clear hc hbw hob hoo hjs HJ hM3 hM4 hlt
          obtain ⟨Az, cz, hz3, lz, mz⟩ := slice_form HJS.out.lb
          obtain ⟨NJ, hNJ⟩ : ∃ NJ, (joinO (os.take i)).lb.length = NJ := ⟨_, rfl⟩
          have HNJ := Lib.hid hNJ
          have HSJ := Lib.hid (HSZ.out i (by omega))
          rw [hNJ] at hz3 lz
          have hNJb : NJ ≤ 137438953472 := by rw [← hNJ]; exact HSJ.out.2.2.1
          unfold maxLen at mz
          clear hNJ
          subst hz3
          go_upto_region 12 with fail
          obtain ⟨q, hq⟩ : ∃ q, wr.heap.size = q := ⟨_, rfl⟩
          rw [hq]
          obtain ⟨w2, hw2⟩ : ∃ w2, wr.alloc (.cells #[.slice A1 o.tx.length d1, .slice A2 o.dt.length d2, .slice A3 M3 d3, .slice A4 M4 d4] 27) = w2 := ⟨_, rfl⟩
          rw [hw2]
          have HJ2 : Hid (JS w w2 p r z1 z2 (.slice Az NJ cz) z4 (joinO (os.take i)) ∧ Blk w2 q 27 #[.slice A1 o.tx.length d1, .slice A2 o.dt.length d2, .slice A3 M3 d3, .slice A4 M4 d4] ∧ r < q) := by
            have hb : Below wr.heap.size wr w2 := by rw [← hw2]; exact (Below.refl _ _).alloc (Nat.le_refl _) _
            refine ⟨HJS.out.bel hb, ?_, by have := HJS.out.sz; omega⟩
            have := Blk.new wr 27 #[.slice A1 o.tx.length d1, .slice A2 o.dt.length d2, .slice A3 M3 d3, .slice A4 M4 d4]
            rwa [hw2, hq] at this
          clear hw2 hq HJS c0 c1 c2 c3
          generalize decide ((i : Int) < (k : Int)) = bik
          go_wp2_with fail
          go_loopw [9] (fun av W => ∃ a : Nat, a ≤ M3 ∧ av = .int .i64 a ∧ Hid (((o.lb.take a).any fun x => amongB (namesO (os.take i)) x.nm) = false) ∧ Hid (Below w2.heap.size w2 W)) (fun av _ => M3 - (intOf av).toNat)
          case atStart => exact ⟨0, Nat.zero_le _, rfl, rfl, Below.refl _ _⟩
          case round =>
            obtain ⟨a, ha, rfl, HDA, HW⟩ := hrel
            have b2 : wr.cell? ⟨q, 2, none⟩ = some (.slice A3 M3 d3) := (HW.out.cell (p := ⟨q, 2, none⟩) HJ2.out.2.1.lt).trans (by rw [HJ2.out.2.1.cell]; rfl)
            by_cases hlt2 : a < M3
            · have e8 : (a : Int) < (M3 : Int) := by omega
              have e9 : (0 : Int) ≤ (a : Int) := by omega
              have e10 : IntKind.i64.wrap ((a : Int) + 1) = ((a + 1 : Nat) : Int) := by rw [IntWalk.i64_in _ (by omega)]; omega
              go_wp2_with fail
              generalize wr = ws2 at *
              clear b2
              generalize decide ((a : Int) < (M3 : Int)) = bam
              go_loopw [10] (fun bv W => ∃ b : Nat, b ≤ NJ ∧ bv = .int .i64 b ∧ Hid (amongB ((namesO (os.take i)).take b) (o.lb.getD a default).nm = false) ∧ Hid (Below w2.heap.size w2 W)) (fun bv _ => NJ - (intOf bv).toNat)
              case atStart => exact ⟨0, Nat.zero_le _, rfl, rfl, HW.out⟩
              case round =>
                clear HW
                obtain ⟨b, hb, rfl, HM, HW⟩ := hrel
                have b2 : wr.cell? ⟨q, 2, none⟩ = some (.slice A3 M3 d3) := (HW.out.cell (p := ⟨q, 2, none⟩) HJ2.out.2.1.lt).trans (by rw [HJ2.out.2.1.cell]; rfl)
                have b3 : wr.cell? ⟨r, 2, none⟩ = some (.slice Az NJ cz) := (HW.out.cell (p := ⟨r, 2, none⟩) HJ2.out.1.box.lt).trans (by rw [HJ2.out.1.box.cell]; rfl)
                by_cases hlt3 : b < NJ
                · have hbl : b < (joinO (os.take i)).lb.length := by rw [HNJ.out]; exact hlt3
                  have hal : a < o.lb.length := by rw [HM3.out]; exact hlt2
                  obtain ⟨g5, off5, rfl, _, hc5⟩ := Lbs.at_ (RowOf.own HJ2.out.1.lb) (by omega)
                  obtain ⟨g6, off6, rfl, _, hc6⟩ := HOB.out.lb.at_ (by omega)
                  obtain ⟨x0, _, _, _⟩ := hc5 b hbl
                  obtain ⟨y0, _, _, _⟩ := hc6 a hal
                  replace x0 := (HW.out.cell (cell_lt x0)).trans x0
                  replace y0 := (HJ2.out.1.rj.below.cell (by have := cell_lt y0; rw [HP.out] at this; exact this)).trans y0
                  replace y0 := (HW.out.cell (cell_lt y0)).trans y0
                  have HNB : Hid ((namesO (os.take i))[b]? = some ((joinO (os.take i)).lb.getD b default).nm) := by
                    show _ = _
                    rw [← joinO_names, List.getElem?_map, List.getElem?_eq_getElem hbl]
                    simp [List.getD, hbl]
                  obtain ⟨xn, hxn⟩ : ∃ xn, ((joinO (os.take i)).lb.getD b default).nm = xn := ⟨_, rfl⟩
                  obtain ⟨yn, hyn⟩ : ∃ yn, (o.lb.getD a default).nm = yn := ⟨_, rfl⟩
                  rw [hxn] at x0 HNB
                  rw [hyn] at y0 HM
                  have HYN := Lib.hid hyn
                  clear hc5 hc6 hxn hyn
                  have e11 : (b : Int) < (NJ : Int) := by omega
                  have e12 : (0 : Int) ≤ (b : Int) := by omega
                  have e13 : IntKind.i64.wrap ((b : Int) + 1) = ((b + 1 : Nat) : Int) := by rw [IntWalk.i64_in _ (by omega)]; omega
                  cases he : (xn.toList == yn.toList) with
                  | true =>
                    have HJR : Hid (jres os = (⟨[], [], [], []⟩, (i : Int), 51)) := by
                      refine jres_dup HAL.out hil ?_ HD.out
                      unfold dupAt
                      rw [HOO.out, List.any_eq_true]
                      refine ⟨o.lb.getD a default, by simp [List.getD, hal], ?_⟩
                      rw [HYN.out]
                      exact among_hit HNB.out he
                    go_wp2_with fail
                    go_quiet (fail)
                    go_upto_region 19 with fail
                    have HRJ : Hid (RJ w (wr.drewN nq) p) := (HJ2.out.1.rj).bel (below_dN HW.out _)
                    generalize wr.drewN nq = wq at HRJ ⊢
                    have r0 : wq.cell? ⟨p, 0, none⟩ = some (.slice none 0 0) := by rw [HRJ.out.ob.cell]; rfl
                    have r1 : wq.cell? ⟨p, 1, none⟩ = some (.slice none 0 0) := by rw [HRJ.out.ob.cell]; rfl
                    have r2 : wq.cell? ⟨p, 2, none⟩ = some (.slice none 0 0) := by rw [HRJ.out.ob.cell]; rfl
                    have r3 : wq.cell? ⟨p, 3, none⟩ = some (.slice none 0 0) := by rw [HRJ.out.ob.cell]; rfl
                    have s0 : wq.cell? ⟨p + 1, 0, none⟩ = some (.int .i64 0) := by rw [HRJ.out.fl.cell]; rfl
                    have s1 : wq.cell? ⟨p + 1, 1, none⟩ = some (.int .i64 0) := by rw [HRJ.out.fl.cell]; rfl
                    have f0 := HRJ.out.ob.frozen 0
                    have f1 := HRJ.out.ob.frozen 1
                    have f2 := HRJ.out.ob.frozen 2
                    have f3 := HRJ.out.ob.frozen 3
                    have f4 := HRJ.out.fl.frozen 0
                    have f5 := HRJ.out.fl.frozen 1
                    have HF := Lib.hid (HRJ.out.out (.slice none 0 0) (.slice none 0 0) (.slice none 0 0) (.slice none 0 0) i 51)
                    clear HRJ
                    go_wp2_with fail
                    obtain ⟨W6, hW6, h1, _, h2, h3⟩ := HF.out
                    rw [← hW6]
                    have y0 := h2.cell 0
                    have y1 := h2.cell 1
                    have y2 := h2.cell 2
                    have y3 := h2.cell 3
                    have u0 := h3.cell 0
                    have u1 := h3.cell 1
                    refine bodyPost_ret (v := .tuple #[.agg #[.slice none 0 0, .slice none 0 0, .slice none 0 0, .slice none 0 0], .agg #[.int .i64 i, .int .i64 51]]) (by simp [results, Tryd.results6, y0, y1, y2, y3, u0, u1, go_sem]) rfl ?_
                    exact ⟨_, _, _, _, by rw [HJR.out], by rw [HJR.out]; exact obnil, by rw [HP.out]; exact h1⟩
                  | false =>
                    have HM2 := Lib.hid (among_miss HNB.out HM.out he)
                    go_wp2_with fail
                    go_quiet (fail)
                    go_wp2_with fail
                    go_roundw
                    case rel => exact ⟨b + 1, by omega, by go_num, by rw [HYN.out]; exact HM2.out, below_dN HW.out _⟩
                    case measure => simp [intOf]; omega
                · have hbn : b = NJ := by omega
                  have HDA2 : Hid (((o.lb.take (a + 1)).any fun x => amongB (namesO (os.take i)) x.nm) = false) := by
                    show _ = _
                    have hal : a < o.lb.length := by rw [HM3.out]; exact hlt2
                    have e : o.lb.getD a default = o.lb[a] := by simp [List.getD, hal]
                    have hm := HM.out
                    rw [List.take_of_length_le (by rw [← joinO_names, List.length_map, HNJ.out]; omega), e] at hm
                    rw [List.take_succ_eq_append_getElem hal, List.any_append, HDA.out]
                    simp [hm]
                  clear HM hbn
                  go_wp2_with fail
                  go_roundw
                  case rel => exact ⟨a + 1, by omega, by go_num, HDA2.out, HW.out⟩
                  case measure => simp [intOf]; omega
            · have han : a = M3 := by omega
              have HND : Hid (dupAt os i = false) := by
                show _ = _
                have hd := HDA.out
                rw [List.take_of_length_le (l := o.lb) (by rw [HM3.out]; omega)] at hd
                unfold dupAt
                rw [HOO.out]
                exact hd
              clear HDA ha han
              have HS3 : Hid (JS w wr p r z1 z2 (.slice Az NJ cz) z4 (joinO (os.take i)) ∧ Blk wr q 27 #[.slice A1 o.tx.length d1, .slice A2 o.dt.length d2, .slice A3 M3 d3, .slice A4 M4 d4] ∧ r < q) := by
                exact ⟨HJ2.out.1.bel HW.out, HJ2.out.2.1.below HW.out HJ2.out.2.1.lt, HJ2.out.2.2⟩
              clear HW HJ2
              go_upto_region 20 with fail
              clear b2
              go_cut [] from 73 to 80 (fun W => Hid (∃ y1 y2, JS w W p r y1 y2 (.slice Az NJ cz) z4 ⟨padL (joinO (os.take i)).tx, padL (joinO (os.take i)).dt, (joinO (os.take i)).lb, (joinO (os.take i)).rl⟩ ∧ Blk W q 27 #[.slice A1 o.tx.length d1, .slice A2 o.dt.length d2, .slice A3 M3 d3, .slice A4 M4 d4] ∧ r < q))
              case first => as_aux_lemma =>
                have HB0 : Hid (JS w wr.drew p r z1 z2 (.slice Az NJ cz) z4 (joinO (os.take i)) ∧ Blk wr.drew q 27 #[.slice A1 o.tx.length d1, .slice A2 o.dt.length d2, .slice A3 M3 d3, .slice A4 M4 d4] ∧ r < q) := ⟨HS3.out.1.bel (Below.refl _ _).drew, HS3.out.2.1, HS3.out.2.2⟩
                clear HS3
                refine wp_region_held_drew (S := (fun _ => True)) (by kernel_rfl) trivial (fun hHeld => ?_)
                generalize wr.drew = W0 at HB0 ⊢
                have b0 : W0.cell? ⟨r, 0, none⟩ = some z1 := by rw [HB0.out.1.box.cell]; rfl
                have b1 : W0.cell? ⟨r, 1, none⟩ = some z2 := by rw [HB0.out.1.box.cell]; rfl
                refine wpAnyH_take (i := 0) (v := ?_) rfl (by kernel_rfl) (by kernel_rfl) (by kernel_rfl) (fun _ _ _ h => h) (Or.inl ⟨by rfl, ?_⟩) trivial ?_
                rotate_left 1
                focus (intro w hSw; first | (go_simp; done) | (go_simp; with_reducible rfl))
                try simp only [Act.put, List.setIfInBounds_toArray, List.set_cons_zero, List.set_cons_succ, List.getElem_toArray, List.getElem_cons_succ, List.getElem_cons_zero]
                refine wpAnyH_take (i := 3) (v := ?_) rfl (by kernel_rfl) (by kernel_rfl) (by kernel_rfl) (fun _ _ _ h => h) (Or.inl ⟨by rfl, ?_⟩) trivial ?_
                rotate_left 1
                focus (intro w hSw; first | (go_simp; done) | (go_simp; with_reducible rfl))
                try simp only [Act.put, List.setIfInBounds_toArray, List.set_cons_zero, List.set_cons_succ, List.getElem_toArray, List.getElem_cons_succ, List.getElem_cons_zero]
                refine wpAnyH_ready (rs := [1, 4]) (by kernel_rfl) (by simp) ?_
                refine AllReadyH.cons rfl (fun K hK => ?_) (AllReadyH.cons rfl (fun K hK => ?_) AllReadyH.nil)
                · rw [if_pos (by rfl)]
                  go_simp
                  refine hK.out _ _ trivial (fun hHeld => ?_)
                  clear hK K
                  try simp only [Act.put, List.setIfInBounds_toArray, List.set_cons_zero, List.set_cons_succ, List.getElem_toArray, List.getElem_cons_succ, List.getElem_cons_zero]
                  refine wpAnyH_ready (rs := [2, 4]) (by kernel_rfl) (by simp) ?_
                  refine AllReadyH.cons rfl (fun K hK => ?_) (AllReadyH.cons rfl (fun K hK => ?_) AllReadyH.nil)
                  · rw [if_pos (by rfl)]
                    go_simp
                    go_at_call 15
                    refine (padded_any z1 (joinO (os.take i)).tx (r + 1) W0 HB0.out.1.tx (by have := HSJ.out.1; omega) HB0.out.1.sz).mono ?_
                    rintro e W1 ⟨y1, rfl, ho1, hg1⟩
                    have HB1 : Hid (JB w W1 p r #[z1, z2, .slice Az NJ cz, z4] y1 z2 (.slice Az NJ cz) z4 ⟨padL (joinO (os.take i)).tx, (joinO (os.take i)).dt, (joinO (os.take i)).lb, (joinO (os.take i)).rl⟩ ∧ Blk W1 q 27 #[.slice A1 o.tx.length d1, .slice A2 o.dt.length d2, .slice A3 M3 d3, .slice A4 M4 d4] ∧ r < q) := ⟨JB.growT HB0.out.1 hg1 ho1, JB.otherT HB0.out.1 hg1 HB0.out.2.1, HB0.out.2.2⟩
                    clear ho1 hg1 b0 b1
                    have b1 : W1.cell? ⟨r, 1, none⟩ = some z2 := by rw [HB1.out.1.box.cell]; rfl
                    try go_simp
                    refine hK.out _ _ trivial (fun hHeld => ?_)
                    clear hK K
                    try simp only [Act.put, List.setIfInBounds_toArray, List.set_cons_zero, List.set_cons_succ, List.getElem_toArray, List.getElem_cons_succ, List.getElem_cons_zero]
                    refine wpAnyH_ready (rs := [4]) (by kernel_rfl) (by simp) ?_
                    refine AllReadyH.cons rfl (fun K hK => ?_) AllReadyH.nil
                    rw [if_pos (by rfl)]
                    go_simp
                    refine hK.out _ _ trivial (fun hHeld => ?_)
                    clear hK K
                    try simp only [Act.put, List.setIfInBounds_toArray, List.set_cons_zero, List.set_cons_succ, List.getElem_toArray, List.getElem_cons_succ, List.getElem_cons_zero]
                    refine wpAnyH_take (i := 6) (v := ?_) rfl (by kernel_rfl) (by kernel_rfl) (by kernel_rfl) (fun _ _ _ h => h) (Or.inl ⟨by rfl, ?_⟩) trivial ?_
                    rotate_left 1
                    focus (intro w hSw; first | (go_simp; done) | (go_simp; with_reducible rfl))
                    try simp only [Act.put, List.setIfInBounds_toArray, List.set_cons_zero, List.set_cons_succ, List.getElem_toArray, List.getElem_cons_succ, List.getElem_cons_zero]
                    refine wpAnyH_ready (rs := [5]) (by kernel_rfl) (by simp) ?_
                    refine AllReadyH.cons rfl (fun K hK => ?_) AllReadyH.nil
                    rw [if_pos (by rfl)]
                    go_simp
                    go_at_call 15
                    refine (padded_any z2 (joinO (os.take i)).dt (r + 1) W1 HB1.out.1.dt (by have := HSJ.out.2.1; omega) HB1.out.1.sz).mono ?_
                    rintro e W2 ⟨y2, rfl, ho2, hg2⟩
                    have HB2 : Hid (JB w W2 p r #[z1, z2, .slice Az NJ cz, z4] y1 y2 (.slice Az NJ cz) z4 ⟨padL (joinO (os.take i)).tx, padL (joinO (os.take i)).dt, (joinO (os.take i)).lb, (joinO (os.take i)).rl⟩ ∧ Blk W2 q 27 #[.slice A1 o.tx.length d1, .slice A2 o.dt.length d2, .slice A3 M3 d3, .slice A4 M4 d4] ∧ r < q) := ⟨JB.growD HB1.out.1 hg2 ho2, JB.otherD HB1.out.1 hg2 HB1.out.2.1, HB1.out.2.2⟩
                    clear ho2 hg2 b1 HB1 HB0
                    obtain ⟨By1, cy1, hy1, _, _⟩ := slice_form HB2.out.1.tx
                    obtain ⟨By2, cy2, hy2, _, _⟩ := slice_form HB2.out.1.dt
                    have b0 : W2.cell? ⟨r, 0, none⟩ = some z1 := by rw [HB2.out.1.box.cell]; rfl
                    have f0 := HB2.out.1.box.frozen 0
                    subst hy1
                    subst hy2
                    try go_simp
                    refine hK.out _ _ trivial (fun hHeld => ?_)
                    clear hK K
                    try simp only [Act.put, List.setIfInBounds_toArray, List.set_cons_zero, List.set_cons_succ, List.getElem_toArray, List.getElem_cons_succ, List.getElem_cons_zero]
                    refine wpAnyH_ready (rs := [7]) (by kernel_rfl) (by simp) ?_
                    refine AllReadyH.cons rfl (fun K hK => ?_) AllReadyH.nil
                    rw [if_pos (by rfl)]
                    go_simp
                    have HB3 := Lib.hid (And.intro (JB.put HB2.out.1 0 (.slice By1 (padL (joinO (os.take i)).tx).length cy1)) (And.intro (HB2.out.2.1.far (p := ⟨r, 0, none⟩) (by have := HB2.out.2.2; show q ≠ r; omega) (.slice By1 (padL (joinO (os.take i)).tx).length cy1)) HB2.out.2.2))
                    clear b0 f0 HB2
                    generalize W2.setCell ⟨r, 0, none⟩ (.slice By1 (padL (joinO (os.take i)).tx).length cy1) = W3 at HB3 ⊢
                    have b1 : W3.cell? ⟨r, 1, none⟩ = some z2 := by rw [HB3.out.1.box.cell]; rfl
                    have f1 := HB3.out.1.box.frozen 1
                    refine hK.out _ _ trivial (fun hHeld => ?_)
                    clear hK K
                    try simp only [Act.put, List.setIfInBounds_toArray, List.set_cons_zero, List.set_cons_succ, List.getElem_toArray, List.getElem_cons_succ, List.getElem_cons_zero]
                    refine wpAnyH_take (i := 8) (v := ?_) rfl (by kernel_rfl) (by kernel_rfl) (by kernel_rfl) (fun _ _ _ h => h) (Or.inl ⟨by rfl, ?_⟩) trivial ?_
                    rotate_left 1
                    focus (intro w hSw; first | (go_simp; done) | (go_simp; with_reducible rfl))
                    try simp only [Act.put, List.setIfInBounds_toArray, List.set_cons_zero, List.set_cons_succ, List.getElem_toArray, List.getElem_cons_succ, List.getElem_cons_zero]
                    refine wpAnyH_ready (rs := [9]) (by kernel_rfl) (by simp) ?_
                    refine AllReadyH.cons rfl (fun K hK => ?_) AllReadyH.nil
                    rw [if_pos (by rfl)]
                    go_simp
                    have HB4 := Lib.hid (And.intro (JB.put HB3.out.1 1 (.slice By2 (padL (joinO (os.take i)).dt).length cy2)) (And.intro (HB3.out.2.1.far (p := ⟨r, 1, none⟩) (by have := HB3.out.2.2; show q ≠ r; omega) (.slice By2 (padL (joinO (os.take i)).dt).length cy2)) HB3.out.2.2))
                    clear b1 f1 HB3
                    refine hK.out _ _ trivial (fun hHeld => ?_)
                    clear hK K
                    try simp only [Act.put, List.setIfInBounds_toArray, List.set_cons_zero, List.set_cons_succ, List.getElem_toArray, List.getElem_cons_succ, List.getElem_cons_zero]
                    refine wpAnyH_done (by kernel_rfl) ?_ _
                    go_wp2_with fail
                    go_meet
                    case rel => exact ⟨_, _, by have h := HB4.out.1; simpa [JS] using h, HB4.out.2.1, HB4.out.2.2⟩
                  · rw [if_pos (by rfl)]
                    go_simp
                    refine hK.out _ _ trivial (fun hHeld => ?_)
                    clear hK K
                    try simp only [Act.put, List.setIfInBounds_toArray, List.set_cons_zero, List.set_cons_succ, List.getElem_toArray, List.getElem_cons_succ, List.getElem_cons_zero]
                    refine wpAnyH_ready (rs := [2]) (by kernel_rfl) (by simp) ?_
                    refine AllReadyH.cons rfl (fun K hK => ?_) AllReadyH.nil
                    rw [if_pos (by rfl)]
                    go_simp
                    go_at_call 15
                    refine (padded_any z1 (joinO (os.take i)).tx (r + 1) W0 HB0.out.1.tx (by have := HSJ.out.1; omega) HB0.out.1.sz).mono ?_
                    rintro e W1 ⟨y1, rfl, ho1, hg1⟩
                    have HB1 : Hid (JB w W1 p r #[z1, z2, .slice Az NJ cz, z4] y1 z2 (.slice Az NJ cz) z4 ⟨padL (joinO (os.take i)).tx, (joinO (os.take i)).dt, (joinO (os.take i)).lb, (joinO (os.take i)).rl⟩ ∧ Blk W1 q 27 #[.slice A1 o.tx.length d1, .slice A2 o.dt.length d2, .slice A3 M3 d3, .slice A4 M4 d4] ∧ r < q) := ⟨JB.growT HB0.out.1 hg1 ho1, JB.otherT HB0.out.1 hg1 HB0.out.2.1, HB0.out.2.2⟩
                    clear ho1 hg1 b0 b1
                    have b1 : W1.cell? ⟨r, 1, none⟩ = some z2 := by rw [HB1.out.1.box.cell]; rfl
                    try go_simp
                    refine hK.out _ _ trivial (fun hHeld => ?_)
                    clear hK K
                    try simp only [Act.put, List.setIfInBounds_toArray, List.set_cons_zero, List.set_cons_succ, List.getElem_toArray, List.getElem_cons_succ, List.getElem_cons_zero]
                    refine wpAnyH_take (i := 6) (v := ?_) rfl (by kernel_rfl) (by kernel_rfl) (by kernel_rfl) (fun _ _ _ h => h) (Or.inl ⟨by rfl, ?_⟩) trivial ?_
                    rotate_left 1
                    focus (intro w hSw; first | (go_simp; done) | (go_simp; with_reducible rfl))
                    try simp only [Act.put, List.setIfInBounds_toArray, List.set_cons_zero, List.set_cons_succ, List.getElem_toArray, List.getElem_cons_succ, List.getElem_cons_zero]
                    refine wpAnyH_ready (rs := [5]) (by kernel_rfl) (by simp) ?_
                    refine AllReadyH.cons rfl (fun K hK => ?_) AllReadyH.nil
                    rw [if_pos (by rfl)]
                    go_simp
                    go_at_call 15
                    refine (padded_any z2 (joinO (os.take i)).dt (r + 1) W1 HB1.out.1.dt (by have := HSJ.out.2.1; omega) HB1.out.1.sz).mono ?_
                    rintro e W2 ⟨y2, rfl, ho2, hg2⟩
                    have HB2 : Hid (JB w W2 p r #[z1, z2, .slice Az NJ cz, z4] y1 y2 (.slice Az NJ cz) z4 ⟨padL (joinO (os.take i)).tx, padL (joinO (os.take i)).dt, (joinO (os.take i)).lb, (joinO (os.take i)).rl⟩ ∧ Blk W2 q 27 #[.slice A1 o.tx.length d1, .slice A2 o.dt.length d2, .slice A3 M3 d3, .slice A4 M4 d4] ∧ r < q) := ⟨JB.growD HB1.out.1 hg2 ho2, JB.otherD HB1.out.1 hg2 HB1.out.2.1, HB1.out.2.2⟩
                    clear ho2 hg2 b1 HB1 HB0
                    obtain ⟨By1, cy1, hy1, _, _⟩ := slice_form HB2.out.1.tx
                    obtain ⟨By2, cy2, hy2, _, _⟩ := slice_form HB2.out.1.dt
                    have b0 : W2.cell? ⟨r, 0, none⟩ = some z1 := by rw [HB2.out.1.box.cell]; rfl
                    have f0 := HB2.out.1.box.frozen 0
                    subst hy1
                    subst hy2
                    try go_simp
                    refine hK.out _ _ trivial (fun hHeld => ?_)
                    clear hK K
                    try simp only [Act.put, List.setIfInBounds_toArray, List.set_cons_zero, List.set_cons_succ, List.getElem_toArray, List.getElem_cons_succ, List.getElem_cons_zero]
                    refine wpAnyH_ready (rs := [7]) (by kernel_rfl) (by simp) ?_
                    refine AllReadyH.cons rfl (fun K hK => ?_) AllReadyH.nil
                    rw [if_pos (by rfl)]
                    go_simp
                    have HB3 := Lib.hid (And.intro (JB.put HB2.out.1 0 (.slice By1 (padL (joinO (os.take i)).tx).length cy1)) (And.intro (HB2.out.2.1.far (p := ⟨r, 0, none⟩) (by have := HB2.out.2.2; show q ≠ r; omega) (.slice By1 (padL (joinO (os.take i)).tx).length cy1)) HB2.out.2.2))
                    clear b0 f0 HB2
                    generalize W2.setCell ⟨r, 0, none⟩ (.slice By1 (padL (joinO (os.take i)).tx).length cy1) = W3 at HB3 ⊢
                    have b1 : W3.cell? ⟨r, 1, none⟩ = some z2 := by rw [HB3.out.1.box.cell]; rfl
                    have f1 := HB3.out.1.box.frozen 1
                    refine hK.out _ _ trivial (fun hHeld => ?_)
                    clear hK K
                    try simp only [Act.put, List.setIfInBounds_toArray, List.set_cons_zero, List.set_cons_succ, List.getElem_toArray, List.getElem_cons_succ, List.getElem_cons_zero]
                    refine wpAnyH_take (i := 8) (v := ?_) rfl (by kernel_rfl) (by kernel_rfl) (by kernel_rfl) (fun _ _ _ h => h) (Or.inl ⟨by rfl, ?_⟩) trivial ?_
                    rotate_left 1
                    focus (intro w hSw; first | (go_simp; done) | (go_simp; with_reducible rfl))
                    try simp only [Act.put, List.setIfInBounds_toArray, List.set_cons_zero, List.set_cons_succ, List.getElem_toArray, List.getElem_cons_succ, List.getElem_cons_zero]
                    refine wpAnyH_ready (rs := [9]) (by kernel_rfl) (by simp) ?_
                    refine AllReadyH.cons rfl (fun K hK => ?_) AllReadyH.nil
                    rw [if_pos (by rfl)]
                    go_simp
                    have HB4 := Lib.hid (And.intro (JB.put HB3.out.1 1 (.slice By2 (padL (joinO (os.take i)).dt).length cy2)) (And.intro (HB3.out.2.1.far (p := ⟨r, 1, none⟩) (by have := HB3.out.2.2; show q ≠ r; omega) (.slice By2 (padL (joinO (os.take i)).dt).length cy2)) HB3.out.2.2))
                    clear b1 f1 HB3
                    refine hK.out _ _ trivial (fun hHeld => ?_)
                    clear hK K
                    try simp only [Act.put, List.setIfInBounds_toArray, List.set_cons_zero, List.set_cons_succ, List.getElem_toArray, List.getElem_cons_succ, List.getElem_cons_zero]
                    refine wpAnyH_done (by kernel_rfl) ?_ _
                    go_wp2_with fail
                    go_meet
                    case rel => exact ⟨_, _, by have h := HB4.out.1; simpa [JS] using h, HB4.out.2.1, HB4.out.2.2⟩
                · rw [if_pos (by rfl)]
                  go_simp
                  refine hK.out _ _ trivial (fun hHeld => ?_)
                  clear hK K
                  try simp only [Act.put, List.setIfInBounds_toArray, List.set_cons_zero, List.set_cons_succ, List.getElem_toArray, List.getElem_cons_succ, List.getElem_cons_zero]
                  refine wpAnyH_ready (rs := [1]) (by kernel_rfl) (by simp) ?_
                  refine AllReadyH.cons rfl (fun K hK => ?_) AllReadyH.nil
                  rw [if_pos (by rfl)]
                  go_simp
                  refine hK.out _ _ trivial (fun hHeld => ?_)
                  clear hK K
                  try simp only [Act.put, List.setIfInBounds_toArray, List.set_cons_zero, List.set_cons_succ, List.getElem_toArray, List.getElem_cons_succ, List.getElem_cons_zero]
                  refine wpAnyH_ready (rs := [2]) (by kernel_rfl) (by simp) ?_
                  refine AllReadyH.cons rfl (fun K hK => ?_) AllReadyH.nil
                  rw [if_pos (by rfl)]
                  go_simp
                  go_at_call 15
                  refine (padded_any z1 (joinO (os.take i)).tx (r + 1) W0 HB0.out.1.tx (by have := HSJ.out.1; omega) HB0.out.1.sz).mono ?_
                  rintro e W1 ⟨y1, rfl, ho1, hg1⟩
                  have HB1 : Hid (JB w W1 p r #[z1, z2, .slice Az NJ cz, z4] y1 z2 (.slice Az NJ cz) z4 ⟨padL (joinO (os.take i)).tx, (joinO (os.take i)).dt, (joinO (os.take i)).lb, (joinO (os.take i)).rl⟩ ∧ Blk W1 q 27 #[.slice A1 o.tx.length d1, .slice A2 o.dt.length d2, .slice A3 M3 d3, .slice A4 M4 d4] ∧ r < q) := ⟨JB.growT HB0.out.1 hg1 ho1, JB.otherT HB0.out.1 hg1 HB0.out.2.1, HB0.out.2.2⟩
                  clear ho1 hg1 b0 b1
                  have b1 : W1.cell? ⟨r, 1, none⟩ = some z2 := by rw [HB1.out.1.box.cell]; rfl
                  try go_simp
                  refine hK.out _ _ trivial (fun hHeld => ?_)
                  clear hK K
                  try simp only [Act.put, List.setIfInBounds_toArray, List.set_cons_zero, List.set_cons_succ, List.getElem_toArray, List.getElem_cons_succ, List.getElem_cons_zero]
                  refine wpAnyH_take (i := 6) (v := ?_) rfl (by kernel_rfl) (by kernel_rfl) (by kernel_rfl) (fun _ _ _ h => h) (Or.inl ⟨by rfl, ?_⟩) trivial ?_
                  rotate_left 1
                  focus (intro w hSw; first | (go_simp; done) | (go_simp; with_reducible rfl))
                  try simp only [Act.put, List.setIfInBounds_toArray, List.set_cons_zero, List.set_cons_succ, List.getElem_toArray, List.getElem_cons_succ, List.getElem_cons_zero]
                  refine wpAnyH_ready (rs := [5]) (by kernel_rfl) (by simp) ?_
                  refine AllReadyH.cons rfl (fun K hK => ?_) AllReadyH.nil
                  rw [if_pos (by rfl)]
                  go_simp
                  go_at_call 15
                  refine (padded_any z2 (joinO (os.take i)).dt (r + 1) W1 HB1.out.1.dt (by have := HSJ.out.2.1; omega) HB1.out.1.sz).mono ?_
                  rintro e W2 ⟨y2, rfl, ho2, hg2⟩
                  have HB2 : Hid (JB w W2 p r #[z1, z2, .slice Az NJ cz, z4] y1 y2 (.slice Az NJ cz) z4 ⟨padL (joinO (os.take i)).tx, padL (joinO (os.take i)).dt, (joinO (os.take i)).lb, (joinO (os.take i)).rl⟩ ∧ Blk W2 q 27 #[.slice A1 o.tx.length d1, .slice A2 o.dt.length d2, .slice A3 M3 d3, .slice A4 M4 d4] ∧ r < q) := ⟨JB.growD HB1.out.1 hg2 ho2, JB.otherD HB1.out.1 hg2 HB1.out.2.1, HB1.out.2.2⟩
                  clear ho2 hg2 b1 HB1 HB0
                  obtain ⟨By1, cy1, hy1, _, _⟩ := slice_form HB2.out.1.tx
                  obtain ⟨By2, cy2, hy2, _, _⟩ := slice_form HB2.out.1.dt
                  have b0 : W2.cell? ⟨r, 0, none⟩ = some z1 := by rw [HB2.out.1.box.cell]; rfl
                  have f0 := HB2.out.1.box.frozen 0
                  subst hy1
                  subst hy2
                  try go_simp
                  refine hK.out _ _ trivial (fun hHeld => ?_)
                  clear hK K
                  try simp only [Act.put, List.setIfInBounds_toArray, List.set_cons_zero, List.set_cons_succ, List.getElem_toArray, List.getElem_cons_succ, List.getElem_cons_zero]
                  refine wpAnyH_ready (rs := [7]) (by kernel_rfl) (by simp) ?_
                  refine AllReadyH.cons rfl (fun K hK => ?_) AllReadyH.nil
                  rw [if_pos (by rfl)]
                  go_simp
                  have HB3 := Lib.hid (And.intro (JB.put HB2.out.1 0 (.slice By1 (padL (joinO (os.take i)).tx).length cy1)) (And.intro (HB2.out.2.1.far (p := ⟨r, 0, none⟩) (by have := HB2.out.2.2; show q ≠ r; omega) (.slice By1 (padL (joinO (os.take i)).tx).length cy1)) HB2.out.2.2))
                  clear b0 f0 HB2
                  generalize W2.setCell ⟨r, 0, none⟩ (.slice By1 (padL (joinO (os.take i)).tx).length cy1) = W3 at HB3 ⊢
                  have b1 : W3.cell? ⟨r, 1, none⟩ = some z2 := by rw [HB3.out.1.box.cell]; rfl
                  have f1 := HB3.out.1.box.frozen 1
                  refine hK.out _ _ trivial (fun hHeld => ?_)
                  clear hK K
                  try simp only [Act.put, List.setIfInBounds_toArray, List.set_cons_zero, List.set_cons_succ, List.getElem_toArray, List.getElem_cons_succ, List.getElem_cons_zero]
                  refine wpAnyH_take (i := 8) (v := ?_) rfl (by kernel_rfl) (by kernel_rfl) (by kernel_rfl) (fun _ _ _ h => h) (Or.inl ⟨by rfl, ?_⟩) trivial ?_
                  rotate_left 1
                  focus (intro w hSw; first | (go_simp; done) | (go_simp; with_reducible rfl))
                  try simp only [Act.put, List.setIfInBounds_toArray, List.set_cons_zero, List.set_cons_succ, List.getElem_toArray, List.getElem_cons_succ, List.getElem_cons_zero]
                  refine wpAnyH_ready (rs := [9]) (by kernel_rfl) (by simp) ?_
                  refine AllReadyH.cons rfl (fun K hK => ?_) AllReadyH.nil
                  rw [if_pos (by rfl)]
                  go_simp
                  have HB4 := Lib.hid (And.intro (JB.put HB3.out.1 1 (.slice By2 (padL (joinO (os.take i)).dt).length cy2)) (And.intro (HB3.out.2.1.far (p := ⟨r, 1, none⟩) (by have := HB3.out.2.2; show q ≠ r; omega) (.slice By2 (padL (joinO (os.take i)).dt).length cy2)) HB3.out.2.2))
                  clear b1 f1 HB3
                  refine hK.out _ _ trivial (fun hHeld => ?_)
                  clear hK K
                  try simp only [Act.put, List.setIfInBounds_toArray, List.set_cons_zero, List.set_cons_succ, List.getElem_toArray, List.getElem_cons_succ, List.getElem_cons_zero]
                  refine wpAnyH_done (by kernel_rfl) ?_ _
                  go_wp2_with fail
                  go_meet
                  case rel => exact ⟨_, _, by have h := HB4.out.1; simpa [JS] using h, HB4.out.2.1, HB4.out.2.2⟩
              case rest => as_aux_lemma =>
                clear HS3
                obtain ⟨y1, y2, hjs, hqb, hrq⟩ := hcut.out
                obtain ⟨pt, hpt⟩ : ∃ pt, padL (joinO (os.take i)).tx = pt := ⟨_, rfl⟩
                obtain ⟨pd, hpd⟩ : ∃ pd, padL (joinO (os.take i)).dt = pd := ⟨_, rfl⟩
                rw [hpt, hpd] at hjs
                have HST5 : Hid (∃ z3', JS w wc p r y1 y2 z3' z4 ⟨pt, pd, (joinO (os.take i)).lb ++ (o.lb.take 0).map (shL pt.length pd.length), (joinO (os.take i)).rl⟩ ∧ Blk wc q 27 #[.slice A1 o.tx.length d1, .slice A2 o.dt.length d2, .slice A3 M3 d3, .slice A4 M4 d4] ∧ r < q) := ⟨_, by simpa using hjs, hqb, hrq⟩
                have HPT := Lib.hid (And.intro hpt hpd)
                have HQL := Lib.hid hqb
                clear hcut hjs hqb hrq hpt hpd
                go_wp2_with fail
                go_loopw [11] (fun av W => ∃ a : Nat, a ≤ M3 ∧ av = .int .i64 a ∧ Hid (∃ z3', JS w W p r y1 y2 z3' z4 ⟨pt, pd, (joinO (os.take i)).lb ++ (o.lb.take a).map (shL pt.length pd.length), (joinO (os.take i)).rl⟩ ∧ Blk W q 27 #[.slice A1 o.tx.length d1, .slice A2 o.dt.length d2, .slice A3 M3 d3, .slice A4 M4 d4] ∧ r < q)) (fun av _ => M3 - (intOf av).toNat)
                case atStart => exact ⟨0, Nat.zero_le _, rfl, HST5.out⟩
                case round =>
                  clear HST5
                  obtain ⟨a, ha, rfl, HL⟩ := hrel
                  obtain ⟨z3', hjs, hqb, hrq⟩ := HL.out
                  have HJ5 := Lib.hid hjs
                  have HQ5 := Lib.hid (And.intro hqb hrq)
                  have b2 : wr.cell? ⟨q, 2, none⟩ = some (.slice A3 M3 d3) := by rw [hqb.cell]; rfl
                  clear hjs hqb hrq
                  by_cases hlt4 : a < M3
                  · have hal : a < o.lb.length := by rw [HM3.out]; exact hlt4
                    obtain ⟨g6, off6, rfl, _, hc6⟩ := HOB.out.lb.at_ (by omega)
                    obtain ⟨x, hx⟩ : ∃ x, o.lb.getD a default = x := ⟨_, rfl⟩
                    have hcx := hc6 a hal
                    rw [hx] at hcx
                    have HX := Lib.hid hx
                    have hww : ∀ {a : Addr} {v : Value}, w.cell? a = some v → wr.cell? a = some v := fun h => (HJ5.out.rj.below.cell (by have := cell_lt h; rw [HP.out] at this; exact this)).trans h
                    obtain ⟨x0, x1, x2, x3⟩ := hcx
                    replace x0 := hww x0
                    replace x1 := hww x1
                    replace x2 := hww x2
                    replace x3 := hww x3
                    clear hww hc6 hx HL
                    have e8 : (a : Int) < (M3 : Int) := by omega
                    have e9 : (0 : Int) ≤ (a : Int) := by omega
                    have e10 : IntKind.i64.wrap ((a : Int) + 1) = ((a + 1 : Nat) : Int) := by rw [IntWalk.i64_in _ (by omega)]; omega
                    obtain ⟨nm, sec, at_, gl⟩ := x
                    dsimp only at x0 x1 x2 x3
                    go_upto_region 25 with fail
                    obtain ⟨s, hs⟩ : ∃ s, wr.heap.size = s := ⟨_, rfl⟩
                    rw [hs]
                    obtain ⟨w5, hw5⟩ : ∃ w5, wr.alloc (.cells #[.string nm, .int .i64 sec, .int .i64 at_, .bool gl] 45) = w5 := ⟨_, rfl⟩
                    rw [hw5]
                    have HS5 : Hid (JS w w5 p r y1 y2 z3' z4 ⟨pt, pd, (joinO (os.take i)).lb ++ (o.lb.take a).map (shL pt.length pd.length), (joinO (os.take i)).rl⟩ ∧ Blk w5 q 27 #[.slice A1 o.tx.length d1, .slice A2 o.dt.length d2, .slice (some ⟨g6, off6, none⟩) M3 d3, .slice A4 M4 d4] ∧ Blk w5 s 45 #[.string nm, .int .i64 sec, .int .i64 at_, .bool gl] ∧ r < q ∧ q < s) := by
                      have hb : Below wr.heap.size wr w5 := by rw [← hw5]; exact (Below.refl _ _).alloc (Nat.le_refl _) _
                      have hn := Blk.new wr 45 #[.string nm, .int .i64 sec, .int .i64 at_, .bool gl]
                      rw [hw5, hs] at hn
                      exact ⟨JB.bel HJ5.out hb, HQ5.out.1.below hb HQ5.out.1.lt, hn, HQ5.out.2, by have := HQ5.out.1.lt; omega⟩
                    have hn3 : z3'.ownBlock ≠ some s := fun e => by have := (own_some2 HJ5.out.lb e).2; omega
                    have hn4 : z4.ownBlock ≠ some s := fun e => by have := (own_some2 HJ5.out.rl e).2; omega
                    clear hs hw5 HJ5 HQ5 x0 x1 x2 x3 b2
                    have HXB : Hid (0 ≤ sec ∧ sec ≤ 1 ∧ 0 ≤ at_ ∧ at_ ≤ 1048576) := by
                      have h1 := HRO.out.1.lb (o.lb.getD a default) (by simp [List.getD, hal])
                      rw [HX.out] at h1
                      dsimp only at h1
                      have h2 := short_le HRO.out.2
                      have h3 : (o.sec sec).length ≤ 1048576 := by unfold Ob.sec; split <;> omega
                      exact ⟨h1.1, h1.2.1, h1.2.2.1, by omega⟩
                    obtain ⟨L, hL⟩ : ∃ L, (if sec = 0 then pt.length else pd.length) = L := ⟨_, rfl⟩
                    have HL := Lib.hid hL
                    have HLB : Hid (L ≤ 1099511628000) := by
                      show L ≤ 1099511628000
                      have h1 := HSJ.out.1
                      have h2 := HSJ.out.2.1
                      have h3 := padL_len (joinO (os.take i)).tx
                      have h4 := padL_len (joinO (os.take i)).dt
                      rw [HPT.out.1] at h3
                      rw [HPT.out.2] at h4
                      rw [← hL]
                      split <;> omega
                    obtain ⟨Bs, cs, hBs⟩ : ∃ Bs cs, (if sec = 0 then y1 else y2) = .slice Bs L cs := by
                      obtain ⟨E1, k1, g1, _, _⟩ := slice_form HS5.out.1.tx
                      obtain ⟨E2, k2, g2, _, _⟩ := slice_form HS5.out.1.dt
                      rw [← hL]
                      by_cases h : sec = 0
                      · exact ⟨E1, k1, by rw [if_pos h, if_pos h]; exact g1⟩
                      · exact ⟨E2, k2, by rw [if_neg h, if_neg h]; exact g2⟩
                    have HSEC : Hid (∀ W, Calls Tryd.prog 16 #[.agg #[y1, y2, z3', z4], .int .i64 sec] W fun e w' => e = .returned (.slice Bs L cs) ∧ Below W.heap.size W w') := fun W => by rw [← hBs]; exact section_any y1 y2 z3' z4 sec W
                    clear hBs hL
                    obtain ⟨na, hna⟩ : ∃ na : Int, at_ + (L : Int) = na := ⟨_, rfl⟩
                    have e11 : IntKind.i64.wrap (at_ + (L : Int)) = na := by
                      have h1 := HXB.out
                      have h2 := HLB.out
                      rw [IntWalk.i64_in _ (by omega)]; exact hna
                    have HNA := Lib.hid hna
                    clear hna
                    generalize decide ((a : Int) < (M3 : Int)) = bam
                    go_cut [] from 93 to 101 (fun W => Hid (JS w W p r y1 y2 z3' z4 ⟨pt, pd, (joinO (os.take i)).lb ++ (o.lb.take a).map (shL pt.length pd.length), (joinO (os.take i)).rl⟩ ∧ Blk W q 27 #[.slice A1 o.tx.length d1, .slice A2 o.dt.length d2, .slice (some ⟨g6, off6, none⟩) M3 d3, .slice A4 M4 d4] ∧ Blk W s 45 #[.string nm, .int .i64 sec, .int .i64 na, .bool gl] ∧ r < q ∧ q < s))
                    case first => as_aux_lemma =>
                      have HB5 : Hid (JS w w5.drew p r y1 y2 z3' z4 ⟨pt, pd, (joinO (os.take i)).lb ++ (o.lb.take a).map (shL pt.length pd.length), (joinO (os.take i)).rl⟩ ∧ Blk w5.drew q 27 #[.slice A1 o.tx.length d1, .slice A2 o.dt.length d2, .slice (some ⟨g6, off6, none⟩) M3 d3, .slice A4 M4 d4] ∧ Blk w5.drew s 45 #[.string nm, .int .i64 sec, .int .i64 at_, .bool gl] ∧ r < q ∧ q < s) := ⟨JB.bel HS5.out.1 (Below.refl _ _).drew, HS5.out.2.1, HS5.out.2.2.1, HS5.out.2.2.2⟩
                      clear HS5
                      refine wp_region_held_drew (S := (fun W => W.cell? ⟨r, 0, none⟩ = some y1 ∧ W.cell? ⟨r, 1, none⟩ = some y2 ∧ W.cell? ⟨r, 2, none⟩ = some z3' ∧ W.cell? ⟨r, 3, none⟩ = some z4 ∧ W.cell? ⟨s, 1, none⟩ = some (.int .i64 sec))) (by kernel_rfl) ?_ (fun hHeld => ?_)
                      · exact ⟨by rw [HB5.out.1.box.cell]; rfl, by rw [HB5.out.1.box.cell]; rfl, by rw [HB5.out.1.box.cell]; rfl, by rw [HB5.out.1.box.cell]; rfl, by rw [HB5.out.2.2.1.cell]; rfl⟩
                      generalize w5.drew = W5 at HB5 hHeld ⊢
                      refine wpAnyH_take (i := 0) (v := ?_) rfl (by kernel_rfl) (by kernel_rfl) (by kernel_rfl) (fun _ _ _ h => h) (Or.inl ⟨by rfl, ?_⟩) (by assumption) ?_
                      rotate_left 1
                      focus (intro w hSw; (try dsimp only at hSw); first | (go_simp; done) | (go_simp; with_reducible rfl))
                      try simp only [Act.put, List.setIfInBounds_toArray, List.set_cons_zero, List.set_cons_succ, List.getElem_toArray, List.getElem_cons_succ, List.getElem_cons_zero]
                      refine wpAnyH_take (i := 2) (v := ?_) rfl (by kernel_rfl) (by kernel_rfl) (by kernel_rfl) (fun _ _ _ h => h) (Or.inl ⟨by rfl, ?_⟩) (by assumption) ?_
                      rotate_left 1
                      focus (intro w hSw; (try dsimp only at hSw); first | (go_simp; done) | (go_simp; with_reducible rfl))
                      try simp only [Act.put, List.setIfInBounds_toArray, List.set_cons_zero, List.set_cons_succ, List.getElem_toArray, List.getElem_cons_succ, List.getElem_cons_zero]
                      refine wpAnyH_take (i := 3) (v := ?_) rfl (by kernel_rfl) (by kernel_rfl) (by kernel_rfl) (fun _ _ _ h => h) (Or.inl ⟨by rfl, ?_⟩) (by assumption) ?_
                      rotate_left 1
                      focus (intro w hSw; (try dsimp only at hSw); first | (go_simp; done) | (go_simp; with_reducible rfl))
                      try simp only [Act.put, List.setIfInBounds_toArray, List.set_cons_zero, List.set_cons_succ, List.getElem_toArray, List.getElem_cons_succ, List.getElem_cons_zero]
                      refine wpAnyH_take (i := 4) (v := ?_) rfl (by kernel_rfl) (by kernel_rfl) (by kernel_rfl) (fun _ _ _ h => h) (Or.inl ⟨by rfl, ?_⟩) (by assumption) ?_
                      rotate_left 1
                      focus (intro w hSw; (try dsimp only at hSw); first | (go_simp; done) | (go_simp; with_reducible rfl))
                      try simp only [Act.put, List.setIfInBounds_toArray, List.set_cons_zero, List.set_cons_succ, List.getElem_toArray, List.getElem_cons_succ, List.getElem_cons_zero]
                      refine wpAnyH_ready (rs := [1, 5]) (by kernel_rfl) (by simp) ?_
                      refine AllReadyH.cons rfl (fun K hK => ?_) (AllReadyH.cons rfl (fun K hK => ?_) AllReadyH.nil)
                      · have s2 : W5.cell? ⟨s, 2, none⟩ = some (.int .i64 at_) := by rw [HB5.out.2.2.1.cell]; rfl
                        rw [if_pos (by rfl)]
                        go_simp
                        clear s2
                        refine hK.out _ _ ⟨by rw [HB5.out.1.box.cell]; rfl, by rw [HB5.out.1.box.cell]; rfl, by rw [HB5.out.1.box.cell]; rfl, by rw [HB5.out.1.box.cell]; rfl, by rw [HB5.out.2.2.1.cell]; rfl⟩ (fun hHeld => ?_)
                        clear hK K
                        try simp only [Act.put, List.setIfInBounds_toArray, List.set_cons_zero, List.set_cons_succ, List.getElem_toArray, List.getElem_cons_succ, List.getElem_cons_zero]
                        refine wpAnyH_ready (rs := [5]) (by kernel_rfl) (by simp) ?_
                        refine AllReadyH.cons rfl (fun K hK => ?_) AllReadyH.nil
                        rw [if_pos (by rfl)]
                        go_simp
                        go_at_call 16
                        refine (HSEC.out _).mono ?_
                        rintro e W6 ⟨rfl, hb⟩
                        have HB6 : Hid (JS w W6 p r y1 y2 z3' z4 ⟨pt, pd, (joinO (os.take i)).lb ++ (o.lb.take a).map (shL pt.length pd.length), (joinO (os.take i)).rl⟩ ∧ Blk W6 q 27 #[.slice A1 o.tx.length d1, .slice A2 o.dt.length d2, .slice (some ⟨g6, off6, none⟩) M3 d3, .slice A4 M4 d4] ∧ Blk W6 s 45 #[.string nm, .int .i64 sec, .int .i64 at_, .bool gl] ∧ r < q ∧ q < s) := ⟨JB.bel HB5.out.1 hb, HB5.out.2.1.below hb HB5.out.2.1.lt, HB5.out.2.2.1.below hb HB5.out.2.2.1.lt, HB5.out.2.2.2⟩
                        clear hb
                        try go_simp
                        refine hK.out _ _ ⟨by rw [HB6.out.1.box.cell]; rfl, by rw [HB6.out.1.box.cell]; rfl, by rw [HB6.out.1.box.cell]; rfl, by rw [HB6.out.1.box.cell]; rfl, by rw [HB6.out.2.2.1.cell]; rfl⟩ (fun hHeld => ?_)
                        clear hK K
                        try simp only [Act.put, List.setIfInBounds_toArray, List.set_cons_zero, List.set_cons_succ, List.getElem_toArray, List.getElem_cons_succ, List.getElem_cons_zero]
                        refine wpAnyH_take (i := 6) (v := ?_) rfl (by kernel_rfl) (by kernel_rfl) (by kernel_rfl) (fun _ _ _ h => h) (Or.inl ⟨by rfl, ?_⟩) (by assumption) ?_
                        rotate_left 1
                        focus (intro w hSw; (try dsimp only at hSw); first | (go_simp; done) | (go_simp; with_reducible rfl))
                        try simp only [Act.put, List.setIfInBounds_toArray, List.set_cons_zero, List.set_cons_succ, List.getElem_toArray, List.getElem_cons_succ, List.getElem_cons_zero]
                        refine wpAnyH_take (i := 7) (v := ?_) rfl (by kernel_rfl) (by kernel_rfl) (by kernel_rfl) (fun _ _ _ h => h) (Or.inl ⟨by rfl, ?_⟩) (by assumption) ?_
                        rotate_left 1
                        focus (intro w hSw; (try dsimp only at hSw); first | (go_simp; done) | (go_simp; with_reducible rfl))
                        try simp only [Act.put, List.setIfInBounds_toArray, List.set_cons_zero, List.set_cons_succ, List.getElem_toArray, List.getElem_cons_succ, List.getElem_cons_zero]
                        refine wpAnyH_take (i := 8) (v := ?_) rfl (by kernel_rfl) (by kernel_rfl) (by kernel_rfl) (fun _ _ _ h => h) (Or.inl ⟨by rfl, ?_⟩) (by assumption) ?_
                        rotate_left 1
                        focus (intro w hSw; (try dsimp only at hSw); first | (go_simp; done) | (go_simp; with_reducible rfl))
                        try simp only [Act.put, List.setIfInBounds_toArray, List.set_cons_zero, List.set_cons_succ, List.getElem_toArray, List.getElem_cons_succ, List.getElem_cons_zero]
                        refine wpAnyH_ready (rs := [9]) (by kernel_rfl) (by simp) ?_
                        refine AllReadyH.cons rfl (fun K hK => ?_) AllReadyH.nil
                        rw [if_pos (by rfl)]
                        have s2 : W6.cell? ⟨s, 2, none⟩ = some (.int .i64 at_) := by rw [HB6.out.2.2.1.cell]; rfl
                        have f2 := HB6.out.2.2.1.frozen 2
                        go_simp
                        have HB7 : Hid (JS w (W6.setCell ⟨s, 2, none⟩ (.int .i64 na)) p r y1 y2 z3' z4 ⟨pt, pd, (joinO (os.take i)).lb ++ (o.lb.take a).map (shL pt.length pd.length), (joinO (os.take i)).rl⟩ ∧ Blk (W6.setCell ⟨s, 2, none⟩ (.int .i64 na)) q 27 #[.slice A1 o.tx.length d1, .slice A2 o.dt.length d2, .slice (some ⟨g6, off6, none⟩) M3 d3, .slice A4 M4 d4] ∧ Blk (W6.setCell ⟨s, 2, none⟩ (.int .i64 na)) s 45 #[.string nm, .int .i64 sec, .int .i64 na, .bool gl] ∧ r < q ∧ q < s) := by
                          refine ⟨JB.far HB6.out.1 HB6.out.2.2.1 HB6.out.2.2.2 _ _, HB6.out.2.1.far (p := ⟨s, 2, none⟩) (by have := HB6.out.2.2.2; show q ≠ s; omega) _, ?_, HB6.out.2.2.2⟩
                          have := HB6.out.2.2.1.set_ 2 (.int .i64 na)
                          simpa using this
                        clear s2 f2 HB6
                        refine hK.out _ _ ⟨by rw [HB7.out.1.box.cell]; rfl, by rw [HB7.out.1.box.cell]; rfl, by rw [HB7.out.1.box.cell]; rfl, by rw [HB7.out.1.box.cell]; rfl, by rw [HB7.out.2.2.1.cell]; rfl⟩ (fun hHeld => ?_)
                        clear hK K
                        try simp only [Act.put, List.setIfInBounds_toArray, List.set_cons_zero, List.set_cons_succ, List.getElem_toArray, List.getElem_cons_succ, List.getElem_cons_zero]
                        refine wpAnyH_done (by kernel_rfl) ?_ _
                        go_wp2_with fail
                        go_meet
                        case rel => exact HB7.out
                      · rw [if_pos (by rfl)]
                        go_simp
                        go_at_call 16
                        refine (HSEC.out _).mono ?_
                        rintro e W6 ⟨rfl, hb⟩
                        have HB6 : Hid (JS w W6 p r y1 y2 z3' z4 ⟨pt, pd, (joinO (os.take i)).lb ++ (o.lb.take a).map (shL pt.length pd.length), (joinO (os.take i)).rl⟩ ∧ Blk W6 q 27 #[.slice A1 o.tx.length d1, .slice A2 o.dt.length d2, .slice (some ⟨g6, off6, none⟩) M3 d3, .slice A4 M4 d4] ∧ Blk W6 s 45 #[.string nm, .int .i64 sec, .int .i64 at_, .bool gl] ∧ r < q ∧ q < s) := ⟨JB.bel HB5.out.1 hb, HB5.out.2.1.below hb HB5.out.2.1.lt, HB5.out.2.2.1.below hb HB5.out.2.2.1.lt, HB5.out.2.2.2⟩
                        clear hb
                        try go_simp
                        refine hK.out _ _ ⟨by rw [HB6.out.1.box.cell]; rfl, by rw [HB6.out.1.box.cell]; rfl, by rw [HB6.out.1.box.cell]; rfl, by rw [HB6.out.1.box.cell]; rfl, by rw [HB6.out.2.2.1.cell]; rfl⟩ (fun hHeld => ?_)
                        clear hK K
                        try simp only [Act.put, List.setIfInBounds_toArray, List.set_cons_zero, List.set_cons_succ, List.getElem_toArray, List.getElem_cons_succ, List.getElem_cons_zero]
                        refine wpAnyH_take (i := 6) (v := ?_) rfl (by kernel_rfl) (by kernel_rfl) (by kernel_rfl) (fun _ _ _ h => h) (Or.inl ⟨by rfl, ?_⟩) (by assumption) ?_
                        rotate_left 1
                        focus (intro w hSw; (try dsimp only at hSw); first | (go_simp; done) | (go_simp; with_reducible rfl))
                        try simp only [Act.put, List.setIfInBounds_toArray, List.set_cons_zero, List.set_cons_succ, List.getElem_toArray, List.getElem_cons_succ, List.getElem_cons_zero]
                        refine wpAnyH_ready (rs := [1]) (by kernel_rfl) (by simp) ?_
                        refine AllReadyH.cons rfl (fun K hK => ?_) AllReadyH.nil
                        have s2 : W6.cell? ⟨s, 2, none⟩ = some (.int .i64 at_) := by rw [HB6.out.2.2.1.cell]; rfl
                        rw [if_pos (by rfl)]
                        go_simp
                        clear s2
                        refine hK.out _ _ ⟨by rw [HB6.out.1.box.cell]; rfl, by rw [HB6.out.1.box.cell]; rfl, by rw [HB6.out.1.box.cell]; rfl, by rw [HB6.out.1.box.cell]; rfl, by rw [HB6.out.2.2.1.cell]; rfl⟩ (fun hHeld => ?_)
                        clear hK K
                        try simp only [Act.put, List.setIfInBounds_toArray, List.set_cons_zero, List.set_cons_succ, List.getElem_toArray, List.getElem_cons_succ, List.getElem_cons_zero]
                        refine wpAnyH_take (i := 7) (v := ?_) rfl (by kernel_rfl) (by kernel_rfl) (by kernel_rfl) (fun _ _ _ h => h) (Or.inl ⟨by rfl, ?_⟩) (by assumption) ?_
                        rotate_left 1
                        focus (intro w hSw; (try dsimp only at hSw); first | (go_simp; done) | (go_simp; with_reducible rfl))
                        try simp only [Act.put, List.setIfInBounds_toArray, List.set_cons_zero, List.set_cons_succ, List.getElem_toArray, List.getElem_cons_succ, List.getElem_cons_zero]
                        refine wpAnyH_take (i := 8) (v := ?_) rfl (by kernel_rfl) (by kernel_rfl) (by kernel_rfl) (fun _ _ _ h => h) (Or.inl ⟨by rfl, ?_⟩) (by assumption) ?_
                        rotate_left 1
                        focus (intro w hSw; (try dsimp only at hSw); first | (go_simp; done) | (go_simp; with_reducible rfl))
                        try simp only [Act.put, List.setIfInBounds_toArray, List.set_cons_zero, List.set_cons_succ, List.getElem_toArray, List.getElem_cons_succ, List.getElem_cons_zero]
                        refine wpAnyH_ready (rs := [9]) (by kernel_rfl) (by simp) ?_
                        refine AllReadyH.cons rfl (fun K hK => ?_) AllReadyH.nil
                        rw [if_pos (by rfl)]
                        have s2 : W6.cell? ⟨s, 2, none⟩ = some (.int .i64 at_) := by rw [HB6.out.2.2.1.cell]; rfl
                        have f2 := HB6.out.2.2.1.frozen 2
                        go_simp
                        have HB7 : Hid (JS w (W6.setCell ⟨s, 2, none⟩ (.int .i64 na)) p r y1 y2 z3' z4 ⟨pt, pd, (joinO (os.take i)).lb ++ (o.lb.take a).map (shL pt.length pd.length), (joinO (os.take i)).rl⟩ ∧ Blk (W6.setCell ⟨s, 2, none⟩ (.int .i64 na)) q 27 #[.slice A1 o.tx.length d1, .slice A2 o.dt.length d2, .slice (some ⟨g6, off6, none⟩) M3 d3, .slice A4 M4 d4] ∧ Blk (W6.setCell ⟨s, 2, none⟩ (.int .i64 na)) s 45 #[.string nm, .int .i64 sec, .int .i64 na, .bool gl] ∧ r < q ∧ q < s) := by
                          refine ⟨JB.far HB6.out.1 HB6.out.2.2.1 HB6.out.2.2.2 _ _, HB6.out.2.1.far (p := ⟨s, 2, none⟩) (by have := HB6.out.2.2.2; show q ≠ s; omega) _, ?_, HB6.out.2.2.2⟩
                          have := HB6.out.2.2.1.set_ 2 (.int .i64 na)
                          simpa using this
                        clear s2 f2 HB6
                        refine hK.out _ _ ⟨by rw [HB7.out.1.box.cell]; rfl, by rw [HB7.out.1.box.cell]; rfl, by rw [HB7.out.1.box.cell]; rfl, by rw [HB7.out.1.box.cell]; rfl, by rw [HB7.out.2.2.1.cell]; rfl⟩ (fun hHeld => ?_)
                        clear hK K
                        try simp only [Act.put, List.setIfInBounds_toArray, List.set_cons_zero, List.set_cons_succ, List.getElem_toArray, List.getElem_cons_succ, List.getElem_cons_zero]
                        refine wpAnyH_done (by kernel_rfl) ?_ _
                        go_wp2_with fail
                        go_meet
                        case rel => exact HB7.out
                    case rest => as_aux_lemma =>

                      have HC := hcut
                      obtain ⟨v', w', r1, r2, r3, r4⟩ := OwnL.snoc HC.out.1.lb ⟨nm, sec, na, gl⟩ (by
                        have h1 := HSJ.out.2.2.1
                        have h2 := HM3.out
                        rw [List.length_append, List.length_map, List.length_take]
                        have h3 := short_le HRO.out.2
                        omega) HC.out.1.sz
                      have HE : Hid ((joinO (os.take i)).lb ++ (o.lb.take a).map (shL pt.length pd.length) ++ [(⟨nm, sec, na, gl⟩ : Lbl)] = (joinO (os.take i)).lb ++ (o.lb.take (a + 1)).map (shL pt.length pd.length)) := by
                        show _ = _
                        have e : o.lb[a] = ⟨nm, sec, at_, gl⟩ := by rw [← HX.out]; simp [List.getD, hal]
                        rw [List.take_succ_eq_append_getElem hal, List.map_append, e, List.append_assoc]
                        congr 2
                        show _ = [shL pt.length pd.length ⟨nm, sec, at_, gl⟩]
                        unfold shL
                        have h1 := HNA.out
                        have h2 := HL.out
                        rw [← h1, ← h2]
                        dsimp only
                        congr 2
                        split <;> rfl
                      obtain ⟨Bv, cv, hv, _, _⟩ := slice_form r2
                      obtain ⟨NL, hNL⟩ : ∃ NL, ((joinO (os.take i)).lb ++ (o.lb.take a).map (shL pt.length pd.length) ++ [(⟨nm, sec, na, gl⟩ : Lbl)]).length = NL := ⟨_, rfl⟩
                      rw [hNL] at hv
                      have HG : Hid (JB w w' p r #[y1, y2, z3', z4] y1 y2 v' z4 ⟨pt, pd, (joinO (os.take i)).lb ++ (o.lb.take (a + 1)).map (shL pt.length pd.length), (joinO (os.take i)).rl⟩ ∧ Blk w' q 27 #[.slice A1 o.tx.length d1, .slice A2 o.dt.length d2, .slice (some ⟨g6, off6, none⟩) M3 d3, .slice A4 M4 d4] ∧ r < q) := by
                        have hb : Below wc.heap.size wc (wc.alloc (.cells #[.string nm, .int .i64 sec, .int .i64 na, .bool gl] 45)) := (Below.refl _ _).alloc (Nat.le_refl _) _
                        have hJ := JB.bel HC.out.1 hb
                        rw [HE.out] at r2
                        refine ⟨JB.growL hJ r3 r2, ?_, HC.out.2.2.2.1⟩
                        exact (HC.out.2.1.alloc _).grown r3 (fun e => by
                          obtain ⟨c, b⟩ := owns_kind hJ.lb e.symm
                          exact absurd (b.kind (HC.out.2.1.alloc (.cells #[.string nm, .int .i64 sec, .int .i64 na, .bool gl] 45))) (by decide))
                      have HR := Lib.hid r1
                      have b2 : wc.cell? ⟨r, 2, none⟩ = some z3' := by rw [HC.out.1.box.cell]; rfl
                      have s0 : wc.cell? ⟨s, 0, none⟩ = some (.string nm) := by rw [HC.out.2.2.1.cell]; rfl
                      have s1 : wc.cell? ⟨s, 1, none⟩ = some (.int .i64 sec) := by rw [HC.out.2.2.1.cell]; rfl
                      have s2 : wc.cell? ⟨s, 2, none⟩ = some (.int .i64 na) := by rw [HC.out.2.2.1.cell]; rfl
                      have s3 : wc.cell? ⟨s, 3, none⟩ = some (.bool gl) := by rw [HC.out.2.2.1.cell]; rfl
                      have b3 : w'.cell? ⟨r, 2, none⟩ = some z3' := by rw [HG.out.1.box.cell]; rfl
                      have f3 := HG.out.1.box.frozen 2
                      have HN6 := Lib.hid (And.intro (JB.put HG.out.1 2 v') (And.intro (HG.out.2.1.far (p := ⟨r, 2, none⟩) (by have := HG.out.2.2; show q ≠ r; omega) v') HG.out.2.2))
                      clear r1 r2 r3 r4 HG hcut HC HE
                      clear hNL
                      subst hv
                      go_wp2_with (at_builtin; refine wpList_append_eq rfl (.tmp 103) (.tmp 105) 24 rfl rfl rfl HR.out ?_)
                      go_roundw
                      case rel => exact ⟨a + 1, by omega, by go_num, _, by have h := HN6.out.1; simpa [JS] using h, HN6.out.2.1, HN6.out.2.2⟩
                      case measure => simp [intOf]; omega
                  · have HLR : Hid (∃ z4', JS w wr p r y1 y2 z3' z4' ⟨pt, pd, (joinO (os.take i)).lb ++ o.lb.map (shL pt.length pd.length), (joinO (os.take i)).rl ++ (o.rl.take 0).map (shR pt.length pd.length)⟩ ∧ Blk wr q 27 #[.slice A1 o.tx.length d1, .slice A2 o.dt.length d2, .slice A3 M3 d3, .slice A4 M4 d4] ∧ r < q) := by
                      have h := HJ5.out
                      rw [List.take_of_length_le (l := o.lb) (by rw [HM3.out]; omega)] at h
                      exact ⟨z4, by simpa using h, HQ5.out⟩
                    obtain ⟨LL, hLL⟩ : ∃ LL, (joinO (os.take i)).lb ++ o.lb.map (shL pt.length pd.length) = LL := ⟨_, rfl⟩
                    rw [hLL] at HLR
                    have HLL := Lib.hid hLL
                    clear HJ5 HQ5 HL ha hLL
                    go_upto_region 28 with fail
                    clear b2 hlt4
                    rename_i a5 Q5 K5
                    go_loopw [13] (fun av W => ∃ c : Nat, c ≤ M4 ∧ av = .int .i64 c ∧ Hid (∃ z4', JS w W p r y1 y2 z3' z4' ⟨pt, pd, LL, (joinO (os.take i)).rl ++ (o.rl.take c).map (shR pt.length pd.length)⟩ ∧ Blk W q 27 #[.slice A1 o.tx.length d1, .slice A2 o.dt.length d2, .slice A3 M3 d3, .slice A4 M4 d4] ∧ r < q)) (fun av _ => M4 - (intOf av).toNat)
                    case atStart => exact ⟨0, Nat.zero_le _, rfl, HLR.out⟩
                    case round =>
                      clear HLR
                      obtain ⟨c, hcm, rfl, HL⟩ := hrel
                      obtain ⟨z4', hjs, hqb, hrq⟩ := HL.out
                      have HJ5 := Lib.hid hjs
                      have HQ5 := Lib.hid (And.intro hqb hrq)
                      have b3 : wr.cell? ⟨q, 3, none⟩ = some (.slice A4 M4 d4) := by rw [hqb.cell]; rfl
                      clear hjs hqb hrq
                      by_cases hlt5 : c < M4
                      · have hcl : c < o.rl.length := by rw [HM4.out]; exact hlt5
                        obtain ⟨g7, off7, rfl, _, hc6⟩ := HOB.out.rl.at_ (by omega)
                        obtain ⟨x, hx⟩ : ∃ x, o.rl.getD c default = x := ⟨_, rfl⟩
                        have hcx := hc6 c hcl
                        rw [hx] at hcx
                        have HX := Lib.hid hx
                        have hww : ∀ {a : Addr} {v : Value}, w.cell? a = some v → wr.cell? a = some v := fun h => (HJ5.out.rj.below.cell (by have := cell_lt h; rw [HP.out] at this; exact this)).trans h
                        obtain ⟨x0, x1, x2, x3, x4⟩ := hcx
                        replace x0 := hww x0
                        replace x1 := hww x1
                        replace x2 := hww x2
                        replace x3 := hww x3
                        replace x4 := hww x4
                        clear hww hc6 hx HL
                        have e8 : (c : Int) < (M4 : Int) := by omega
                        have e9 : (0 : Int) ≤ (c : Int) := by omega
                        have e10 : IntKind.i64.wrap ((c : Int) + 1) = ((c + 1 : Nat) : Int) := by rw [IntWalk.i64_in _ (by omega)]; omega
                        obtain ⟨sec, at_, kd, add, nm⟩ := x
                        dsimp only at x0 x1 x2 x3 x4
                        go_upto_region 31 with fail
                        obtain ⟨s, hs⟩ : ∃ s, wr.heap.size = s := ⟨_, rfl⟩
                        rw [hs]
                        obtain ⟨w5, hw5⟩ : ∃ w5, wr.alloc (.cells #[.int .i64 sec, .int .i64 at_, .int .i64 kd, .int .i64 add, .string nm] 48) = w5 := ⟨_, rfl⟩
                        rw [hw5]
                        have HS5 : Hid (JS w w5 p r y1 y2 z3' z4' ⟨pt, pd, LL, (joinO (os.take i)).rl ++ (o.rl.take c).map (shR pt.length pd.length)⟩ ∧ Blk w5 q 27 #[.slice A1 o.tx.length d1, .slice A2 o.dt.length d2, .slice A3 M3 d3, .slice (some ⟨g7, off7, none⟩) M4 d4] ∧ Blk w5 s 48 #[.int .i64 sec, .int .i64 at_, .int .i64 kd, .int .i64 add, .string nm] ∧ r < q ∧ q < s) := by
                          have hb : Below wr.heap.size wr w5 := by rw [← hw5]; exact (Below.refl _ _).alloc (Nat.le_refl _) _
                          have hn := Blk.new wr 48 #[.int .i64 sec, .int .i64 at_, .int .i64 kd, .int .i64 add, .string nm]
                          rw [hw5, hs] at hn
                          exact ⟨JB.bel HJ5.out hb, HQ5.out.1.below hb HQ5.out.1.lt, hn, HQ5.out.2, by have := HQ5.out.1.lt; omega⟩
                        have hn3 : z3'.ownBlock ≠ some s := fun e => by have := (own_some2 HJ5.out.lb e).2; omega
                        have hn4 : z4'.ownBlock ≠ some s := fun e => by have := (own_some2 HJ5.out.rl e).2; omega
                        clear hs hw5 HJ5 HQ5 x0 x1 x2 x3 x4 b3
                        have HXB : Hid (0 ≤ sec ∧ sec ≤ 1 ∧ 0 ≤ at_ ∧ at_ ≤ 1048576) := by
                          have h1 := HRO.out.1.rl (o.rl.getD c default) (by simp [List.getD, hcl])
                          rw [HX.out] at h1
                          dsimp only at h1
                          have h2 := short_le HRO.out.2
                          have h3 : (o.sec sec).length ≤ 1048576 := by unfold Ob.sec; split <;> omega
                          exact ⟨h1.1, h1.2.1, h1.2.2.1, by omega⟩
                        obtain ⟨L, hL⟩ : ∃ L, (if sec = 0 then pt.length else pd.length) = L := ⟨_, rfl⟩
                        have HLN := Lib.hid hL
                        have HLB : Hid (L ≤ 1099511628000) := by
                          show L ≤ 1099511628000
                          have h1 := HSJ.out.1
                          have h2 := HSJ.out.2.1
                          have h3 := padL_len (joinO (os.take i)).tx
                          have h4 := padL_len (joinO (os.take i)).dt
                          rw [HPT.out.1] at h3
                          rw [HPT.out.2] at h4
                          rw [← hL]
                          split <;> omega
                        obtain ⟨Bs, cs, hBs⟩ : ∃ Bs cs, (if sec = 0 then y1 else y2) = .slice Bs L cs := by
                          obtain ⟨E1, k1, g1, _, _⟩ := slice_form HS5.out.1.tx
                          obtain ⟨E2, k2, g2, _, _⟩ := slice_form HS5.out.1.dt
                          rw [← hL]
                          by_cases h : sec = 0
                          · exact ⟨E1, k1, by rw [if_pos h, if_pos h]; exact g1⟩
                          · exact ⟨E2, k2, by rw [if_neg h, if_neg h]; exact g2⟩
                        have HSEC : Hid (∀ W, Calls Tryd.prog 16 #[.agg #[y1, y2, z3', z4'], .int .i64 sec] W fun e w' => e = .returned (.slice Bs L cs) ∧ Below W.heap.size W w') := fun W => by rw [← hBs]; exact section_any y1 y2 z3' z4' sec W
                        clear hBs hL
                        obtain ⟨na, hna⟩ : ∃ na : Int, at_ + (L : Int) = na := ⟨_, rfl⟩
                        have e11 : IntKind.i64.wrap (at_ + (L : Int)) = na := by
                          have h1 := HXB.out
                          have h2 := HLB.out
                          rw [IntWalk.i64_in _ (by omega)]; exact hna
                        have HNA := Lib.hid hna
                        clear hna
                        generalize decide ((c : Int) < (M4 : Int)) = bam
                        go_cut [] from 120 to 128 (fun W => Hid (JS w W p r y1 y2 z3' z4' ⟨pt, pd, LL, (joinO (os.take i)).rl ++ (o.rl.take c).map (shR pt.length pd.length)⟩ ∧ Blk W q 27 #[.slice A1 o.tx.length d1, .slice A2 o.dt.length d2, .slice A3 M3 d3, .slice (some ⟨g7, off7, none⟩) M4 d4] ∧ Blk W s 48 #[.int .i64 sec, .int .i64 na, .int .i64 kd, .int .i64 add, .string nm] ∧ r < q ∧ q < s))
                        case first => as_aux_lemma =>
                          have HB5 : Hid (JS w w5.drew p r y1 y2 z3' z4' ⟨pt, pd, LL, (joinO (os.take i)).rl ++ (o.rl.take c).map (shR pt.length pd.length)⟩ ∧ Blk w5.drew q 27 #[.slice A1 o.tx.length d1, .slice A2 o.dt.length d2, .slice A3 M3 d3, .slice (some ⟨g7, off7, none⟩) M4 d4] ∧ Blk w5.drew s 48 #[.int .i64 sec, .int .i64 at_, .int .i64 kd, .int .i64 add, .string nm] ∧ r < q ∧ q < s) := ⟨JB.bel HS5.out.1 (Below.refl _ _).drew, HS5.out.2.1, HS5.out.2.2.1, HS5.out.2.2.2⟩
                          clear HS5
                          refine wp_region_held_drew (S := (fun W => W.cell? ⟨r, 0, none⟩ = some y1 ∧ W.cell? ⟨r, 1, none⟩ = some y2 ∧ W.cell? ⟨r, 2, none⟩ = some z3' ∧ W.cell? ⟨r, 3, none⟩ = some z4' ∧ W.cell? ⟨s, 0, none⟩ = some (.int .i64 sec))) (by kernel_rfl) ?_ (fun hHeld => ?_)
                          · exact ⟨by rw [HB5.out.1.box.cell]; rfl, by rw [HB5.out.1.box.cell]; rfl, by rw [HB5.out.1.box.cell]; rfl, by rw [HB5.out.1.box.cell]; rfl, by rw [HB5.out.2.2.1.cell]; rfl⟩
                          generalize w5.drew = W5 at HB5 hHeld ⊢
                          refine wpAnyH_take (i := 0) (v := ?_) rfl (by kernel_rfl) (by kernel_rfl) (by kernel_rfl) (fun _ _ _ h => h) (Or.inl ⟨by rfl, ?_⟩) (by assumption) ?_
                          rotate_left 1
                          focus (intro w hSw; (try dsimp only at hSw); first | (go_simp; done) | (go_simp; with_reducible rfl))
                          try simp only [Act.put, List.setIfInBounds_toArray, List.set_cons_zero, List.set_cons_succ, List.getElem_toArray, List.getElem_cons_succ, List.getElem_cons_zero]
                          refine wpAnyH_take (i := 2) (v := ?_) rfl (by kernel_rfl) (by kernel_rfl) (by kernel_rfl) (fun _ _ _ h => h) (Or.inl ⟨by rfl, ?_⟩) (by assumption) ?_
                          rotate_left 1
                          focus (intro w hSw; (try dsimp only at hSw); first | (go_simp; done) | (go_simp; with_reducible rfl))
                          try simp only [Act.put, List.setIfInBounds_toArray, List.set_cons_zero, List.set_cons_succ, List.getElem_toArray, List.getElem_cons_succ, List.getElem_cons_zero]
                          refine wpAnyH_take (i := 3) (v := ?_) rfl (by kernel_rfl) (by kernel_rfl) (by kernel_rfl) (fun _ _ _ h => h) (Or.inl ⟨by rfl, ?_⟩) (by assumption) ?_
                          rotate_left 1
                          focus (intro w hSw; (try dsimp only at hSw); first | (go_simp; done) | (go_simp; with_reducible rfl))
                          try simp only [Act.put, List.setIfInBounds_toArray, List.set_cons_zero, List.set_cons_succ, List.getElem_toArray, List.getElem_cons_succ, List.getElem_cons_zero]
                          refine wpAnyH_take (i := 4) (v := ?_) rfl (by kernel_rfl) (by kernel_rfl) (by kernel_rfl) (fun _ _ _ h => h) (Or.inl ⟨by rfl, ?_⟩) (by assumption) ?_
                          rotate_left 1
                          focus (intro w hSw; (try dsimp only at hSw); first | (go_simp; done) | (go_simp; with_reducible rfl))
                          try simp only [Act.put, List.setIfInBounds_toArray, List.set_cons_zero, List.set_cons_succ, List.getElem_toArray, List.getElem_cons_succ, List.getElem_cons_zero]
                          refine wpAnyH_ready (rs := [1, 5]) (by kernel_rfl) (by simp) ?_
                          refine AllReadyH.cons rfl (fun K hK => ?_) (AllReadyH.cons rfl (fun K hK => ?_) AllReadyH.nil)
                          · have s2 : W5.cell? ⟨s, 1, none⟩ = some (.int .i64 at_) := by rw [HB5.out.2.2.1.cell]; rfl
                            rw [if_pos (by rfl)]
                            go_simp
                            clear s2
                            refine hK.out _ _ ⟨by rw [HB5.out.1.box.cell]; rfl, by rw [HB5.out.1.box.cell]; rfl, by rw [HB5.out.1.box.cell]; rfl, by rw [HB5.out.1.box.cell]; rfl, by rw [HB5.out.2.2.1.cell]; rfl⟩ (fun hHeld => ?_)
                            clear hK K
                            try simp only [Act.put, List.setIfInBounds_toArray, List.set_cons_zero, List.set_cons_succ, List.getElem_toArray, List.getElem_cons_succ, List.getElem_cons_zero]
                            refine wpAnyH_ready (rs := [5]) (by kernel_rfl) (by simp) ?_
                            refine AllReadyH.cons rfl (fun K hK => ?_) AllReadyH.nil
                            rw [if_pos (by rfl)]
                            go_simp
                            go_at_call 16
                            refine (HSEC.out _).mono ?_
                            rintro e W6 ⟨rfl, hb⟩
                            have HB6 : Hid (JS w W6 p r y1 y2 z3' z4' ⟨pt, pd, LL, (joinO (os.take i)).rl ++ (o.rl.take c).map (shR pt.length pd.length)⟩ ∧ Blk W6 q 27 #[.slice A1 o.tx.length d1, .slice A2 o.dt.length d2, .slice A3 M3 d3, .slice (some ⟨g7, off7, none⟩) M4 d4] ∧ Blk W6 s 48 #[.int .i64 sec, .int .i64 at_, .int .i64 kd, .int .i64 add, .string nm] ∧ r < q ∧ q < s) := ⟨JB.bel HB5.out.1 hb, HB5.out.2.1.below hb HB5.out.2.1.lt, HB5.out.2.2.1.below hb HB5.out.2.2.1.lt, HB5.out.2.2.2⟩
                            clear hb
                            try go_simp
                            refine hK.out _ _ ⟨by rw [HB6.out.1.box.cell]; rfl, by rw [HB6.out.1.box.cell]; rfl, by rw [HB6.out.1.box.cell]; rfl, by rw [HB6.out.1.box.cell]; rfl, by rw [HB6.out.2.2.1.cell]; rfl⟩ (fun hHeld => ?_)
                            clear hK K
                            try simp only [Act.put, List.setIfInBounds_toArray, List.set_cons_zero, List.set_cons_succ, List.getElem_toArray, List.getElem_cons_succ, List.getElem_cons_zero]
                            refine wpAnyH_take (i := 6) (v := ?_) rfl (by kernel_rfl) (by kernel_rfl) (by kernel_rfl) (fun _ _ _ h => h) (Or.inl ⟨by rfl, ?_⟩) (by assumption) ?_
                            rotate_left 1
                            focus (intro w hSw; (try dsimp only at hSw); first | (go_simp; done) | (go_simp; with_reducible rfl))
                            try simp only [Act.put, List.setIfInBounds_toArray, List.set_cons_zero, List.set_cons_succ, List.getElem_toArray, List.getElem_cons_succ, List.getElem_cons_zero]
                            refine wpAnyH_take (i := 7) (v := ?_) rfl (by kernel_rfl) (by kernel_rfl) (by kernel_rfl) (fun _ _ _ h => h) (Or.inl ⟨by rfl, ?_⟩) (by assumption) ?_
                            rotate_left 1
                            focus (intro w hSw; (try dsimp only at hSw); first | (go_simp; done) | (go_simp; with_reducible rfl))
                            try simp only [Act.put, List.setIfInBounds_toArray, List.set_cons_zero, List.set_cons_succ, List.getElem_toArray, List.getElem_cons_succ, List.getElem_cons_zero]
                            refine wpAnyH_take (i := 8) (v := ?_) rfl (by kernel_rfl) (by kernel_rfl) (by kernel_rfl) (fun _ _ _ h => h) (Or.inl ⟨by rfl, ?_⟩) (by assumption) ?_
                            rotate_left 1
                            focus (intro w hSw; (try dsimp only at hSw); first | (go_simp; done) | (go_simp; with_reducible rfl))
                            try simp only [Act.put, List.setIfInBounds_toArray, List.set_cons_zero, List.set_cons_succ, List.getElem_toArray, List.getElem_cons_succ, List.getElem_cons_zero]
                            refine wpAnyH_ready (rs := [9]) (by kernel_rfl) (by simp) ?_
                            refine AllReadyH.cons rfl (fun K hK => ?_) AllReadyH.nil
                            rw [if_pos (by rfl)]
                            have s2 : W6.cell? ⟨s, 1, none⟩ = some (.int .i64 at_) := by rw [HB6.out.2.2.1.cell]; rfl
                            have f2 := HB6.out.2.2.1.frozen 1
                            go_simp
                            have HB7 : Hid (JS w (W6.setCell ⟨s, 1, none⟩ (.int .i64 na)) p r y1 y2 z3' z4' ⟨pt, pd, LL, (joinO (os.take i)).rl ++ (o.rl.take c).map (shR pt.length pd.length)⟩ ∧ Blk (W6.setCell ⟨s, 1, none⟩ (.int .i64 na)) q 27 #[.slice A1 o.tx.length d1, .slice A2 o.dt.length d2, .slice A3 M3 d3, .slice (some ⟨g7, off7, none⟩) M4 d4] ∧ Blk (W6.setCell ⟨s, 1, none⟩ (.int .i64 na)) s 48 #[.int .i64 sec, .int .i64 na, .int .i64 kd, .int .i64 add, .string nm] ∧ r < q ∧ q < s) := by
                              refine ⟨JB.far HB6.out.1 HB6.out.2.2.1 HB6.out.2.2.2 _ _, HB6.out.2.1.far (p := ⟨s, 1, none⟩) (by have := HB6.out.2.2.2; show q ≠ s; omega) _, ?_, HB6.out.2.2.2⟩
                              have := HB6.out.2.2.1.set_ 1 (.int .i64 na)
                              simpa using this
                            clear s2 f2 HB6
                            refine hK.out _ _ ⟨by rw [HB7.out.1.box.cell]; rfl, by rw [HB7.out.1.box.cell]; rfl, by rw [HB7.out.1.box.cell]; rfl, by rw [HB7.out.1.box.cell]; rfl, by rw [HB7.out.2.2.1.cell]; rfl⟩ (fun hHeld => ?_)
                            clear hK K
                            try simp only [Act.put, List.setIfInBounds_toArray, List.set_cons_zero, List.set_cons_succ, List.getElem_toArray, List.getElem_cons_succ, List.getElem_cons_zero]
                            refine wpAnyH_done (by kernel_rfl) ?_ _
                            go_wp2_with fail
                            go_meet
                            case rel => exact HB7.out
                          · rw [if_pos (by rfl)]
                            go_simp
                            go_at_call 16
                            refine (HSEC.out _).mono ?_
                            rintro e W6 ⟨rfl, hb⟩
                            have HB6 : Hid (JS w W6 p r y1 y2 z3' z4' ⟨pt, pd, LL, (joinO (os.take i)).rl ++ (o.rl.take c).map (shR pt.length pd.length)⟩ ∧ Blk W6 q 27 #[.slice A1 o.tx.length d1, .slice A2 o.dt.length d2, .slice A3 M3 d3, .slice (some ⟨g7, off7, none⟩) M4 d4] ∧ Blk W6 s 48 #[.int .i64 sec, .int .i64 at_, .int .i64 kd, .int .i64 add, .string nm] ∧ r < q ∧ q < s) := ⟨JB.bel HB5.out.1 hb, HB5.out.2.1.below hb HB5.out.2.1.lt, HB5.out.2.2.1.below hb HB5.out.2.2.1.lt, HB5.out.2.2.2⟩
                            clear hb
                            try go_simp
                            refine hK.out _ _ ⟨by rw [HB6.out.1.box.cell]; rfl, by rw [HB6.out.1.box.cell]; rfl, by rw [HB6.out.1.box.cell]; rfl, by rw [HB6.out.1.box.cell]; rfl, by rw [HB6.out.2.2.1.cell]; rfl⟩ (fun hHeld => ?_)
                            clear hK K
                            try simp only [Act.put, List.setIfInBounds_toArray, List.set_cons_zero, List.set_cons_succ, List.getElem_toArray, List.getElem_cons_succ, List.getElem_cons_zero]
                            refine wpAnyH_take (i := 6) (v := ?_) rfl (by kernel_rfl) (by kernel_rfl) (by kernel_rfl) (fun _ _ _ h => h) (Or.inl ⟨by rfl, ?_⟩) (by assumption) ?_
                            rotate_left 1
                            focus (intro w hSw; (try dsimp only at hSw); first | (go_simp; done) | (go_simp; with_reducible rfl))
                            try simp only [Act.put, List.setIfInBounds_toArray, List.set_cons_zero, List.set_cons_succ, List.getElem_toArray, List.getElem_cons_succ, List.getElem_cons_zero]
                            refine wpAnyH_ready (rs := [1]) (by kernel_rfl) (by simp) ?_
                            refine AllReadyH.cons rfl (fun K hK => ?_) AllReadyH.nil
                            have s2 : W6.cell? ⟨s, 1, none⟩ = some (.int .i64 at_) := by rw [HB6.out.2.2.1.cell]; rfl
                            rw [if_pos (by rfl)]
                            go_simp
                            clear s2
                            refine hK.out _ _ ⟨by rw [HB6.out.1.box.cell]; rfl, by rw [HB6.out.1.box.cell]; rfl, by rw [HB6.out.1.box.cell]; rfl, by rw [HB6.out.1.box.cell]; rfl, by rw [HB6.out.2.2.1.cell]; rfl⟩ (fun hHeld => ?_)
                            clear hK K
                            try simp only [Act.put, List.setIfInBounds_toArray, List.set_cons_zero, List.set_cons_succ, List.getElem_toArray, List.getElem_cons_succ, List.getElem_cons_zero]
                            refine wpAnyH_take (i := 7) (v := ?_) rfl (by kernel_rfl) (by kernel_rfl) (by kernel_rfl) (fun _ _ _ h => h) (Or.inl ⟨by rfl, ?_⟩) (by assumption) ?_
                            rotate_left 1
                            focus (intro w hSw; (try dsimp only at hSw); first | (go_simp; done) | (go_simp; with_reducible rfl))
                            try simp only [Act.put, List.setIfInBounds_toArray, List.set_cons_zero, List.set_cons_succ, List.getElem_toArray, List.getElem_cons_succ, List.getElem_cons_zero]
                            refine wpAnyH_take (i := 8) (v := ?_) rfl (by kernel_rfl) (by kernel_rfl) (by kernel_rfl) (fun _ _ _ h => h) (Or.inl ⟨by rfl, ?_⟩) (by assumption) ?_
                            rotate_left 1
                            focus (intro w hSw; (try dsimp only at hSw); first | (go_simp; done) | (go_simp; with_reducible rfl))
                            try simp only [Act.put, List.setIfInBounds_toArray, List.set_cons_zero, List.set_cons_succ, List.getElem_toArray, List.getElem_cons_succ, List.getElem_cons_zero]
                            refine wpAnyH_ready (rs := [9]) (by kernel_rfl) (by simp) ?_
                            refine AllReadyH.cons rfl (fun K hK => ?_) AllReadyH.nil
                            rw [if_pos (by rfl)]
                            have s2 : W6.cell? ⟨s, 1, none⟩ = some (.int .i64 at_) := by rw [HB6.out.2.2.1.cell]; rfl
                            have f2 := HB6.out.2.2.1.frozen 1
                            go_simp
                            have HB7 : Hid (JS w (W6.setCell ⟨s, 1, none⟩ (.int .i64 na)) p r y1 y2 z3' z4' ⟨pt, pd, LL, (joinO (os.take i)).rl ++ (o.rl.take c).map (shR pt.length pd.length)⟩ ∧ Blk (W6.setCell ⟨s, 1, none⟩ (.int .i64 na)) q 27 #[.slice A1 o.tx.length d1, .slice A2 o.dt.length d2, .slice A3 M3 d3, .slice (some ⟨g7, off7, none⟩) M4 d4] ∧ Blk (W6.setCell ⟨s, 1, none⟩ (.int .i64 na)) s 48 #[.int .i64 sec, .int .i64 na, .int .i64 kd, .int .i64 add, .string nm] ∧ r < q ∧ q < s) := by
                              refine ⟨JB.far HB6.out.1 HB6.out.2.2.1 HB6.out.2.2.2 _ _, HB6.out.2.1.far (p := ⟨s, 1, none⟩) (by have := HB6.out.2.2.2; show q ≠ s; omega) _, ?_, HB6.out.2.2.2⟩
                              have := HB6.out.2.2.1.set_ 1 (.int .i64 na)
                              simpa using this
                            clear s2 f2 HB6
                            refine hK.out _ _ ⟨by rw [HB7.out.1.box.cell]; rfl, by rw [HB7.out.1.box.cell]; rfl, by rw [HB7.out.1.box.cell]; rfl, by rw [HB7.out.1.box.cell]; rfl, by rw [HB7.out.2.2.1.cell]; rfl⟩ (fun hHeld => ?_)
                            clear hK K
                            try simp only [Act.put, List.setIfInBounds_toArray, List.set_cons_zero, List.set_cons_succ, List.getElem_toArray, List.getElem_cons_succ, List.getElem_cons_zero]
                            refine wpAnyH_done (by kernel_rfl) ?_ _
                            go_wp2_with fail
                            go_meet
                            case rel => exact HB7.out
                        case rest => as_aux_lemma =>
                          have HC := hcut
                          obtain ⟨v', w', r1, r2, r3, r4⟩ := OwnR.snoc HC.out.1.rl ⟨sec, na, kd, add, nm⟩ (by
                            have h1 := HSJ.out.2.2.2
                            have h2 := HM4.out
                            rw [List.length_append, List.length_map, List.length_take]
                            have h3 := short_le HRO.out.2
                            omega) HC.out.1.sz
                          have HE : Hid ((joinO (os.take i)).rl ++ (o.rl.take c).map (shR pt.length pd.length) ++ [(⟨sec, na, kd, add, nm⟩ : Rel)] = (joinO (os.take i)).rl ++ (o.rl.take (c + 1)).map (shR pt.length pd.length)) := by
                            show _ = _
                            have e : o.rl[c] = ⟨sec, at_, kd, add, nm⟩ := by rw [← HX.out]; simp [List.getD, hcl]
                            rw [List.take_succ_eq_append_getElem hcl, List.map_append, e, List.append_assoc]
                            congr 2
                            show _ = [shR pt.length pd.length ⟨sec, at_, kd, add, nm⟩]
                            unfold shR
                            have h1 := HNA.out
                            have h2 := HLN.out
                            rw [← h1, ← h2]
                            dsimp only
                            congr 2
                            split <;> rfl
                          obtain ⟨Bv, cv, hv, _, _⟩ := slice_form r2
                          obtain ⟨NL, hNL⟩ : ∃ NL, ((joinO (os.take i)).rl ++ (o.rl.take c).map (shR pt.length pd.length) ++ [(⟨sec, na, kd, add, nm⟩ : Rel)]).length = NL := ⟨_, rfl⟩
                          rw [hNL] at hv
                          have HG : Hid (JB w w' p r #[y1, y2, z3', z4'] y1 y2 z3' v' ⟨pt, pd, LL, (joinO (os.take i)).rl ++ (o.rl.take (c + 1)).map (shR pt.length pd.length)⟩ ∧ Blk w' q 27 #[.slice A1 o.tx.length d1, .slice A2 o.dt.length d2, .slice A3 M3 d3, .slice (some ⟨g7, off7, none⟩) M4 d4] ∧ r < q) := by
                            have hb : Below wc.heap.size wc (wc.alloc (.cells #[.int .i64 sec, .int .i64 na, .int .i64 kd, .int .i64 add, .string nm] 48)) := (Below.refl _ _).alloc (Nat.le_refl _) _
                            have hJ := JB.bel HC.out.1 hb
                            rw [HE.out] at r2
                            refine ⟨JB.growR hJ r3 r2, ?_, HC.out.2.2.2.1⟩
                            exact (HC.out.2.1.alloc _).grown r3 (fun e => by
                              obtain ⟨c, b⟩ := owns_kind hJ.rl e.symm
                              exact absurd (b.kind (HC.out.2.1.alloc (.cells #[.int .i64 sec, .int .i64 na, .int .i64 kd, .int .i64 add, .string nm] 48))) (by decide))
                          have HR := Lib.hid r1
                          have b2 : wc.cell? ⟨r, 3, none⟩ = some z4' := by rw [HC.out.1.box.cell]; rfl
                          have s0 : wc.cell? ⟨s, 0, none⟩ = some (.int .i64 sec) := by rw [HC.out.2.2.1.cell]; rfl
                          have s1 : wc.cell? ⟨s, 1, none⟩ = some (.int .i64 na) := by rw [HC.out.2.2.1.cell]; rfl
                          have s2 : wc.cell? ⟨s, 2, none⟩ = some (.int .i64 kd) := by rw [HC.out.2.2.1.cell]; rfl
                          have s3 : wc.cell? ⟨s, 3, none⟩ = some (.int .i64 add) := by rw [HC.out.2.2.1.cell]; rfl
                          have s4 : wc.cell? ⟨s, 4, none⟩ = some (.string nm) := by rw [HC.out.2.2.1.cell]; rfl
                          have b3 : w'.cell? ⟨r, 3, none⟩ = some z4' := by rw [HG.out.1.box.cell]; rfl
                          have f3 := HG.out.1.box.frozen 3
                          have HN6 := Lib.hid (And.intro (JB.put HG.out.1 3 v') (And.intro (HG.out.2.1.far (p := ⟨r, 3, none⟩) (by have := HG.out.2.2; show q ≠ r; omega) v') HG.out.2.2))
                          clear r1 r2 r3 r4 HG hcut HC HE hNL
                          subst hv
                          go_wp2_with (at_builtin; refine wpList_append_eq rfl (.tmp 130) (.tmp 132) 25 rfl rfl rfl HR.out ?_)
                          go_roundw
                          case rel => exact ⟨c + 1, by omega, by go_num, _, by have h := HN6.out.1; simpa [JS] using h, HN6.out.2.1, HN6.out.2.2⟩
                          case measure => simp [intOf]; omega
                      · obtain ⟨RR, hRR⟩ : ∃ RR, (joinO (os.take i)).rl ++ o.rl.map (shR pt.length pd.length) = RR := ⟨_, rfl⟩
                        have HB0 : Hid (JB w wr p r #[y1, y2, z3', z4'] y1 y2 z3' z4' ⟨pt, pd, LL, RR⟩ ∧ Blk wr q 27 #[.slice A1 o.tx.length d1, .slice A2 o.dt.length d2, .slice A3 M3 d3, .slice A4 M4 d4] ∧ r < q) := by
                          have h := HJ5.out
                          rw [List.take_of_length_le (l := o.rl) (by rw [HM4.out]; omega), hRR] at h
                          exact ⟨h, HQ5.out⟩
                        have HRR := Lib.hid hRR
                        have HLN : Hid (pt.length ≤ 1099511627776 ∧ pd.length ≤ 1099511627776 ∧ o.tx.length ≤ 1099511627776 ∧ o.dt.length ≤ 1099511627776) := by
                          have h1 := HSJ.out.1
                          have h2 := HSJ.out.2.1
                          have h3 := padL_len (joinO (os.take i)).tx
                          have h4 := padL_len (joinO (os.take i)).dt
                          rw [HPT.out.1] at h3
                          rw [HPT.out.2] at h4
                          have h5 := short_le HRO.out.2
                          exact ⟨by omega, by omega, by omega, by omega⟩
                        have hbel : Below w.heap.size w wr := by rw [HP.out]; exact HB0.out.1.rj.below
                        obtain ⟨u1, w1, r1, r2, r3, r4⟩ := OwnB.app HB0.out.1.tx (HOB.out.tx.below hbel) HLN.out.1 HLN.out.2.2.1 HB0.out.1.sz
                        have hG : Grew wr w1 y1 u1 := ⟨(Keeps.refl _ _).grown r3 (fun g hg => Or.inr (Or.inl hg)), r4.imp id (fun e => ⟨_, e, Nat.le_refl _⟩)⟩
                        have HB1 : Hid (JB w w1 p r #[y1, y2, z3', z4'] u1 y2 z3' z4' ⟨pt ++ o.tx, pd, LL, RR⟩ ∧ Blk w1 q 27 #[.slice A1 o.tx.length d1, .slice A2 o.dt.length d2, .slice A3 M3 d3, .slice A4 M4 d4] ∧ r < q) := ⟨JB.growT HB0.out.1 hG r2, JB.otherT HB0.out.1 hG HB0.out.2.1, HB0.out.2.2⟩
                        obtain ⟨Bu, cu, hu, _, _⟩ := slice_form r2
                        obtain ⟨NU, hNU⟩ : ∃ NU, (pt ++ o.tx).length = NU := ⟨_, rfl⟩
                        rw [hNU] at hu
                        have HB2 := Lib.hid (And.intro (JB.put HB1.out.1 0 u1) (And.intro (HB1.out.2.1.far (p := ⟨r, 0, none⟩) (by have := HB1.out.2.2; show q ≠ r; omega) u1) HB1.out.2.2))
                        have b0 : wr.cell? ⟨r, 0, none⟩ = some y1 := by rw [HB0.out.1.box.cell]; rfl
                        have q0 : wr.cell? ⟨q, 0, none⟩ = some (.slice A1 o.tx.length d1) := by rw [HB0.out.2.1.cell]; rfl
                        have b1 : w1.cell? ⟨r, 0, none⟩ = some y1 := by rw [HB1.out.1.box.cell]; rfl
                        have f1 := HB1.out.1.box.frozen 0
                        have HR := Lib.hid r1
                        clear r1 r2 r3 r4 hG hNU HB0 HB1 HJ5 HQ5 HL hRR hcm hbel
                        subst hu
                        go_upto_region 34 with (at_builtin; refine wpList_append_eq rfl (.tmp 136) (.tmp 138) 23 rfl rfl rfl HR.out ?_)
                        clear b0 q0 b1 b3 f1 HR
                        generalize w1.setCell ⟨r, 0, none⟩ (.slice Bu NU cu) = w2 at *
                        have hbel : Below w.heap.size w w2 := by rw [HP.out]; exact HB2.out.1.rj.below
                        obtain ⟨u3, w3, r1, r2, r3, r4⟩ := OwnB.app HB2.out.1.dt (HOB.out.dt.below hbel) HLN.out.2.1 HLN.out.2.2.2 HB2.out.1.sz
                        have hG : Grew w2 w3 y2 u3 := ⟨(Keeps.refl _ _).grown r3 (fun g hg => Or.inr (Or.inl hg)), r4.imp id (fun e => ⟨_, e, Nat.le_refl _⟩)⟩
                        have HB3 := Lib.hid (And.intro (JB.growD HB2.out.1 hG r2) (And.intro (JB.otherD HB2.out.1 hG HB2.out.2.1) HB2.out.2.2))
                        obtain ⟨Bd, cd, hu, _, _⟩ := slice_form r2
                        obtain ⟨ND, hND⟩ : ∃ ND, (pd ++ o.dt).length = ND := ⟨_, rfl⟩
                        rw [hND] at hu
                        have HB4 := Lib.hid (JB.put HB3.out.1 1 u3)
                        have b0 : w2.cell? ⟨r, 1, none⟩ = some y2 := by rw [HB2.out.1.box.cell]; rfl
                        have q0 : w2.cell? ⟨q, 1, none⟩ = some (.slice A2 o.dt.length d2) := by rw [HB2.out.2.1.cell]; rfl
                        have b1 : w3.cell? ⟨r, 1, none⟩ = some y2 := by rw [HB3.out.1.box.cell]; rfl
                        have f1 := HB3.out.1.box.frozen 1
                        have HR := Lib.hid r1
                        clear r1 r2 r3 r4 hG hND HB2 HB3 hbel
                        subst hu
                        have HJN : Hid (JS w (w3.setCell ⟨r, 1, none⟩ (.slice Bd ND cd)) p r (.slice Bu NU cu) (.slice Bd ND cd) z3' z4' (joinO (os.take (i + 1)))) := by
                          have hil : i < os.length := by rw [HN.out]; exact HLT.out
                          rw [take_snoc hil, joinO_snoc, HOO.out]
                          have e : jstep (joinO (os.take i)) o = ⟨pt ++ o.tx, pd ++ o.dt, LL, RR⟩ := by unfold jstep; rw [HPT.out.1, HPT.out.2, HLL.out, HRR.out]
                          rw [e]
                          have h := HB4.out
                          exact Lib.hid (by simpa [JS] using h)
                        have HD2 : Hid ((List.range (i + 1)).any (dupAt os) = false) := rng_miss HD.out HND.out
                        have hi2 : i + 1 ≤ k := HLT.out
                        clear HB4
                        go_wp2_with (at_builtin; refine wpList_append_eq rfl (.tmp 142) (.tmp 144) 23 rfl rfl rfl HR.out ?_)
                        go_roundw
                        case rel => exact ⟨i + 1, hi2, by go_num, HD2.out, _, _, _, _, HJN.out⟩
                        case measure => simp [intOf]; omega
        · have hik : i = k := by omega
          obtain ⟨z1, z2, z3, z4, hjs⟩ := HJ.out
          obtain ⟨J, hJJ⟩ : ∃ J, joinO (os.take i) = J := ⟨_, rfl⟩
          rw [hJJ] at hjs
          have HJL : Hid (joinO os = J) := by
            show _ = _
            rw [← hJJ, List.take_of_length_le (by rw [HN.out]; omega)]
          have HDL : Hid ((List.range os.length).any (dupAt os) = false) := by show _ = _; rw [HN.out, ← hik]; exact HD.out
          have HSJ : Hid (SzOK J) := by rw [← hJJ]; exact HSZ.out i (by rw [HN.out]; omega)
          have HRD := Lib.hid (rordered_any z1 z2 z3 z4 J.lb J.rl wr (by obtain ⟨A, c, e, _⟩ := slice_form hjs.tx; exact ⟨A, _, c, e⟩) (by obtain ⟨A, c, e, _⟩ := slice_form hjs.dt; exact ⟨A, _, c, e⟩) (RowOf.own hjs.lb) (RowOf.own hjs.rl) HSJ.out.2.2.1 HSJ.out.2.2.2)
          have HJS := Lib.hid hjs
          have b0 : wr.cell? ⟨r, 0, none⟩ = some z1 := by rw [hjs.box.cell]; rfl
          have b1 : wr.cell? ⟨r, 1, none⟩ = some z2 := by rw [hjs.box.cell]; rfl
          have b2 : wr.cell? ⟨r, 2, none⟩ = some z3 := by rw [hjs.box.cell]; rfl
          have b3 : wr.cell? ⟨r, 3, none⟩ = some z4 := by rw [hjs.box.cell]; rfl
          clear hjs HJ HD hJJ hlt hi
          go_wp2_with fail
          refine HRD.out.mono ?_
          rintro e w1 ⟨x3, x4, rfl, o3, o4, hb⟩
          have HB := Lib.hid (JB.bel HJS.out hb)
          have hgr : r < wr.heap.size := HJS.out.box.lt
          obtain ⟨B1, c1, e1, _, _⟩ := slice_form HJS.out.tx
          obtain ⟨B2, c2, e2, _, _⟩ := slice_form HJS.out.dt
          obtain ⟨B3, c3, e3, _, _⟩ := slice_form o3
          obtain ⟨B4, c4, e4, _, _⟩ := slice_form o4
          obtain ⟨N1, hN1⟩ : ∃ n, J.tx.length = n := ⟨_, rfl⟩
          obtain ⟨N2, hN2⟩ : ∃ n, J.dt.length = n := ⟨_, rfl⟩
          obtain ⟨N3, hN3⟩ : ∃ n, (ordLs J.lb 2).length = n := ⟨_, rfl⟩
          obtain ⟨N4, hN4⟩ : ∃ n, (ordRs J.rl 2).length = n := ⟨_, rfl⟩
          rw [hN1] at e1
          rw [hN2] at e2
          rw [hN3] at e3
          rw [hN4] at e4
          have HLG : Hid (longO (ordO J) = (decide (1048576 < N1) || decide (1048576 < N2) || decide (4096 < N3) || decide (16384 < N4))) := by
            show _ = _
            unfold longO ordO
            dsimp only
            rw [hN1, hN2, hN3, hN4]
          have HP5 : Hid (JB w ((((w1.setCell ⟨r, 0, none⟩ z1).setCell ⟨r, 1, none⟩ z2).setCell ⟨r, 2, none⟩ x3).setCell ⟨r, 3, none⟩ x4) p r #[z1, z2, x3, x4] z1 z2 z3 z4 J ∧ OwnL ((((w1.setCell ⟨r, 0, none⟩ z1).setCell ⟨r, 1, none⟩ z2).setCell ⟨r, 2, none⟩ x3).setCell ⟨r, 3, none⟩ x4) (r + 1) x3 (ordLs J.lb 2) ∧ OwnR ((((w1.setCell ⟨r, 0, none⟩ z1).setCell ⟨r, 1, none⟩ z2).setCell ⟨r, 2, none⟩ x3).setCell ⟨r, 3, none⟩ x4) (r + 1) x4 (ordRs J.rl 2)) := by
            have hk : Keeps (fun j => j = r) w1 ((((w1.setCell ⟨r, 0, none⟩ z1).setCell ⟨r, 1, none⟩ z2).setCell ⟨r, 2, none⟩ x3).setCell ⟨r, 3, none⟩ x4) := ((((Keeps.refl (fun j => j = r) w1).setCell (p := ⟨r, 0, none⟩) (Or.inr rfl) z1).setCell (p := ⟨r, 1, none⟩) (Or.inr rfl) z2).setCell (p := ⟨r, 2, none⟩) (Or.inr rfl) x3).setCell (p := ⟨r, 3, none⟩) (Or.inr rfl) x4
            refine ⟨?_, ownsRow_lower (ownsRow_keeps o3 hk (fun g hg e => by have := (own_some2 o3 hg).1; omega)) (by omega), ownsRow_lower (ownsRow_keeps o4 hk (fun g hg e => by have := (own_some2 o4 hg).1; omega)) (by omega)⟩
            have h := (((HB.out.put 0 z1).put 1 z2).put 2 x3).put 3 x4
            simpa using h
          have g0 := HB.out.box.frozen 0
          have g1 := HB.out.box.frozen 1
          have g2 := HB.out.box.frozen 2
          have g3 := HB.out.box.frozen 3
          have d0 : w1.cell? ⟨r, 0, none⟩ = some z1 := by rw [HB.out.box.cell]; rfl
          have d1 : w1.cell? ⟨r, 1, none⟩ = some z2 := by rw [HB.out.box.cell]; rfl
          have d2 : w1.cell? ⟨r, 2, none⟩ = some z3 := by rw [HB.out.box.cell]; rfl
          have d3 : w1.cell? ⟨r, 3, none⟩ = some z4 := by rw [HB.out.box.cell]; rfl
          clear hb o3 o4 hgr HB HJS HRD b0 b1 b2 b3 hN1 hN2 hN3 hN4
          subst e1
          subst e2
          subst e3
          subst e4
          go_upto_region 36 with fail
          generalize ((((w1.setCell ⟨r, 0, none⟩ (.slice B1 N1 c1)).setCell ⟨r, 1, none⟩ (.slice B2 N2 c2)).setCell ⟨r, 2, none⟩ (.slice B3 N3 c3)).setCell ⟨r, 3, none⟩ (.slice B4 N4 c4)) = W5 at HP5 ⊢
          clear g0 g1 g2 g3 d0 d1 d2 d3
          have d0 : W5.cell? ⟨r, 0, none⟩ = some (.slice B1 N1 c1) := by rw [HP5.out.1.box.cell]; rfl
          have d1 : W5.cell? ⟨r, 1, none⟩ = some (.slice B2 N2 c2) := by rw [HP5.out.1.box.cell]; rfl
          have d2 : W5.cell? ⟨r, 2, none⟩ = some (.slice B3 N3 c3) := by rw [HP5.out.1.box.cell]; rfl
          have d3 : W5.cell? ⟨r, 3, none⟩ = some (.slice B4 N4 c4) := by rw [HP5.out.1.box.cell]; rfl
          have HRJ := Lib.hid (HP5.out.1.rj)
          have r0 : W5.cell? ⟨p, 0, none⟩ = some (.slice none 0 0) := by rw [HRJ.out.ob.cell]; rfl
          have r1 : W5.cell? ⟨p, 1, none⟩ = some (.slice none 0 0) := by rw [HRJ.out.ob.cell]; rfl
          have r2 : W5.cell? ⟨p, 2, none⟩ = some (.slice none 0 0) := by rw [HRJ.out.ob.cell]; rfl
          have r3 : W5.cell? ⟨p, 3, none⟩ = some (.slice none 0 0) := by rw [HRJ.out.ob.cell]; rfl
          have s0 : W5.cell? ⟨p + 1, 0, none⟩ = some (.int .i64 0) := by rw [HRJ.out.fl.cell]; rfl
          have s1 : W5.cell? ⟨p + 1, 1, none⟩ = some (.int .i64 0) := by rw [HRJ.out.fl.cell]; rfl
          have f0 := HRJ.out.ob.frozen 0
          have f1 := HRJ.out.ob.frozen 1
          have f2 := HRJ.out.ob.frozen 2
          have f3 := HRJ.out.ob.frozen 3
          have f4 := HRJ.out.fl.frozen 0
          have f5 := HRJ.out.fl.frozen 1
          cases hlg : longO (ordO J) with
          | true =>
            have HJR := Lib.hid (jres_long HAL.out HDL.out (by rw [HJL.out]; exact hlg))
            have h4 : 1048576 < N1 ∨ (¬ 1048576 < N1 ∧ 1048576 < N2) ∨ (¬ 1048576 < N1 ∧ ¬ 1048576 < N2 ∧ 4096 < N3) ∨ (¬ 1048576 < N1 ∧ ¬ 1048576 < N2 ∧ ¬ 4096 < N3 ∧ 16384 < N4) := by
              rw [HLG.out] at hlg
              simp at hlg
              omega
            have HF := Lib.hid (HRJ.out.out (.slice none 0 0) (.slice none 0 0) (.slice none 0 0) (.slice none 0 0) 0 3)
            clear hlg
            rcases h4 with h1 | ⟨h1, h2⟩ | ⟨h1, h2, h3⟩ | ⟨h1, h2, h3, h4⟩
            all_goals
              go_wp2_with fail
              obtain ⟨W6, hW6, h1, hkk, h2, h3⟩ := HF.out
              rw [← hW6]
              have y0 := h2.cell 0
              have y1 := h2.cell 1
              have y2 := h2.cell 2
              have y3 := h2.cell 3
              have u0 := h3.cell 0
              have u1 := h3.cell 1
              refine bodyPost_ret (v := .tuple #[.agg #[.slice none 0 0, .slice none 0 0, .slice none 0 0, .slice none 0 0], .agg #[.int .i64 0, .int .i64 3]]) (by simp [results, Tryd.results6, y0, y1, y2, y3, u0, u1, go_sem]) rfl ?_
              exact ⟨_, _, _, _, by rw [HJR.out], by rw [HJR.out]; exact obnil, by rw [HP.out]; exact h1⟩
          | false =>
            have HJR := Lib.hid (jres_ok HAL.out HDL.out (by rw [HJL.out]; exact hlg))
            have h4 : ¬ 1048576 < N1 ∧ ¬ 1048576 < N2 ∧ ¬ 4096 < N3 ∧ ¬ 16384 < N4 := by
              rw [HLG.out] at hlg
              simp at hlg
              omega
            have HF := Lib.hid (HRJ.out.out (.slice B1 N1 c1) (.slice B2 N2 c2) (.slice B3 N3 c3) (.slice B4 N4 c4) 0 0)
            clear hlg
            obtain ⟨h1, h2, h3, h4⟩ := h4
            go_wp2_with fail
            obtain ⟨W6, hW6, h1, hkk, h2, h3⟩ := HF.out
            rw [← hW6]
            have y0 := h2.cell 0
            have y1 := h2.cell 1
            have y2 := h2.cell 2
            have y3 := h2.cell 3
            have u0 := h3.cell 0
            have u1 := h3.cell 1
            refine bodyPost_ret (v := .tuple #[.agg #[.slice B1 N1 c1, .slice B2 N2 c2, .slice B3 N3 c3, .slice B4 N4 c4], .agg #[.int .i64 0, .int .i64 0]]) (by simp [results, Tryd.results6, y0, y1, y2, y3, u0, u1, go_sem]) rfl ?_
            have hr2 := HP5.out.1.pr
            have hq : ∀ {e size k : Nat} {v : Value} {xs : List Value}, W5.ownsRow (r + 1) e size v k xs → W6.ownsRow (r + 1) e size v k xs := fun h => ownsRow_keeps h hkk (fun g hg e => by have := (own_some2 h hg).1; omega)
            refine ⟨_, _, _, _, by rw [HJR.out], ?_, by rw [HP.out]; exact h1⟩
            rw [HJR.out, HJL.out]
            exact ⟨RowOf.own (hq HP5.out.1.tx), RowOf.own (hq HP5.out.1.dt), RowOf.own (hq HP5.out.2.1), RowOf.own (hq HP5.out.2.2)⟩
end Go.Proofs.YtlgdfacaeahcaaaDoor
