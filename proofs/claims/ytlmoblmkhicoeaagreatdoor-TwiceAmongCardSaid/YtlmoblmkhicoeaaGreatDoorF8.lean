/- Walks: (*lives).point, at a block's beginning. Conditions: what lies where. -/
import Derived.Test.YtlmoblmkhicoeaaGreatDoorF7
set_option linter.unusedVariables false
set_option linter.unusedSimpArgs false
namespace Go.Proofs.YtlmoblmkhicoeaaGreatDoor
open Go.RowKit
def bkF (F : Fn) (sec : List Nat) (os : List Op) (s : List Nat) : List Nat := os.foldr (fun o s => backP F sec s o) s
theorem bkF_step (F : Fn) (sec : List Nat) (os : List Op) (s : List Nat) {j : Nat} (hj : j < os.length) : bkF F sec (os.drop j) s = backP F sec (bkF F sec (os.drop (j + 1)) s) os[j] := by
  rw [bkF, List.drop_eq_getElem_cons hj]; rfl
set_option maxRecDepth 100000 in
set_option maxHeartbeats 4000000 in
theorem point_any (gl gg : Nat) (F : Fn) (sv bv tov : Value) (gr : Nat) (inv : Value) (gs : List Nat) (ins : List (List Nat)) (sec : List Nat) (gc : Nat) (b : Nat) (hb : b < F.bl.length) (w : World) (h : LvAt w gl gg F sv bv tov gr inv gs ins) (hc : SetAt w gc sec F.rs.toNat) :
    Calls Tryz.prog 46 #[.pointer (some ⟨gl, 0, none⟩), .int .i64 b, .int .i64 0, .pointer (some ⟨gc, 0, none⟩)] w fun e w' => (∃ g, e = .returned (.pointer (some ⟨g, 0, none⟩)) ∧ w.heap.size ≤ g ∧ SetAt w' g (pointP F ins sec b) F.rs.toNat) ∧ Below w.heap.size w w' := by
  have HL := Lib.hid h
  have HC := Lib.hid hc
  obtain ⟨-, hrs2⟩ := h.ok.rsN
  obtain ⟨g2, o2, c2, Ao, co, rfl, r1, r2, r3, r4⟩ := h.bl_ hb
  have l0 : w.cell? ⟨gl, 0, none⟩ = some (.pointer (some ⟨gg, 0, none⟩)) := (h.lb.cell 0).trans rfl
  have m4 : w.cell? ⟨gg, 4, none⟩ = some (.slice (some ⟨g2, o2, none⟩) F.bl.length c2) := (h.gb.cell 4).trans rfl
  unfold maxLen at r2
  have HEN := Lib.hid (end_any gl gg F sv _ tov gr inv gs ins b hb w h)
  have hmem := List.getElem_mem hb
  have HX := Lib.hid (show (∀ r ∈ exR (blk F b).x, 0 ≤ r ∧ r < 4096) from fun r hr => by
    rw [blk_at_ hb] at hr
    have := exB_regs (h.ok.ex _ hmem) r hr
    have := h.ok.r1
    omega)
  have HO := Lib.hid (show ∀ o ∈ (blk F b).os, o.d < 4096 ∧ o.ar.length ≤ 17592186044414 ∧ o.tx.size ≤ maxLen from fun o ho => by
    rw [blk_at_ hb] at ho
    have h1 := opB_parts (h.ok.op _ hmem o ho)
    have h2 := h.fi.sm.ar _ hmem o ho
    have h3 := h.ok.r1
    exact ⟨by rcases Int.lt_or_le o.d 0 with h5 | h5
              · omega
              · have := h1.2.1 h5; omega, h2.1, mx h2.2⟩)
  have HOL := Lib.hid (show (blk F b).os.length ≤ 4096 from by rw [blk_at_ hb]; exact h.ok.ol _ hmem)
  have HPT := Lib.hid (show pointP F ins sec b = bkF F sec (blk F b).os ((exR (blk F b).x).foldl putI (endP F ins b)) from rfl)
  have HEX := Lib.hid (fun w => exits_any (blk F b).x w)
  obtain ⟨m, hm⟩ : ∃ m, F.rs.toNat = m := ⟨_, rfl⟩
  have HM := Lib.hid hm
  have HKL := Lib.hid h.fi.ke.lt
  rw [hm] at HEN HC hrs2
  obtain ⟨bb, hbb⟩ : ∃ bb, blk F b = bb := ⟨_, rfl⟩
  rw [hbb] at HX HO HOL HPT HEX r4
  obtain ⟨s0, s1, s2, s3, s4, s5, s6⟩ := r4
  have HS6 := Lib.hid s6
  unfold exv at HEX
  clear h hc hm hmem hbb s6
  go_enter Tryz.func46, Tryz.ntmps46
  go_wp2_with fail
  refine HEN.out.mono ?_
  rintro e w1 ⟨⟨g, rfl, hge, hs1⟩, hb1⟩
  have y0 := (hb1.cell (p := ⟨gl, 0, none⟩) (cell_lt l0)).trans l0
  have y4 := (hb1.cell (p := ⟨gg, 4, none⟩) (cell_lt m4)).trans m4
  have x0 := (hb1.cell (p := ⟨g2, o2 + b * 6, none⟩) r3).trans s0
  have x1 := (hb1.cell (p := ⟨g2, o2 + b * 6 + 1, none⟩) r3).trans s1
  have x2 := (hb1.cell (p := ⟨g2, o2 + b * 6 + 2, none⟩) r3).trans s2
  have x3 := (hb1.cell (p := ⟨g2, o2 + b * 6 + 3, none⟩) r3).trans s3
  have x4 := (hb1.cell (p := ⟨g2, o2 + b * 6 + 4, none⟩) r3).trans s4
  have x5 := (hb1.cell (p := ⟨g2, o2 + b * 6 + 5, none⟩) r3).trans s5
  obtain ⟨gx, hgx⟩ : ∃ gx, w1.heap.size = gx := ⟨_, rfl⟩
  have hal := below1 w1 (.cells #[.slice Ao bb.os.length co, .int .i64 bb.x.k, .int .i64 bb.x.a, .int .i64 bb.x.d, .int .i64 bb.x.t, .int .i64 bb.x.e] 45)
  have hgg1 : w.heap.size ≤ gx := by rw [← hgx]; exact hb1.size
  have HS2 := Lib.hid (show SetAt (w1.alloc (.cells #[.slice Ao bb.os.length co, .int .i64 bb.x.k, .int .i64 bb.x.a, .int .i64 bb.x.d, .int .i64 bb.x.t, .int .i64 bb.x.e] 45)) g (endP F ins b) m ∧ Below w.heap.size w (w1.alloc (.cells #[.slice Ao bb.os.length co, .int .i64 bb.x.k, .int .i64 bb.x.a, .int .i64 bb.x.d, .int .i64 bb.x.t, .int .i64 bb.x.e] 45)) ∧ Blk (w1.alloc (.cells #[.slice Ao bb.os.length co, .int .i64 bb.x.k, .int .i64 bb.x.a, .int .i64 bb.x.d, .int .i64 bb.x.t, .int .i64 bb.x.e] 45)) gx 45 #[.slice Ao bb.os.length co, .int .i64 bb.x.k, .int .i64 bb.x.a, .int .i64 bb.x.d, .int .i64 bb.x.t, .int .i64 bb.x.e] from
    ⟨hs1.below hal, hb1.trans (below_of_le hal hb1.size), by rw [← hgx]; exact Blk.new _ _ _⟩)
  have hgne : gx ≠ g := by have := hs1.lt; omega
  clear hb1 hs1 hal HEN
  go_wp2_with fail
  refine (HEX.out _).mono ?_
  rintro e w2 ⟨⟨rv, v2, rfl, ⟨hrv, hfr⟩, -⟩, hb2⟩
  obtain ⟨Ar, cr, rfl, q1, q2⟩ := hrv.form
  unfold maxLen at q2
  have HS3 := Lib.hid (show SetAt w2 g (endP F ins b) m ∧ Below w.heap.size w w2 ∧ Blk w2 gx 45 #[.slice Ao bb.os.length co, .int .i64 bb.x.k, .int .i64 bb.x.a, .int .i64 bb.x.d, .int .i64 bb.x.t, .int .i64 bb.x.e] from
    ⟨HS2.out.1.below hb2, HS2.out.2.1.trans (below_of_le hb2 HS2.out.2.1.size), HS2.out.2.2.below hb2 HS2.out.2.2.lt⟩)
  have HRV := Lib.hid hrv
  have HFR := Lib.hid (show ∀ q, (Value.slice Ar (exR bb.x).length cr).ownBlock = some q → ¬ q = g from fun q hq => by
    have h5 := hfr q hq
    have h6 := HS2.out.1.lt
    omega)
  obtain ⟨rs, hrs⟩ : ∃ rs, exR bb.x = rs := ⟨_, rfl⟩
  rw [hrs] at HRV HFR HX HPT q1
  rw [hrs]
  clear hrv hfr hb2 x0 x1 x2 x3 x4 x5 HS2 hrs y0 y4
  go_wp2_with fail
  go_loopw [38] (fun i wr => ∃ j : Nat, j ≤ rs.length ∧ i = .int .i64 j ∧ Hid (SetAt wr g ((rs.take j).foldl putI (endP F ins b)) m ∧ Below w.heap.size w wr ∧ Blk wr gx 45 #[.slice Ao bb.os.length co, .int .i64 bb.x.k, .int .i64 bb.x.a, .int .i64 bb.x.d, .int .i64 bb.x.t, .int .i64 bb.x.e] ∧ Ints wr (.slice Ar rs.length cr) rs)) (fun i _ => rs.length - (intOf i).toNat)
  case atStart => exact ⟨0, Nat.zero_le _, rfl, HS3.out.1, HS3.out.2.1, HS3.out.2.2, HRV.out⟩
  case round =>
    clear HS3 HRV
    obtain ⟨j, hj, rfl, HW⟩ := hrel
    by_cases hjt : j < rs.length
    · obtain ⟨gt, ot, ct, ea, t1, t2, tg, tc⟩ := HW.out.2.2.2.open_ (Nat.lt_of_le_of_lt (Nat.zero_le _) hjt)
      cases ea
      have c0 := tc j hjt
      have htt := HX.out rs[j] (List.getElem_mem hjt)
      have hst := foldS_step putI rs (endP F ins b) hjt
      obtain ⟨t, ht⟩ : ∃ t : Nat, rs[j] = (t : Int) := ⟨rs[j].toNat, by omega⟩
      rw [ht] at c0 htt hst
      have HPU := Lib.hid (put_any g _ m t wr HW.out.1 (by omega))
      have HST := Lib.hid (show (rs.take (j + 1)).foldl putI (endP F ins b) = putW ((rs.take j).foldl putI (endP F ins b)) t by rw [hst, putI, show ((t : Int)).toNat = t by omega])
      clear tc htt hst ht
      go_wp2_with fail
      refine HPU.out.mono ?_
      rintro e w4 ⟨rfl, hs4, hk4⟩
      have HN := Lib.hid (show SetAt w4 g ((rs.take (j + 1)).foldl putI (endP F ins b)) m ∧ Below w.heap.size w w4 ∧ Blk w4 gx 45 #[.slice Ao bb.os.length co, .int .i64 bb.x.k, .int .i64 bb.x.a, .int .i64 bb.x.d, .int .i64 bb.x.t, .int .i64 bb.x.e] ∧ Ints w4 (.slice (some ⟨gt, ot, none⟩) rs.length cr) rs from
        ⟨by rw [HST.out]; exact hs4, HW.out.2.1.trans (hk4.toBelow HW.out.2.1.size (fun k hk => by omega)), HW.out.2.2.1.keeps hk4 hgne, HW.out.2.2.2.keeps hk4 HFR.out⟩)
      clear hs4 hk4 HW HPU
      go_wp2_with fail
      go_roundw
      case rel => exact ⟨j + 1, by omega, by go_num, HN.out⟩
      case measure => simp [intOf]; omega
    · have hje : j = rs.length := by omega
      subst hje
      have HS := Lib.hid HW.out
      rw [List.take_length] at HS
      clear HW
      have f0 : wr.cell? ⟨gx, 0, none⟩ = some (.slice Ao bb.os.length co) := (HS.out.2.2.1.cell 0).trans rfl
      obtain ⟨s0', hs0'⟩ : ∃ s, rs.foldl putI (endP F ins b) = s := ⟨_, rfl⟩
      rw [hs0'] at HS HPT
      clear hs0'
      have hol := HOL.out
      have hw1 : wrap64 ((bb.os.length : Int) - 1) = (bb.os.length : Int) - 1 := by
        unfold wrap64; omega
      go_wp2_with fail
      try rw [hw1]
      clear hw1
      go_loopw [15] (fun i wr => ∃ j : Nat, j ≤ bb.os.length ∧ i = .int .i64 ((j : Int) - 1) ∧ Hid (SetAt wr g (bkF F sec (bb.os.drop j) s0') m ∧ Below w.heap.size w wr ∧ Blk wr gx 45 #[.slice Ao bb.os.length co, .int .i64 bb.x.k, .int .i64 bb.x.a, .int .i64 bb.x.d, .int .i64 bb.x.t, .int .i64 bb.x.e])) (fun i _ => (intOf i + 1).toNat)
      case atStart => exact ⟨bb.os.length, Nat.le_refl _, rfl, by rw [List.drop_eq_nil_of_le (Nat.le_refl _)]; exact HS.out.1, HS.out.2.1, HS.out.2.2.1⟩
      case round =>
        clear f0
        have HGE := Lib.hid hge
        obtain ⟨j, hj, rfl, HW⟩ := hrel
        cases j with
        | zero =>
          have HF := Lib.hid HW.out.1
          rw [List.drop_zero, ← HPT.out] at HF
          go_wp2_with fail
          go_ret
          exact ⟨⟨_, rfl, HGE.out, by rw [HM.out]; exact HF.out⟩, HW.out.2.1⟩
        | succ j =>
          have hej : (((j + 1 : Nat) : Int) - 1) = (j : Int) := by omega
          rw [hej]
          have hjl : j < bb.os.length := by omega
          have f0 : wr.cell? ⟨gx, 0, none⟩ = some (.slice Ao bb.os.length co) := (HW.out.2.2.cell 0).trans rfl
          obtain ⟨go_, oo, co', ea, t1, t2, tg, tc⟩ := HS6.out.open_ (Nat.lt_of_le_of_lt (Nat.zero_le _) hjl)
          cases ea
          obtain ⟨av, hcc⟩ := tc j hjl
          have hon := HO.out bb.os[j] (List.getElem_mem hjl)
          have hst := bkF_step F sec bb.os s0' hjl
          obtain ⟨o, ho⟩ : ∃ o, bb.os[j] = o := ⟨_, rfl⟩
          rw [ho] at hcc hon hst
          obtain ⟨d0, d1, d2, d3, d4, d5, d6, dar⟩ := hcc
          have z0 := (HW.out.2.1.cell (p := ⟨go_, oo + j * 7, none⟩) tg).trans d0
          have z1 := (HW.out.2.1.cell (p := ⟨go_, oo + j * 7 + 1, none⟩) tg).trans d1
          have z2 := (HW.out.2.1.cell (p := ⟨go_, oo + j * 7 + 2, none⟩) tg).trans d2
          have z3 := (HW.out.2.1.cell (p := ⟨go_, oo + j * 7 + 3, none⟩) tg).trans d3
          have z4 := (HW.out.2.1.cell (p := ⟨go_, oo + j * 7 + 4, none⟩) tg).trans d4
          have z5 := (HW.out.2.1.cell (p := ⟨go_, oo + j * 7 + 5, none⟩) tg).trans d5
          have z6 := (HW.out.2.1.cell (p := ⟨go_, oo + j * 7 + 6, none⟩) tg).trans d6
          have HBK := Lib.hid (back_any F g gc _ sec m o av wr HM.out hrs2 HW.out.1 (HC.out.below HW.out.2.1) (by have := HC.out.lt; omega) (dar.below HW.out.2.1) (HL.out.fi.ke.below HW.out.2.1) hon.2.2 hon.2.1 hon.1 (by have := HKL.out; omega) (fun hp q hq => by have := ints_blk_lt dar hp q hq; omega))
          have HST := Lib.hid hst
          have hge' : (0 : Int) ≤ (j : Int) := by omega
          have hw2 : wrap64 ((j : Int) - 1) = (j : Int) - 1 := by
            unfold wrap64; omega
          unfold opv at HBK
          clear tc d0 d1 d2 d3 d4 d5 d6 dar hon hst ho
          go_wp2_with fail
          refine HBK.out.mono ?_
          rintro e w4 ⟨rfl, hs4, hk4⟩
          have HN := Lib.hid (show SetAt w4 g (bkF F sec (bb.os.drop j) s0') m ∧ Below w.heap.size w w4 ∧ Blk w4 gx 45 #[.slice (some ⟨go_, oo, none⟩) bb.os.length co, .int .i64 bb.x.k, .int .i64 bb.x.a, .int .i64 bb.x.d, .int .i64 bb.x.t, .int .i64 bb.x.e] from
            ⟨by rw [HST.out]; exact hs4, HW.out.2.1.trans (hk4.toBelow HW.out.2.1.size (fun k hk => by omega)), HW.out.2.2.keeps hk4 hgne⟩)
          clear hs4 hk4 HW HBK
          go_wp2_with fail
          try rw [hw2]
          go_roundw
          case rel => exact ⟨j, by omega, rfl, HN.out⟩
          case measure => simp [intOf]
end Go.Proofs.YtlmoblmkhicoeaaGreatDoor
