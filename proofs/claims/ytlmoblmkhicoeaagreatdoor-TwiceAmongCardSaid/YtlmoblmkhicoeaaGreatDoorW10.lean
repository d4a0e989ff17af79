/- Walks: twice.between. Conditions: a pass, a set. -/
import Derived.Test.YtlmoblmkhicoeaaGreatDoorW9
set_option linter.unusedVariables false
set_option linter.unusedSimpArgs false
namespace Go.Proofs.YtlmoblmkhicoeaaGreatDoor
open Go.RowKit
theorem btF_nil (F : Fn) : ∀ (f : Nat) (s : Bt), s.td = [] → btF F f s = s
  | 0, _, _ => rfl
  | f + 1, s, h => by rw [btF, if_pos h]
set_option maxRecDepth 100000 in
set_option maxHeartbeats 8000000 in
theorem between_any (gp : Nat) (F : Fn) (sv bv rv tov inv ouv : Value) (b : Nat) (hb : b < F.bl.length) (hk4 : (blk F b).x.k = 4) (w : World) (h : PassAt w gp F sv bv rv tov inv ouv) :
    Calls Tryz.prog 28 #[.pointer (some ⟨gp, 0, none⟩), .int .i64 b] w fun e w' => (∃ g, e = .returned (.slice (some ⟨g, 0, none⟩) F.rs.toNat F.rs.toNat) ∧ w.heap.size ≤ g ∧ BRow w' g (btL F b) ∧ (btL F b).length = F.rs.toNat) ∧ Below w.heap.size w w' := by
  have hn2 := h.ok.b2
  have hr1 := h.ok.r1
  have hr0 := h.ok.rs0
  obtain ⟨⟨e1, e2⟩, ⟨e3, e4⟩, e5, e6⟩ := set_ok h.ok hb hk4
  have HPA := Lib.hid h
  obtain ⟨g2, o2, c2, Ao, co, rfl, r1, r2, r3, r4⟩ := h.bl_ hb
  obtain ⟨R, hR⟩ : ∃ R, F.rs.toNat = R := ⟨_, rfl⟩
  have hRI : F.rs = (R : Int) := by omega
  have HRR := Lib.hid (And.intro hR hRI)
  have p4 : w.cell? ⟨gp, 4, none⟩ = some (.slice (some ⟨g2, o2, none⟩) F.bl.length c2) := (h.pb.cell 4).trans rfl
  have p2 : w.cell? ⟨gp, 2, none⟩ = some (.int .i64 (R : Int)) := (h.pb.cell 2).trans (by rw [← hRI]; rfl)
  have HFIN := Lib.hid (show btL F b = (btF F (3 * F.bl.length + 2) ⟨List.replicate F.bl.length false, List.replicate R false, [(blk F b).x.t, (blk F b).x.e]⟩).ou from by rw [btL, bt0, hR])
  obtain ⟨fin, hfin⟩ : ∃ fin, btF F (3 * F.bl.length + 2) ⟨List.replicate F.bl.length false, List.replicate R false, [(blk F b).x.t, (blk F b).x.e]⟩ = fin := ⟨_, rfl⟩
  rw [hfin] at HFIN
  have HF0 := Lib.hid hfin
  have hm0 : btM ⟨List.replicate F.bl.length false, List.replicate R false, [(blk F b).x.t, (blk F b).x.e]⟩ ≤ 3 * F.bl.length + 2 := by
    have := falses_le (List.replicate F.bl.length false)
    rw [List.length_replicate] at this
    unfold btM
    simp only [List.length_cons, List.length_nil]
    omega
  have HM0 := Lib.hid hm0
  have hRl : R ≤ 4096 := by omega
  obtain ⟨bb, hbb⟩ : ∃ bb, blk F b = bb := ⟨_, rfl⟩
  rw [hbb] at r4 e1 e2 e3 e4 HF0 HM0
  obtain ⟨s0, s1, s2, s3, s4, s5, s6⟩ := r4
  have hmk1 := fun W => make_bools F.bl.length (by omega) W
  have hmk2 := fun W => make_set R (by omega) W
  have hlt : (b : Int) < (F.bl.length : Int) := by omega
  have hal1 := below1 w (.cells (Array.replicate F.bl.length (.bool false)) 4)
  have hal2 := below2 w (.cells (Array.replicate F.bl.length (.bool false)) 4) (.cells (Array.replicate R (.bool false)) 4)
  have z4 := cell_al (cell_al p4 (.cells (Array.replicate F.bl.length (.bool false)) 4)) (.cells (Array.replicate R (.bool false)) 4)
  have z2 := cell_al p2 (.cells (Array.replicate F.bl.length (.bool false)) 4)
  have y1 := cell_al (cell_al s1 (.cells (Array.replicate F.bl.length (.bool false)) 4)) (.cells (Array.replicate R (.bool false)) 4)
  have y2 := cell_al (cell_al s2 (.cells (Array.replicate F.bl.length (.bool false)) 4)) (.cells (Array.replicate R (.bool false)) 4)
  have y3 := cell_al (cell_al s3 (.cells (Array.replicate F.bl.length (.bool false)) 4)) (.cells (Array.replicate R (.bool false)) 4)
  have y4 := cell_al (cell_al s4 (.cells (Array.replicate F.bl.length (.bool false)) 4)) (.cells (Array.replicate R (.bool false)) 4)
  have y5 := cell_al (cell_al s5 (.cells (Array.replicate F.bl.length (.bool false)) 4)) (.cells (Array.replicate R (.bool false)) 4)
  have HW := Lib.hid (show BtW w w.heap.size (w.heap.size + 1) F.bl.length R (.slice (some ⟨w.heap.size + 1 + 1 + 1, 0, none⟩) 2 2) ⟨List.replicate F.bl.length false, List.replicate R false, [bb.x.t, bb.x.e]⟩ ((((w.alloc (.cells (Array.replicate F.bl.length (.bool false)) 4)).alloc (.cells (Array.replicate R (.bool false)) 4)).alloc (.cells #[.int .i64 bb.x.k, .int .i64 bb.x.a, .int .i64 bb.x.d, .int .i64 bb.x.t, .int .i64 bb.x.e] 43)).alloc (.cells #[.int .i64 bb.x.t, .int .i64 bb.x.e] 3)) from by
    have b0 : BRow ((w.alloc (.cells (Array.replicate F.bl.length (.bool false)) 4)).alloc (.cells (Array.replicate R (.bool false)) 4)) (w.heap.size + 1) (List.replicate R false) := ⟨_, blk_at (w := w.alloc _) (by simp [World.size_alloc]) 4 _, by simp [bv]⟩
    have b1 := (BRow.made w F.bl.length).below (below1 _ (.cells (Array.replicate R (.bool false)) 4))
    have b3 := below2 ((w.alloc (.cells (Array.replicate F.bl.length (.bool false)) 4)).alloc (.cells (Array.replicate R (.bool false)) 4)) (.cells #[.int .i64 bb.x.k, .int .i64 bb.x.a, .int .i64 bb.x.d, .int .i64 bb.x.t, .int .i64 bb.x.e] 43) (.cells #[.int .i64 bb.x.t, .int .i64 bb.x.e] 3)
    refine ⟨b1.below b3, b0.below b3, OwnI.new (blk_at (w := ((w.alloc _).alloc _).alloc _) (by simp [World.size_alloc]) 3 _) rfl rfl (by omega) (by decide), hal2.trans (below_of_le b3 hal2.size), by simp, by simp, fun t ht => ?_, by omega, Nat.le_refl _, by omega⟩
    simp only [List.mem_cons, List.not_mem_nil, or_false] at ht
    rcases ht with rfl | rfl <;> omega)
  clear h hfin hm0 hbb s6 hal1 hal2 e1 e2 e3 e4 e5 e6 hR hRI hr0 hr1
  go_enter Tryz.func28, Tryz.ntmps28
  go_wp2_with fail
  go_loopg [8] (3 * F.bl.length + 2) (fun f tdv wr => ∃ s : Bt, Hid (BtW w w.heap.size (w.heap.size + 1) F.bl.length R tdv s wr) ∧ Hid (btM s ≤ f ∧ btF F f s = fin ∧ btM s ≤ 12290))
  case atStart => exact ⟨_, HW.out, HM0.out, HF0.out, by have := HM0.out; omega⟩
  case round =>
    clear HW HM0 HF0 z4 z2 y1 y2 y3 y4 y5 s0 s1 s2 s3 s4 s5 p4 p2 hmk1 hmk2 hlt
    obtain ⟨s, HW, HM⟩ := hrel
    by_cases he : s.td = []
    · obtain ⟨At, ct, rfl, q1, q2⟩ := HW.out.td.form
      have hl0 : s.td.length = 0 := by rw [he]; rfl
      have hfin : s = fin := by rw [← HM.out.2.1, btF_nil F _ s he]
      rw [hl0]
      have HN := Lib.hid (show (w.heap.size ≤ w.heap.size + 1 ∧ BRow wr (w.heap.size + 1) (btL F b) ∧ (btL F b).length = R) ∧ Below w.heap.size w wr from by
        have h1 := HW.out.ou
        have h2 := HW.out.lo
        rw [hfin, ← HFIN.out] at h1 h2
        exact ⟨⟨by omega, h1, h2⟩, HW.out.be⟩)
      clear HW HM hfin
      go_wp2_with fail
      go_ret
      exact ⟨⟨w.heap.size + 1, by rw [HRR.out.1]; rfl, HN.out.1.1, HN.out.1.2.1, by rw [HRR.out.1]; exact HN.out.1.2.2⟩, HN.out.2⟩
    · obtain ⟨gt, cap, m, hm, rfl, q1, q2, cl, hpop⟩ := HW.out.td.pop he
      unfold maxLen at q2
      obtain ⟨f, hf⟩ : ∃ f, gk = f + 1 := by
        refine ⟨gk - 1, ?_⟩
        have h5 := HM.out.1
        unfold btM at h5
        omega
      subst hf
      have hk0 : (s.td.getLastD 0) ∈ s.td := by
        rw [List.getLastD_eq_getLast?, List.getLast?_eq_some_getLast he]; exact List.getLast_mem he
      have hkr := HW.out.rg _ hk0
      obtain ⟨k, hk⟩ : ∃ k : Nat, s.td.getLastD 0 = (k : Int) := ⟨(s.td.getLastD 0).toNat, by omega⟩
      rw [hk] at hkr cl
      have hkn : k < F.bl.length := by omega
      have hkt : (s.td.getLastD 0).toNat = k := by rw [hk]; omega
      have hmst : btM (btStep F s) ≤ f := by
        have h6 := btStep_M (F := F) (s := s) (by rw [HW.out.ln]; exact HW.out.rg) he
        have h7 := HM.out.1
        omega
      have HST := Lib.hid (show btM (btStep F s) ≤ f ∧ btF F f (btStep F s) = fin ∧ btM (btStep F s) ≤ 12290 from ⟨hmst, by rw [← HM.out.2.1, btF, if_neg he], by
        have h6 := btStep_M (F := F) (s := s) (by rw [HW.out.ln]; exact HW.out.rg) he
        have h7 := HM.out.2.2
        omega⟩)
      obtain ⟨sb, hsb, ck⟩ := HW.out.se.val k (by rw [HW.out.ln]; exact hkn)
      have fk := HW.out.se.frozen k
      have HTL := Lib.hid (show s.td.dropLast.length ≤ 16384 from by
        have h7 := HM.out.2.2
        unfold btM at h7
        rw [List.length_dropLast]
        omega)
      have HWP := Lib.hid (show BtW w w.heap.size (w.heap.size + 1) F.bl.length R (.slice (some ⟨gt, 0, none⟩) m cap) ⟨s.se, s.ou, s.td.dropLast⟩ wr from ⟨HW.out.se, HW.out.ou, hpop, HW.out.be, HW.out.ln, HW.out.lo, fun t ht => HW.out.rg t (List.dropLast_subset _ ht), HW.out.ne, HW.out.bS, HW.out.bO⟩)
      cases sb with
      | true =>
        have HN := Lib.hid (show btStep F s = ⟨s.se, s.ou, s.td.dropLast⟩ from by rw [btStep, hkt, if_pos hsb])
        rw [HN.out] at HST
        clear HW HM hpop hm hk0 hkr hk hkt hmst hsb he
        go_wp2_with fail
        go_roundg f
        case rel => exact ⟨_, HWP.out, HST.out⟩
        case measure => omega
      | false =>
        have hstep : btStep F s = ⟨s.se.set k true, btX (blk F k).x (btO (blk F k).os s.ou), s.td.dropLast ++ (edgL F).getD k []⟩ := by
          rw [btStep, hkt, if_neg (by rw [hsb]; decide)]
        rw [hstep] at HST
        obtain ⟨td1, htd1⟩ : ∃ td1, s.td.dropLast = td1 := ⟨_, rfl⟩
        rw [htd1] at HST HTL HWP
        have HW1 := Lib.hid (HWP.out.setS k)
        obtain ⟨se1, hse1⟩ : ∃ se1, s.se.set k true = se1 := ⟨_, rfl⟩
        obtain ⟨ou, hou⟩ : ∃ ou, s.ou = ou := ⟨_, rfl⟩
        have HW2 := Lib.hid (show BtW w w.heap.size (w.heap.size + 1) F.bl.length R (.slice (some ⟨gt, 0, none⟩) m cap) ⟨se1, ou, td1⟩ (wr.setCell ⟨w.heap.size, k, none⟩ (.bool true)) from by rw [← hse1, ← hou]; exact HW1.out)
        rw [hse1, hou] at HST
        have hP2 := HPA.out.below HW2.out.be
        obtain ⟨gb, ob, cb, Ab, nb, eb, t1, t2, t3, t4⟩ := HPA.out.bl_ hkn
        cases eb
        have x4 : (wr.setCell ⟨w.heap.size, k, none⟩ (.bool true)).cell? ⟨gp, 4, none⟩ = some (.slice (some ⟨g2, o2, none⟩) F.bl.length c2) := (hP2.pb.cell 4).trans rfl
        have hol : (blk F k).os.length ≤ 4096 := by rw [blk_at_ hkn]; exact hP2.ok.ol _ (List.getElem_mem hkn)
        have HOD := Lib.hid (show ∀ o ∈ (blk F k).os, 0 ≤ o.d → o.d < (R : Int) from by
          intro o ho h0
          rw [blk_at_ hkn] at ho
          have h9 := (opB_parts (hP2.ok.op _ (List.getElem_mem hkn) o ho)).2.1 h0
          rw [HRR.out.2] at h9
          exact h9)
        have HXD := Lib.hid (show (blk F k).x.k = 4 → 0 ≤ (blk F k).x.d ∧ (blk F k).x.d < (R : Int) from fun h4 => by
          have h9 := (set_ok hP2.ok hkn h4).2.2
          rw [HRR.out.2] at h9
          exact h9)
        obtain ⟨bk, hbk⟩ : ∃ bk, blk F k = bk := ⟨_, rfl⟩
        have HBK := Lib.hid hbk
        rw [hbk] at HST t4 hol HOD HXD
        have HBC := Lib.hid t4
        have v0 := (HW2.out.be.cell (p := ⟨g2, o2 + k * 6, none⟩) r3).trans t4.c0
        have HO := Lib.hid t4.os
        clear HW HM hpop hm hk0 hkr hk hkt hmst hsb he hstep htd1 hse1 hou HWP HW1 hbk t1 t2 t3 t4 hP2
        go_wp2_with fail
        go_loopw [71] (fun i wq => ∃ j : Nat, j ≤ bk.os.length ∧ i = .int .i64 j ∧ Hid (BtW w w.heap.size (w.heap.size + 1) F.bl.length R (.slice (some ⟨gt, 0, none⟩) m cap) ⟨se1, btO (bk.os.take j) ou, td1⟩ wq)) (fun i _ => bk.os.length - (intOf i).toNat)
        case atStart => exact ⟨0, Nat.zero_le _, rfl, HW2.out⟩
        case round =>
          clear ck fk cl x4 v0
          obtain ⟨j, hj, rfl, HQ⟩ := hrel
          by_cases hjt : j < bk.os.length
          · have hBj := HQ.out.be
            obtain ⟨ga, oa, ca, ea, q3, q4, qg, qc⟩ := HO.out.open_ (Nat.lt_of_le_of_lt (Nat.zero_le _) hjt)
            cases ea
            obtain ⟨av, d0, d1, d2, d3, d4, d5, d6, dar⟩ := qc j hjt
            obtain ⟨Aa, caa, rfl, -, -⟩ := dar.form
            have hod := HOD.out bk.os[j] (List.getElem_mem hjt)
            have hst := btO_step bk.os ou hjt
            obtain ⟨o, ho⟩ : ∃ o, bk.os[j] = o := ⟨_, rfl⟩
            rw [ho] at d0 d1 d2 d3 d4 d5 d6 hod hst
            have x0 := (hBj.cell (p := ⟨ga, oa + j * 7, none⟩) qg).trans d0
            have x1 := (hBj.cell (p := ⟨ga, oa + j * 7 + 1, none⟩) qg).trans d1
            have x2 := (hBj.cell (p := ⟨ga, oa + j * 7 + 2, none⟩) qg).trans d2
            have x3 := (hBj.cell (p := ⟨ga, oa + j * 7 + 3, none⟩) qg).trans d3
            have x4 := (hBj.cell (p := ⟨ga, oa + j * 7 + 4, none⟩) qg).trans d4
            have x5 := (hBj.cell (p := ⟨ga, oa + j * 7 + 5, none⟩) qg).trans d5
            have x6 := (hBj.cell (p := ⟨ga, oa + j * 7 + 6, none⟩) qg).trans d6
            have hal := below1 wr (.cells #[.int .i64 o.k, .int .i64 o.d, .int .i64 o.a, .int .i64 o.b, .int .i64 o.im, .string o.tx, .slice Aa o.ar.length caa] 75)
            have HQ3 := Lib.hid (HQ.out.below hal)
            clear d0 d1 d2 d3 d4 d5 d6 dar ho qc HQ hBj hal
            by_cases hd : 0 ≤ o.d
            · have hdl := hod hd
              obtain ⟨dn, hdn⟩ : ∃ dn : Nat, o.d = (dn : Int) := ⟨o.d.toNat, by omega⟩
              have hN : btO (bk.os.take (j + 1)) ou = (btO (bk.os.take j) ou).set dn true := by rw [hst, btS, if_pos hd, hdn]; rfl
              rw [hdn] at x1 HQ3 hdl
              have hge : (0 : Int) ≤ (dn : Int) := by omega
              have hdR : dn < R := by omega
              obtain ⟨ob, hob, w0⟩ := HQ3.out.ou.val dn (by rw [HQ3.out.lo]; exact hdR)
              have f0 := HQ3.out.ou.frozen dn
              have HN := Lib.hid (show BtW w w.heap.size (w.heap.size + 1) F.bl.length R (.slice (some ⟨gt, 0, none⟩) m cap) ⟨se1, btO (bk.os.take (j + 1)) ou, td1⟩ _ from by rw [hN]; exact HQ3.out.setO dn)
              clear hN hst hob hod hd hdn HQ3
              go_wp2_with fail
              go_roundw
              case rel => exact ⟨j + 1, by omega, by go_num, HN.out⟩
              case measure => simp [intOf]; omega
            · have HN := Lib.hid (show btO (bk.os.take (j + 1)) ou = btO (bk.os.take j) ou from by rw [hst, btS, if_neg hd])
              clear hst hod
              go_wp2_with fail
              go_roundw
              case rel => exact ⟨j + 1, by omega, by go_num, by rw [HN.out]; exact HQ3.out⟩
              case measure => simp [intOf]; omega
          · have hje : j = bk.os.length := by omega
            subst hje
            have HQ2 := Lib.hid HQ.out
            rw [List.take_length] at HQ2
            have hP3 := HPA.out.below HQ2.out.be
            have x4 : wr.cell? ⟨gp, 4, none⟩ = some (.slice (some ⟨g2, o2, none⟩) F.bl.length c2) := (hP3.pb.cell 4).trans rfl
            have v1 := (HQ2.out.be.cell (p := ⟨g2, o2 + k * 6 + 1, none⟩) r3).trans HBC.out.c1
            have v2 := (HQ2.out.be.cell (p := ⟨g2, o2 + k * 6 + 2, none⟩) r3).trans HBC.out.c2
            have v3 := (HQ2.out.be.cell (p := ⟨g2, o2 + k * 6 + 3, none⟩) r3).trans HBC.out.c3
            have v4 := (HQ2.out.be.cell (p := ⟨g2, o2 + k * 6 + 4, none⟩) r3).trans HBC.out.c4
            have v5 := (HQ2.out.be.cell (p := ⟨g2, o2 + k * 6 + 5, none⟩) r3).trans HBC.out.c5
            have hal := below1 wr (.cells #[.int .i64 bk.x.k, .int .i64 bk.x.a, .int .i64 bk.x.d, .int .i64 bk.x.t, .int .i64 bk.x.e] 43)
            have HQ3 := Lib.hid (HQ2.out.below hal)
            clear HQ HQ2 hal hP3
            cases hx4 : (bk.x.k == 4) with
            | false =>
              have hbx : btX bk.x (btO bk.os ou) = btO bk.os ou := by rw [btX, hx4]; rfl
              rw [hbx] at HST
              have HW5 := HQ3
              clear hbx
              have hB5 := HW5.out.be
              have hP5 := HPA.out.below hB5
              obtain ⟨g5, o5, c5, A5, n5, e5, y1, y2, y3, y4, y5, y6⟩ := row_ hP5.ed (edgL_len F) hkn
              have q6 : (wr.alloc (.cells #[.int .i64 bk.x.k, .int .i64 bk.x.a, .int .i64 bk.x.d, .int .i64 bk.x.t, .int .i64 bk.x.e] 43)).cell? ⟨gp, 6, none⟩ = some (.slice (some ⟨g5, o5, none⟩) F.bl.length c5) := (hP5.pb.cell 6).trans (by rw [← e5]; rfl)
              have hml := edgL_two (F := F) k
              have hmm := edgL_mem hP5.ok k
              obtain ⟨ml, hmle⟩ : ∃ ml, (edgL F).getD k [] = ml := ⟨_, rfl⟩
              rw [hmle] at y3 y4 y5 hml hmm HST
              obtain ⟨A6, n6, c6, W6, hap, hn6, hw6⟩ := HW5.out.app y4 (fun t ht => by have := hmm t ht; omega) (by have := HTL.out; show td1.length + ml.length ≤ _; omega) 34
              have HAP := Lib.hid hap
              have HW6 := Lib.hid hw6
              have HN6 := Lib.hid hn6
              have hk5 : k < F.bl.length := hkn
              clear hap hw6 hn6 hB5 hP5 y4 hmle hmm e5
              go_wp2_with (at_builtin; refine wpList_append_eq rfl (.tmp 104) (.tmp 111) 34 rfl rfl rfl HAP.out ?_)
              go_roundg f
              case rel => exact ⟨_, HW6.out, HST.out⟩
              case measure => omega
            | true =>
              obtain ⟨hx0, hx1⟩ := HXD.out (eq_of_beq hx4)
              obtain ⟨dn, hdn⟩ : ∃ dn : Nat, bk.x.d = (dn : Int) := ⟨bk.x.d.toNat, by omega⟩
              have hbx : btX bk.x (btO bk.os ou) = (btO bk.os ou).set dn true := by rw [btX, hx4, hdn]; simp
              rw [hbx] at HST
              rw [hdn] at v3 HQ3 hx0 hx1
              have hdR : dn < R := by omega
              obtain ⟨ob, hob, w0⟩ := HQ3.out.ou.val dn (by rw [HQ3.out.lo]; exact hdR)
              have f0 := HQ3.out.ou.frozen dn
              have HW5 := Lib.hid (HQ3.out.setO dn)
              clear hbx hob hdn HQ3
              have hB5 := HW5.out.be
              have hP5 := HPA.out.below hB5
              obtain ⟨g5, o5, c5, A5, n5, e5, y1, y2, y3, y4, y5, y6⟩ := row_ hP5.ed (edgL_len F) hkn
              have q6 : ((wr.alloc (.cells #[.int .i64 bk.x.k, .int .i64 bk.x.a, .int .i64 (dn : Int), .int .i64 bk.x.t, .int .i64 bk.x.e] 43)).setCell ⟨w.heap.size + 1, dn, none⟩ (.bool true)).cell? ⟨gp, 6, none⟩ = some (.slice (some ⟨g5, o5, none⟩) F.bl.length c5) := (hP5.pb.cell 6).trans (by rw [← e5]; rfl)
              have hml := edgL_two (F := F) k
              have hmm := edgL_mem hP5.ok k
              obtain ⟨ml, hmle⟩ : ∃ ml, (edgL F).getD k [] = ml := ⟨_, rfl⟩
              rw [hmle] at y3 y4 y5 hml hmm HST
              obtain ⟨A6, n6, c6, W6, hap, hn6, hw6⟩ := HW5.out.app y4 (fun t ht => by have := hmm t ht; omega) (by have := HTL.out; show td1.length + ml.length ≤ _; omega) 34
              have HAP := Lib.hid hap
              have HW6 := Lib.hid hw6
              have HN6 := Lib.hid hn6
              have hk5 : k < F.bl.length := hkn
              clear hap hw6 hn6 hB5 hP5 y4 hmle hmm e5
              go_wp2_with (at_builtin; refine wpList_append_eq rfl (.tmp 104) (.tmp 111) 34 rfl rfl rfl HAP.out ?_)
              go_roundg f
              case rel => exact ⟨_, HW6.out, HST.out⟩
              case measure => omega
end Go.Proofs.YtlmoblmkhicoeaaGreatDoor
