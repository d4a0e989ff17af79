/- Walks: twice.unset. Conditions: a pass. -/
import Derived.Test.YtlmoblmkhicoeaaGreatDoorU2
set_option linter.unusedVariables false
set_option linter.unusedSimpArgs false
namespace Go.Proofs.YtlmoblmkhicoeaaGreatDoor
open Go.RowKit
theorem und64 : Tryz.prog.underlying 64 = some (.slice 66) := by kernel_rfl
theorem inf66 : (Tryz.prog.info? 66).map (fun i => (i.zero, i.size, i.bytes)) = some (some (.slice none 0 0), 1, 24) := by kernel_rfl
theorem make_sets (n : Nat) (hn : n ≤ 16777216) (w : World) : (Instr.makeSlice 64 (.int .i64 (n : Int)) (.int .i64 (n : Int))).run Tryz.prog w = .ok (.slice (some ⟨w.heap.size, 0, none⟩) n n) (w.alloc (.cells (Array.replicate n (.slice none 0 0)) 66)) :=
  made_one und64 inf66 rfl (by decide) n hn w
theorem unI_get0 {F : Fn} (h : FnOk F) : (unZ F).getD 0 [] = ini F.rs.toNat F.ps.toNat 0 := by
  have hl : 0 < (unZ F).length := by simp [unZ]; exact h.b1
  have e : (unZ F).getD 0 [] = (unZ F)[0] := by simp [hl]
  rw [e]
  simp only [unZ, List.getElem_map, List.getElem_range, h.rch.2.1, if_true]
  rfl
theorem unZ_len (F : Fn) : (unZ F).length = F.bl.length := by simp [unZ]
theorem set_getD0 {l : List (List Bool)} (h : 0 < l.length) : l.set 0 (l.getD 0 []) = l := by
  have e : l.getD 0 [] = l[0] := by simp [h]
  rw [e, List.set_getElem_self]
theorem unI_ok {F : Fn} (h : FnOk F) : UnOk F (unI F) := by
  have h0 : UnOk F (unZ F) := ⟨unZ_len F, fun b hb hr => by
    have hl : b < (unZ F).length := by rw [unZ_len]; exact hb
    have e : (unZ F).getD b [] = (unZ F)[b] := by simp [hl]
    rw [e]
    simp only [unZ, List.getElem_map, List.getElem_range, hr, if_true, List.length_replicate], fun b hb hr => by
    have hl : b < (unZ F).length := by rw [unZ_len]; exact hb
    have e : (unZ F).getD b [] = (unZ F)[b] := by simp [hl]
    rw [e]
    simp only [unZ, List.getElem_map, List.getElem_range, hr, Bool.false_eq_true, if_false]⟩
  exact h0.set_ 0 h.rch.2.1 (ini_len _ _ _)
set_option maxRecDepth 100000 in
set_option maxHeartbeats 16000000 in
theorem unset_any (gp : Nat) (F : Fn) (sv bv rv tov inv ouv : Value) (w : World) (h : PassAt w gp F sv bv rv tov inv ouv) :
    Calls Tryz.prog 17 #[.pointer (some ⟨gp, 0, none⟩)] w fun e w' => (∃ gI gs, e = .returned (.slice (some ⟨gI, 0, none⟩) F.bl.length F.bl.length) ∧ UnW w F gI F.bl.length gs (unL F) w' ∧ UnOk F (unL F)) ∧ Below w.heap.size w w' := by
  have hn1 := h.ok.b1
  have hn2 := h.ok.b2
  have hr1 := h.ok.r1
  have hr0 := h.ok.rs0
  have hp0 := h.ok.p0
  have hpr := h.ok.pr
  have HPA := Lib.hid h
  obtain ⟨g2, o2, c2, Ao, co, rfl, r1, r2, r3, -⟩ := h.bl_ (b := 0) (by omega)
  obtain ⟨R, hR⟩ : ∃ R, F.rs.toNat = R := ⟨_, rfl⟩
  obtain ⟨P, hP⟩ : ∃ P, F.ps.toNat = P := ⟨_, rfl⟩
  have hRI : F.rs = (R : Int) := by omega
  have hPI : F.ps = (P : Int) := by omega
  have hPR : P ≤ R := by omega
  have hRl : R ≤ 4096 := by omega
  have HR := Lib.hid (And.intro (And.intro hR hRI) (And.intro hP hPI))
  have HC := Lib.hid (fun W (hW : Below w.heap.size w W) => show W.cell? ⟨gp, 1, none⟩ = some (.int .i64 (P : Int)) ∧ W.cell? ⟨gp, 2, none⟩ = some (.int .i64 (R : Int)) ∧ W.cell? ⟨gp, 4, none⟩ = some (.slice (some ⟨g2, o2, none⟩) F.bl.length c2) ∧ W.cell? ⟨gp, 5, none⟩ = some rv ∧ W.cell? ⟨gp, 6, none⟩ = some tov from by
    have hp := (HPA.out.below hW).pb
    exact ⟨(hp.cell 1).trans (by rw [← hPI]; rfl), (hp.cell 2).trans (by rw [← hRI]; rfl), (hp.cell 4).trans rfl, (hp.cell 5).trans rfl, (hp.cell 6).trans rfl⟩)
  have p4 := (HC.out w (Below.refl _ _)).2.2.1
  have hmkI := fun W => make_sets F.bl.length (by omega) W
  have hmkR := fun W => make_set R (by omega) W
  have hmkD := fun W => make_bools F.bl.length (by omega) W
  have HW0 := Lib.hid (show ∃ gs, UnW w F w.heap.size 0 gs (unZ F) (w.alloc (.cells (Array.replicate F.bl.length (.slice none 0 0)) 66)) from ⟨fun _ => 0, UnW.start _ _ (Blk.new w _ _) (below1 _ _) (Nat.le_refl _)⟩)
  clear h hR hP hRI hPI hr0 hp0 hpr hr1
  go_enter Tryz.func17, Tryz.ntmps17
  go_wp2_with fail
  go_loopw [23] (fun i wr => ∃ k : Nat, k ≤ F.bl.length ∧ i = .int .i64 k ∧ Hid (∃ gs, UnW w F w.heap.size k gs (unZ F) wr)) (fun i _ => F.bl.length - (intOf i).toNat)
  case atStart => exact ⟨0, Nat.zero_le _, rfl, HW0.out⟩
  case round =>
    clear HW0 p4
    obtain ⟨k, hk, rfl, HW⟩ := hrel
    obtain ⟨gs, hw⟩ := HW.out
    by_cases hlt : k < F.bl.length
    · obtain ⟨p1, p2, p4, p5, p6⟩ := HC.out wr hw.be
      obtain ⟨g1, o1, c1, rb, e1, q1, q2, q3, q4, q5⟩ := (HPA.out.below hw.be).rc_ hlt
      rw [e1] at p5
      cases rb with
      | false =>
        have HN := Lib.hid (hw.skip q4)
        clear hw HW e1
        go_wp2_with fail
        go_roundw
        case rel => exact ⟨k + 1, by omega, by go_num, _, HN.out⟩
        case measure => simp [intOf]; omega
      | true =>
        have hadd := hw.add hlt q4 (by rw [HR.out.1.1]; unfold maxLen; omega)
        rw [HR.out.1.1] at hadd
        have HN := Lib.hid hadd
        obtain ⟨y1, y2⟩ := (hw.below (below1 wr (.cells (Array.replicate R (.bool false)) 4))).cell hlt
        have hkk : unV F gs k k = .slice none 0 0 := by rw [unV, if_neg (by omega)]
        rw [hkk] at y1
        clear hw HW e1 hadd q4
        go_wp2_with fail
        go_roundw
        case rel => exact ⟨k + 1, by omega, by go_num, _, HN.out⟩
        case measure => simp [intOf]; omega
    · have hke : k = F.bl.length := by omega
      subst hke
      have hw0 : UnW w F w.heap.size F.bl.length gs ((unZ F).set 0 (ini F.rs.toNat F.ps.toNat 0)) wr := by
        rw [← unI_get0 HPA.out.ok, set_getD0 (by rw [unZ_len]; omega)]; exact hw
      rw [HR.out.1.1, HR.out.2.1] at hw0
      have HW1 := Lib.hid hw0
      obtain ⟨p1, p2, p4, p5, p6⟩ := HC.out wr hw.be
      clear hw hw0 HW hlt
      go_wp2_with fail
      go_loopw [5] (fun i wr => ∃ j : Nat, P + j ≤ R ∧ i = .int .i64 ((P + j : Nat) : Int) ∧ Hid (UnW w F w.heap.size F.bl.length gs ((unZ F).set 0 (ini R P j)) wr)) (fun i _ => R - (intOf i).toNat)
      case atStart => exact ⟨0, by omega, rfl, HW1.out⟩
      case round =>
        clear HW1 p1 p2 p4 p5 p6
        obtain ⟨j, hj, rfl, HW⟩ := hrel
        obtain ⟨p1, p2, p4, p5, p6⟩ := HC.out wr HW.out.be
        by_cases hlt : P + j < R
        · obtain ⟨y1, y2⟩ := HW.out.cell (b := 0) (by omega)
          have hr0 := HPA.out.ok.rch.2.1
          rw [unV_yes (by omega) hr0, HR.out.1.1] at y1
          obtain ⟨ho, -, hg1, hg2⟩ := HW.out.ro 0 (by omega) hr0
          have e0 : ((unZ F).set 0 (ini R P j)).getD 0 [] = ini R P j := by
            have : 0 < (unZ F).length := by rw [unZ_len]; omega
            simp [this]
          rw [e0, HR.out.1.1] at ho
          have hil := ini_len R P j
          obtain ⟨g', c', e1, -, -, -, -, z1, z2⟩ := ho.open_ (by omega)
          rw [hil] at e1
          cases e1
          have z0 := z1 (P + j) (by omega)
          have f0 := z2 (P + j)
          have hset := ho.set_ hil (j := P + j) (by omega) true
          have HN := Lib.hid (show UnW w F w.heap.size F.bl.length gs ((unZ F).set 0 (ini R P (j + 1))) (wr.setCell ⟨gs 0, P + j, none⟩ (.bool true)) from by
            have := HW.out.join (b := 0) (by omega) hr0 ((Keeps.refl (fun q => q = gs 0) wr).setCell (p := ⟨gs 0, P + j, none⟩) (Or.inr rfl) (.bool true)) (new := (ini R P j).set (P + j) true) (by rw [HR.out.1.1]; exact hset) (by rw [List.length_set, hil, HR.out.1.1]) (by rw [List.length_set, unZ_len])
            rw [List.set_set] at this
            exact this)
          clear ho hset HW e0 z1 z2 hr0
          go_wp2_with fail
          go_roundw
          case rel => exact ⟨j + 1, by omega, by go_num, HN.out⟩
          case measure => simp [intOf]; omega
        · have hje : P + j = R := by omega
          have heI : (unZ F).set 0 (ini R P j) = unI F := by
            rw [unI, HR.out.1.1, HR.out.2.1, show R - P = j by omega]
          have hal := below1 wr (.cells (Array.replicate F.bl.length (.bool false)) 4)
          obtain ⟨gD, hgD⟩ : ∃ gD, wr.heap.size = gD := ⟨_, rfl⟩
          have hU0 : UnD w F w.heap.size gD gs (un0 F).ins (un0 F).dn (wr.alloc (.cells (Array.replicate F.bl.length (.bool false)) 4)) :=
            ⟨by have := HW.out.below hal; rw [heI] at this; exact this, unI_ok HPA.out.ok, by rw [← hgD]; exact BRow.made wr F.bl.length, by simp [un0], by rw [← hgD]; exact HW.out.be.size, fun b hb hr => by have := (HW.out.ro b hb hr).2.2.2; omega⟩
          have HU0 := Lib.hid hU0
          rw [hje]
          clear HW heI hal hU0 hlt hje hj
          go_wp2_with fail
          try rw [hgD]
          clear hgD
          go_loopg [7] (unM (un0 F) + 1) (fun f mv wr => ∃ u : Un, mv = .bool u.mo ∧ Hid (UnD w F w.heap.size gD gs u.ins u.dn wr) ∧ Hid (if u.mo = true then unM u < f ∧ unF F f u = unL F else u.ins = unL F))
          case atStart => exact ⟨un0 F, rfl, HU0.out, by rw [if_pos (show (un0 F).mo = true from rfl)]; exact ⟨Nat.lt_succ_self _, rfl⟩⟩
          case round =>
            clear HU0 p1 p2 p4 p5 p6
            obtain ⟨u, rfl, HW, HV⟩ := hrel
            obtain ⟨um, hum⟩ : ∃ um, u.mo = um := ⟨_, rfl⟩
            rw [hum]
            cases um with
            | false =>
              have hv := HV.out
              rw [hum, if_neg (by decide)] at hv
              have hN : UnW w F w.heap.size F.bl.length gs (unL F) wr ∧ UnOk F (unL F) := by
                rw [← hv]; exact ⟨HW.out.u, HW.out.ok⟩
              have HN := Lib.hid hN
              clear HV hv hN hum
              go_wp2_with fail
              go_ret
              exact ⟨⟨_, gs, rfl, HN.out.1, HN.out.2⟩, HN.out.1.be⟩
            | true =>
              have hv := HV.out
              rw [hum, if_pos rfl] at hv
              obtain ⟨f, rfl⟩ : ∃ f, gk = f + 1 := ⟨gk - 1, by omega⟩
              have hun := unP_ok HPA.out.ok (u := ⟨u.ins, u.dn, false⟩) HW.out.ok HW.out.dl F.bl.length (Nat.le_refl _)
              have HV2 := Lib.hid (show (if (unR F u).mo = true then unM (unR F u) < f ∧ unF F f (unR F u) = unL F else (unR F u).ins = unL F) from by
                have h1 := hv.2
                rw [unF, if_pos hum] at h1
                have h2 := hun.2.2
                have h3 : unM ⟨u.ins, u.dn, false⟩ = unM u := rfl
                rw [h3] at h2
                split
                · rename_i hm
                  rw [show (unP F ⟨u.ins, u.dn, false⟩ F.bl.length) = unR F u from rfl, if_pos hm, if_neg (by simp)] at h2
                  exact ⟨by omega, h1⟩
                · rename_i hm
                  rw [← h1]
                  cases f with
                  | zero => rfl
                  | succ f => rw [unF, if_neg hm])
              obtain ⟨u0, hu0⟩ : ∃ u0 : Un, u0 = ⟨u.ins, u.dn, false⟩ := ⟨_, rfl⟩
              have HUR := Lib.hid (show unP F u0 F.bl.length = unR F u ∧ u0.mo = false from by rw [hu0]; exact ⟨rfl, rfl⟩)
              have HW2 := Lib.hid (show UnD w F w.heap.size gD gs u0.ins u0.dn wr from by rw [hu0]; exact HW.out)
              clear HV hv hum hun HW hu0
              go_wp2_with fail
              go_loopw [68, 7] (fun i mv wr => ∃ k : Nat, k ≤ F.bl.length ∧ i = .int .i64 k ∧ mv = .bool (unP F u0 k).mo ∧ Hid (UnD w F w.heap.size gD gs (unP F u0 k).ins (unP F u0 k).dn wr)) (fun i _ _ => F.bl.length - (intOf i).toNat)
              case atStart => exact ⟨0, Nat.zero_le _, rfl, by rw [show unP F u0 0 = u0 from rfl, HUR.out.2], HW2.out⟩
              case round =>
                clear HW2
                obtain ⟨k, hk, rfl, rfl, HW⟩ := hrel
                by_cases hkt : k < F.bl.length
                · have hstep : unP F u0 (k + 1) = unB F (unP F u0 k) k := rfl
                  obtain ⟨v, hv⟩ : ∃ v, unP F u0 k = v := ⟨_, rfl⟩
                  rw [hv] at hstep HW ⊢
                  have HST := Lib.hid hstep
                  obtain ⟨mo, hmo⟩ : ∃ mo, v.mo = mo := ⟨_, rfl⟩
                  rw [hmo]
                  obtain ⟨p1, p2, p4, p5, p6⟩ := HC.out wr HW.out.u.be
                  obtain ⟨y1, y2⟩ := HW.out.u.cell hkt
                  clear hv hstep
                  cases hrk : (rchL F).getD k false with
                  | false =>
                    rw [unV_no hrk] at y1
                    have hnn := fun w => Lib.run_eql_slice_nil (P := Tryz.prog) w 66 4 none 0 0 0 0 und66
                    have HN := Lib.hid (show unP F u0 (k + 1) = v from by rw [HST.out, unB, hrk]; rfl)
                    clear HST hrk
                    go_wp2_with fail
                    go_roundw
                    case rel => exact ⟨k + 1, by omega, by go_num, by rw [HN.out, hmo], by rw [HN.out]; exact HW.out⟩
                    case measure => simp [intOf]; omega
                  | true =>
                    rw [unV_yes hkt hrk, HR.out.1.1] at y1
                    have hnn := fun w => Lib.run_eql_slice_nil (P := Tryz.prog) w 66 4 (some ⟨gs k, 0, none⟩) R R 0 0 und66
                    obtain ⟨ho, hil, hg1, hg2⟩ := HW.out.u.ro k hkt hrk
                    rw [HR.out.1.1] at ho hil
                    obtain ⟨s0, hs0⟩ : ∃ s0, v.ins.getD k [] = s0 := ⟨_, rfl⟩
                    rw [hs0] at ho hil
                    have hBC := HPA.out.bl_ hkt
                    obtain ⟨gb, ob, cb, Ab, nb, eb, t1, t2, t3, t4⟩ := hBC
                    cases eb
                    obtain ⟨bk, hbk⟩ : ∃ bk, blk F k = bk := ⟨_, rfl⟩
                    have HBK := Lib.hid hbk
                    rw [hbk] at t4
                    have x0 := (HW.out.u.be.cell (p := ⟨g2, o2 + k * 6, none⟩) r3).trans t4.c0
                    have x1 := (HW.out.u.be.cell (p := ⟨g2, o2 + k * 6 + 1, none⟩) r3).trans t4.c1
                    have x2 := (HW.out.u.be.cell (p := ⟨g2, o2 + k * 6 + 2, none⟩) r3).trans t4.c2
                    have x3 := (HW.out.u.be.cell (p := ⟨g2, o2 + k * 6 + 3, none⟩) r3).trans t4.c3
                    have x4 := (HW.out.u.be.cell (p := ⟨g2, o2 + k * 6 + 4, none⟩) r3).trans t4.c4
                    have x5 := (HW.out.u.be.cell (p := ⟨g2, o2 + k * 6 + 5, none⟩) r3).trans t4.c5
                    have hal := below1 wr (.cells #[.int .i64 bk.x.k, .int .i64 bk.x.a, .int .i64 bk.x.d, .int .i64 bk.x.t, .int .i64 bk.x.e] 43)
                    obtain ⟨u1, u2⟩ := t4.os.form.choose_spec.choose_spec.2
                    have HOL := Lib.hid (show bk.os.length ≤ 4096 from by rw [← hbk, blk_at_ hkt]; exact HPA.out.ok.ol _ (List.getElem_mem hkt))
                    have HXD := Lib.hid (show bk.x.k = 4 → (1 ≤ bk.x.e ∧ bk.x.e < (F.bl.length : Int)) ∧ (1 ≤ bk.x.t ∧ bk.x.t < (F.bl.length : Int)) ∧ 0 ≤ bk.x.d ∧ bk.x.d < (R : Int) from fun h4 => by
                      have h9 := set_ok HPA.out.ok hkt (by rw [hbk]; exact h4)
                      rw [HR.out.1.2, hbk] at h9
                      exact h9)
                    have HBH := Lib.hid (fun W (hW : Below wr.heap.size wr W) => behind_any gp F sv _ rv tov inv ouv _ s0 k bk.os.length hkt (by rw [hbk]; exact Nat.le_refl _) W ((HPA.out.below HW.out.u.be).below hW) (OwnB.bools (ho.below hW)) (by rw [HR.out.1.2, hil]))
                    rw [hbk, List.take_length] at HBH
                    have HSR := Lib.hid (show srcF F k s0 = (if bk.x.k == 4 && decide (0 ≤ bk.x.d) then (behF bk.os s0).set bk.x.d.toNat false else behF bk.os s0) from by rw [srcF, hbk])
                    have HUB := Lib.hid (show unP F u0 (k + 1) = ⟨(unE F k (srcF F k s0) ((edgL F).getD k []) (v.ins, v.mo)).1, v.dn.set k true, (unE F k (srcF F k s0) ((edgL F).getD k []) (v.ins, v.mo)).2 || !(v.dn.getD k false)⟩ from by rw [HST.out, unB, if_pos hrk, hs0])
                    rw [hmo] at HUB
                    have HS0 := Lib.hid (And.intro ho hil)
                    have HRK := Lib.hid hrk
                    clear HST hrk ho hs0 hbk
                    have HCL : Hid (∀ W, Below wr.heap.size wr W → W.cell? ⟨w.heap.size, k, none⟩ = some (.slice (some ⟨gs k, 0, none⟩) R R) ∧ W.cell? ⟨gp, 4, none⟩ = some (.slice (some ⟨g2, o2, none⟩) F.bl.length c2) ∧ W.cell? ⟨g2, o2 + k * 6, none⟩ = some (.slice Ab bk.os.length nb)) := Lib.hid (fun W hW => ⟨(hW.cell (p := ⟨w.heap.size, k, none⟩) (cell_lt y1)).trans y1, (hW.cell (p := ⟨gp, 4, none⟩) (cell_lt p4)).trans p4, (hW.cell (p := ⟨g2, o2 + k * 6, none⟩) (cell_lt x0)).trans x0⟩)
                    have hX0 : Blk (wr.alloc (.cells #[.int .i64 bk.x.k, .int .i64 bk.x.a, .int .i64 bk.x.d, .int .i64 bk.x.t, .int .i64 bk.x.e] 43)) wr.heap.size 43 (exA bk.x) := Blk.new _ _ _
                    have hltk : (k : Int) < (F.bl.length : Int) := by omega
                    clear u1 u2 t4 p1 p2 p5 p6
                    go_wp2_with fail
                    refine wp_region_held_drew (S := (fun W => W.cell? ⟨w.heap.size, k, none⟩ = some (.slice (some ⟨gs k, 0, none⟩) R R) ∧ W.cell? ⟨gp, 4, none⟩ = some (.slice (some ⟨g2, o2, none⟩) F.bl.length c2) ∧ W.cell? ⟨g2, o2 + k * 6, none⟩ = some (.slice Ab bk.os.length nb))) (by kernel_rfl) ?_ (fun hHeld => ?_)
                    · exact HCL.out _ (drewB hal)
                    first
                    | (refine wpAnyH_take (i := 0) (v := ?_) rfl (by kernel_rfl) (by kernel_rfl) (by kernel_rfl) (fun _ _ _ h => h) (Or.inl ⟨by rfl, ?_⟩) (by assumption) ?_
                       rotate_left 1
                       focus (intro w hSw; (try dsimp only at hSw); first | (go_simp; done) | (go_simp; with_reducible rfl))
                       try simp only [Act.put, List.setIfInBounds_toArray, List.set_cons_zero, List.set_cons_succ, List.getElem_toArray, List.getElem_cons_succ, List.getElem_cons_zero])
                    | (refine wpAnyH_take (i := 0) (v := undef) rfl (by kernel_rfl) (by kernel_rfl) (by kernel_rfl) (fun _ _ _ h => h) (Or.inr ⟨by rfl, rfl⟩) (by assumption) ?_
                       try simp only [Act.put, List.setIfInBounds_toArray, List.set_cons_zero, List.set_cons_succ, List.getElem_toArray, List.getElem_cons_succ, List.getElem_cons_zero])
                    first
                    | (refine wpAnyH_take (i := 1) (v := ?_) rfl (by kernel_rfl) (by kernel_rfl) (by kernel_rfl) (fun _ _ _ h => h) (Or.inl ⟨by rfl, ?_⟩) (by assumption) ?_
                       rotate_left 1
                       focus (intro w hSw; (try dsimp only at hSw); first | (go_simp; done) | (go_simp; with_reducible rfl))
                       try simp only [Act.put, List.setIfInBounds_toArray, List.set_cons_zero, List.set_cons_succ, List.getElem_toArray, List.getElem_cons_succ, List.getElem_cons_zero])
                    | (refine wpAnyH_take (i := 1) (v := undef) rfl (by kernel_rfl) (by kernel_rfl) (by kernel_rfl) (fun _ _ _ h => h) (Or.inr ⟨by rfl, rfl⟩) (by assumption) ?_
                       try simp only [Act.put, List.setIfInBounds_toArray, List.set_cons_zero, List.set_cons_succ, List.getElem_toArray, List.getElem_cons_succ, List.getElem_cons_zero])
                    first
                    | (refine wpAnyH_take (i := 2) (v := ?_) rfl (by kernel_rfl) (by kernel_rfl) (by kernel_rfl) (fun _ _ _ h => h) (Or.inl ⟨by rfl, ?_⟩) (by assumption) ?_
                       rotate_left 1
                       focus (intro w hSw; (try dsimp only at hSw); first | (go_simp; done) | (go_simp; with_reducible rfl))
                       try simp only [Act.put, List.setIfInBounds_toArray, List.set_cons_zero, List.set_cons_succ, List.getElem_toArray, List.getElem_cons_succ, List.getElem_cons_zero])
                    | (refine wpAnyH_take (i := 2) (v := undef) rfl (by kernel_rfl) (by kernel_rfl) (by kernel_rfl) (fun _ _ _ h => h) (Or.inr ⟨by rfl, rfl⟩) (by assumption) ?_
                       try simp only [Act.put, List.setIfInBounds_toArray, List.set_cons_zero, List.set_cons_succ, List.getElem_toArray, List.getElem_cons_succ, List.getElem_cons_zero])
                    first
                    | (refine wpAnyH_take (i := 3) (v := ?_) rfl (by kernel_rfl) (by kernel_rfl) (by kernel_rfl) (fun _ _ _ h => h) (Or.inl ⟨by rfl, ?_⟩) (by assumption) ?_
                       rotate_left 1
                       focus (intro w hSw; (try dsimp only at hSw); first | (go_simp; done) | (go_simp; with_reducible rfl))
                       try simp only [Act.put, List.setIfInBounds_toArray, List.set_cons_zero, List.set_cons_succ, List.getElem_toArray, List.getElem_cons_succ, List.getElem_cons_zero])
                    | (refine wpAnyH_take (i := 3) (v := undef) rfl (by kernel_rfl) (by kernel_rfl) (by kernel_rfl) (fun _ _ _ h => h) (Or.inr ⟨by rfl, rfl⟩) (by assumption) ?_
                       try simp only [Act.put, List.setIfInBounds_toArray, List.set_cons_zero, List.set_cons_succ, List.getElem_toArray, List.getElem_cons_succ, List.getElem_cons_zero])
                    first
                    | (refine wpAnyH_take (i := 4) (v := ?_) rfl (by kernel_rfl) (by kernel_rfl) (by kernel_rfl) (fun _ _ _ h => h) (Or.inl ⟨by rfl, ?_⟩) (by assumption) ?_
                       rotate_left 1
                       focus (intro w hSw; (try dsimp only at hSw); first | (go_simp; done) | (go_simp; with_reducible rfl))
                       try simp only [Act.put, List.setIfInBounds_toArray, List.set_cons_zero, List.set_cons_succ, List.getElem_toArray, List.getElem_cons_succ, List.getElem_cons_zero])
                    | (refine wpAnyH_take (i := 4) (v := undef) rfl (by kernel_rfl) (by kernel_rfl) (by kernel_rfl) (fun _ _ _ h => h) (Or.inr ⟨by rfl, rfl⟩) (by assumption) ?_
                       try simp only [Act.put, List.setIfInBounds_toArray, List.set_cons_zero, List.set_cons_succ, List.getElem_toArray, List.getElem_cons_succ, List.getElem_cons_zero])
                    first
                    | (refine wpAnyH_take (i := 5) (v := ?_) rfl (by kernel_rfl) (by kernel_rfl) (by kernel_rfl) (fun _ _ _ h => h) (Or.inl ⟨by rfl, ?_⟩) (by assumption) ?_
                       rotate_left 1
                       focus (intro w hSw; (try dsimp only at hSw); first | (go_simp; done) | (go_simp; with_reducible rfl))
                       try simp only [Act.put, List.setIfInBounds_toArray, List.set_cons_zero, List.set_cons_succ, List.getElem_toArray, List.getElem_cons_succ, List.getElem_cons_zero])
                    | (refine wpAnyH_take (i := 5) (v := undef) rfl (by kernel_rfl) (by kernel_rfl) (by kernel_rfl) (fun _ _ _ h => h) (Or.inr ⟨by rfl, rfl⟩) (by assumption) ?_
                       try simp only [Act.put, List.setIfInBounds_toArray, List.set_cons_zero, List.set_cons_succ, List.getElem_toArray, List.getElem_cons_succ, List.getElem_cons_zero])
                    first
                    | (refine wpAnyH_take (i := 6) (v := ?_) rfl (by kernel_rfl) (by kernel_rfl) (by kernel_rfl) (fun _ _ _ h => h) (Or.inl ⟨by rfl, ?_⟩) (by assumption) ?_
                       rotate_left 1
                       focus (intro w hSw; (try dsimp only at hSw); first | (go_simp; done) | (go_simp; with_reducible rfl))
                       try simp only [Act.put, List.setIfInBounds_toArray, List.set_cons_zero, List.set_cons_succ, List.getElem_toArray, List.getElem_cons_succ, List.getElem_cons_zero])
                    | (refine wpAnyH_take (i := 6) (v := undef) rfl (by kernel_rfl) (by kernel_rfl) (by kernel_rfl) (fun _ _ _ h => h) (Or.inr ⟨by rfl, rfl⟩) (by assumption) ?_
                       try simp only [Act.put, List.setIfInBounds_toArray, List.set_cons_zero, List.set_cons_succ, List.getElem_toArray, List.getElem_cons_succ, List.getElem_cons_zero])
                    first
                    | (refine wpAnyH_take (i := 7) (v := ?_) rfl (by kernel_rfl) (by kernel_rfl) (by kernel_rfl) (fun _ _ _ h => h) (Or.inl ⟨by rfl, ?_⟩) (by assumption) ?_
                       rotate_left 1
                       focus (intro w hSw; (try dsimp only at hSw); first | (go_simp; done) | (go_simp; with_reducible rfl))
                       try simp only [Act.put, List.setIfInBounds_toArray, List.set_cons_zero, List.set_cons_succ, List.getElem_toArray, List.getElem_cons_succ, List.getElem_cons_zero])
                    | (refine wpAnyH_take (i := 7) (v := undef) rfl (by kernel_rfl) (by kernel_rfl) (by kernel_rfl) (fun _ _ _ h => h) (Or.inr ⟨by rfl, rfl⟩) (by assumption) ?_
                       try simp only [Act.put, List.setIfInBounds_toArray, List.set_cons_zero, List.set_cons_succ, List.getElem_toArray, List.getElem_cons_succ, List.getElem_cons_zero])
                    first
                    | (refine wpAnyH_take (i := 8) (v := ?_) rfl (by kernel_rfl) (by kernel_rfl) (by kernel_rfl) (fun _ _ _ h => h) (Or.inl ⟨by rfl, ?_⟩) (by assumption) ?_
                       rotate_left 1
                       focus (intro w hSw; (try dsimp only at hSw); first | (go_simp; done) | (go_simp; with_reducible rfl))
                       try simp only [Act.put, List.setIfInBounds_toArray, List.set_cons_zero, List.set_cons_succ, List.getElem_toArray, List.getElem_cons_succ, List.getElem_cons_zero])
                    | (refine wpAnyH_take (i := 8) (v := undef) rfl (by kernel_rfl) (by kernel_rfl) (by kernel_rfl) (fun _ _ _ h => h) (Or.inr ⟨by rfl, rfl⟩) (by assumption) ?_
                       try simp only [Act.put, List.setIfInBounds_toArray, List.set_cons_zero, List.set_cons_succ, List.getElem_toArray, List.getElem_cons_succ, List.getElem_cons_zero])
                    first
                    | (refine wpAnyH_take (i := 9) (v := ?_) rfl (by kernel_rfl) (by kernel_rfl) (by kernel_rfl) (fun _ _ _ h => h) (Or.inl ⟨by rfl, ?_⟩) (by assumption) ?_
                       rotate_left 1
                       focus (intro w hSw; (try dsimp only at hSw); first | (go_simp; done) | (go_simp; with_reducible rfl))
                       try simp only [Act.put, List.setIfInBounds_toArray, List.set_cons_zero, List.set_cons_succ, List.getElem_toArray, List.getElem_cons_succ, List.getElem_cons_zero])
                    | (refine wpAnyH_take (i := 9) (v := undef) rfl (by kernel_rfl) (by kernel_rfl) (by kernel_rfl) (fun _ _ _ h => h) (Or.inr ⟨by rfl, rfl⟩) (by assumption) ?_
                       try simp only [Act.put, List.setIfInBounds_toArray, List.set_cons_zero, List.set_cons_succ, List.getElem_toArray, List.getElem_cons_succ, List.getElem_cons_zero])
                    first
                    | (refine wpAnyH_take (i := 10) (v := ?_) rfl (by kernel_rfl) (by kernel_rfl) (by kernel_rfl) (fun _ _ _ h => h) (Or.inl ⟨by rfl, ?_⟩) (by assumption) ?_
                       rotate_left 1
                       focus (intro w hSw; (try dsimp only at hSw); first | (go_simp; done) | (go_simp; with_reducible rfl))
                       try simp only [Act.put, List.setIfInBounds_toArray, List.set_cons_zero, List.set_cons_succ, List.getElem_toArray, List.getElem_cons_succ, List.getElem_cons_zero])
                    | (refine wpAnyH_take (i := 10) (v := undef) rfl (by kernel_rfl) (by kernel_rfl) (by kernel_rfl) (fun _ _ _ h => h) (Or.inr ⟨by rfl, rfl⟩) (by assumption) ?_
                       try simp only [Act.put, List.setIfInBounds_toArray, List.set_cons_zero, List.set_cons_succ, List.getElem_toArray, List.getElem_cons_succ, List.getElem_cons_zero])
                    first
                    | (refine wpAnyH_take (i := 11) (v := ?_) rfl (by kernel_rfl) (by kernel_rfl) (by kernel_rfl) (fun _ _ _ h => h) (Or.inl ⟨by rfl, ?_⟩) (by assumption) ?_
                       rotate_left 1
                       focus (intro w hSw; (try dsimp only at hSw); first | (go_simp; done) | (go_simp; with_reducible rfl))
                       try simp only [Act.put, List.setIfInBounds_toArray, List.set_cons_zero, List.set_cons_succ, List.getElem_toArray, List.getElem_cons_succ, List.getElem_cons_zero])
                    | (refine wpAnyH_take (i := 11) (v := undef) rfl (by kernel_rfl) (by kernel_rfl) (by kernel_rfl) (fun _ _ _ h => h) (Or.inr ⟨by rfl, rfl⟩) (by assumption) ?_
                       try simp only [Act.put, List.setIfInBounds_toArray, List.set_cons_zero, List.set_cons_succ, List.getElem_toArray, List.getElem_cons_succ, List.getElem_cons_zero])
                    first
                    | (refine wpAnyH_take (i := 12) (v := ?_) rfl (by kernel_rfl) (by kernel_rfl) (by kernel_rfl) (fun _ _ _ h => h) (Or.inl ⟨by rfl, ?_⟩) (by assumption) ?_
                       rotate_left 1
                       focus (intro w hSw; (try dsimp only at hSw); first | (go_simp; done) | (go_simp; with_reducible rfl))
                       try simp only [Act.put, List.setIfInBounds_toArray, List.set_cons_zero, List.set_cons_succ, List.getElem_toArray, List.getElem_cons_succ, List.getElem_cons_zero])
                    | (refine wpAnyH_take (i := 12) (v := undef) rfl (by kernel_rfl) (by kernel_rfl) (by kernel_rfl) (fun _ _ _ h => h) (Or.inr ⟨by rfl, rfl⟩) (by assumption) ?_
                       try simp only [Act.put, List.setIfInBounds_toArray, List.set_cons_zero, List.set_cons_succ, List.getElem_toArray, List.getElem_cons_succ, List.getElem_cons_zero])
                    first
                    | (refine wpAnyH_take (i := 13) (v := ?_) rfl (by kernel_rfl) (by kernel_rfl) (by kernel_rfl) (fun _ _ _ h => h) (Or.inl ⟨by rfl, ?_⟩) (by assumption) ?_
                       rotate_left 1
                       focus (intro w hSw; (try dsimp only at hSw); first | (go_simp; done) | (go_simp; with_reducible rfl))
                       try simp only [Act.put, List.setIfInBounds_toArray, List.set_cons_zero, List.set_cons_succ, List.getElem_toArray, List.getElem_cons_succ, List.getElem_cons_zero])
                    | (refine wpAnyH_take (i := 13) (v := undef) rfl (by kernel_rfl) (by kernel_rfl) (by kernel_rfl) (fun _ _ _ h => h) (Or.inr ⟨by rfl, rfl⟩) (by assumption) ?_
                       try simp only [Act.put, List.setIfInBounds_toArray, List.set_cons_zero, List.set_cons_succ, List.getElem_toArray, List.getElem_cons_succ, List.getElem_cons_zero])
                    first
                    | (refine wpAnyH_take (i := 14) (v := ?_) rfl (by kernel_rfl) (by kernel_rfl) (by kernel_rfl) (fun _ _ _ h => h) (Or.inl ⟨by rfl, ?_⟩) (by assumption) ?_
                       rotate_left 1
                       focus (intro w hSw; (try dsimp only at hSw); first | (go_simp; done) | (go_simp; with_reducible rfl))
                       try simp only [Act.put, List.setIfInBounds_toArray, List.set_cons_zero, List.set_cons_succ, List.getElem_toArray, List.getElem_cons_succ, List.getElem_cons_zero])
                    | (refine wpAnyH_take (i := 14) (v := undef) rfl (by kernel_rfl) (by kernel_rfl) (by kernel_rfl) (fun _ _ _ h => h) (Or.inr ⟨by rfl, rfl⟩) (by assumption) ?_
                       try simp only [Act.put, List.setIfInBounds_toArray, List.set_cons_zero, List.set_cons_succ, List.getElem_toArray, List.getElem_cons_succ, List.getElem_cons_zero])
                    first
                    | (refine wpAnyH_take (i := 15) (v := ?_) rfl (by kernel_rfl) (by kernel_rfl) (by kernel_rfl) (fun _ _ _ h => h) (Or.inl ⟨by rfl, ?_⟩) (by assumption) ?_
                       rotate_left 1
                       focus (intro w hSw; (try dsimp only at hSw); first | (go_simp; done) | (go_simp; with_reducible rfl))
                       try simp only [Act.put, List.setIfInBounds_toArray, List.set_cons_zero, List.set_cons_succ, List.getElem_toArray, List.getElem_cons_succ, List.getElem_cons_zero])
                    | (refine wpAnyH_take (i := 15) (v := undef) rfl (by kernel_rfl) (by kernel_rfl) (by kernel_rfl) (fun _ _ _ h => h) (Or.inr ⟨by rfl, rfl⟩) (by assumption) ?_
                       try simp only [Act.put, List.setIfInBounds_toArray, List.set_cons_zero, List.set_cons_succ, List.getElem_toArray, List.getElem_cons_succ, List.getElem_cons_zero])
                    refine wpAnyH_ready (rs := [16]) (by kernel_rfl) (by simp) ?_
                    refine AllReadyH.cons rfl (fun K hK => ?_) AllReadyH.nil
                    rw [if_pos (by rfl)]
                    go_simp
                    go_at_call 20; refine (HBH.out _ (drewB hal)).mono ?_; rintro e w5 ⟨⟨v5, rfl, ho5⟩, hb5⟩; have hB5 : Below wr.heap.size wr w5 := (drewB hal).trans (below_of_le hb5 (by simp only [World.size_drew]; exact hal.size)); have t1 := HCL.out _ hB5
                    try go_wp2_with fail
                    refine hK.out _ _ t1 (fun hHeld => ?_)
                    clear hK K
                    try simp only [Act.put, List.setIfInBounds_toArray, List.set_cons_zero, List.set_cons_succ, List.getElem_toArray, List.getElem_cons_succ, List.getElem_cons_zero]
                    first
                    | (refine wpAnyH_take (i := 17) (v := ?_) rfl (by kernel_rfl) (by kernel_rfl) (by kernel_rfl) (fun _ _ _ h => h) (Or.inl ⟨by rfl, ?_⟩) (by assumption) ?_
                       rotate_left 1
                       focus (intro w hSw; (try dsimp only at hSw); first | (go_simp; done) | (go_simp; with_reducible rfl))
                       try simp only [Act.put, List.setIfInBounds_toArray, List.set_cons_zero, List.set_cons_succ, List.getElem_toArray, List.getElem_cons_succ, List.getElem_cons_zero])
                    | (refine wpAnyH_take (i := 17) (v := undef) rfl (by kernel_rfl) (by kernel_rfl) (by kernel_rfl) (fun _ _ _ h => h) (Or.inr ⟨by rfl, rfl⟩) (by assumption) ?_
                       try simp only [Act.put, List.setIfInBounds_toArray, List.set_cons_zero, List.set_cons_succ, List.getElem_toArray, List.getElem_cons_succ, List.getElem_cons_zero])
                    refine wpAnyH_done (by kernel_rfl) ?_ _
                    have hX5 := hX0.drew.below hb5 hX0.lt
                    have ho5' := ho5
                    have hl5 : (behF bk.os s0).length = R := by rw [behF_len]; exact HS0.out.2
                    obtain ⟨A5, c5, rfl, -, -⟩ := ho5.form
                    rw [hl5]
                    have hW5 := HW.out.below hB5
                    obtain ⟨gx, hgx⟩ : ∃ gx, wr.heap.size = gx := ⟨_, rfl⟩
                    have HGS := Lib.hid (show ∀ b, b < F.bl.length → (rchL F).getD b false = true → gs b < gx from fun b hb hr => by rw [← hgx]; exact (HW.out.u.ro b hb hr).2.2.2)
                    have HGD := Lib.hid (show w.heap.size < gx ∧ gD < gx from by
                      obtain ⟨cs, q, -⟩ := HW.out.u.ib
                      have := q.lt
                      have := HW.out.d.lt
                      omega)
                    have hB5s := hB5.size
                    rw [hgx] at hX5 hB5s
                    have hxx := (show ((wr.alloc (.cells #[.int .i64 bk.x.k, .int .i64 bk.x.a, .int .i64 bk.x.d, .int .i64 bk.x.t, .int .i64 bk.x.e] 43)).drew).heap.size = gx + 1 from by simp [World.size_drew, World.size_alloc, hgx])
                    rw [hl5, hxx] at ho5
                    have x50 : w5.cell? ⟨gx, 0, none⟩ = some (.int .i64 bk.x.k) := (hX5.cell 0).trans rfl
                    have x52 : w5.cell? ⟨gx, 2, none⟩ = some (.int .i64 bk.x.d) := (hX5.cell 2).trans rfl
                    have H5 := Lib.hid (And.intro ho5 (And.intro hX5 hW5))
                    clear ho5 ho5' hb5 hB5 hX0 hX5 hW5 HW hal HCL HBH x0 x1 x2 x3 x4 x5 y1 y2 p4 hnn hg1 hg2 t1 hxx
                    rw [hgx]
                    cases hx4 : (bk.x.k == 4) with
                    | false =>
                      obtain ⟨sl, hsl⟩ : ∃ sl, srcF F k s0 = sl := ⟨_, rfl⟩
                      have hsl2 : behF bk.os s0 = sl := by rw [← hsl, HSR.out, hx4]; rfl
                      rw [hsl] at HUB
                      have H6 := Lib.hid (show OwnB w5 (gx + 1) (.slice A5 R c5) sl ∧ sl.length = R ∧ Blk w5 gx 43 (exA bk.x) ∧ UnD w F w.heap.size gD gs v.ins v.dn w5 from by rw [← hsl2]; exact ⟨H5.out.1, hl5, H5.out.2⟩)
                      have HH4 := Lib.hid hx4
                      clear H5 HSR hsl hsl2 hl5
                      have hB6 := H6.out.2.2.2.u.be
                      have p66 := (HC.out _ hB6).2.2.2.2
                      obtain ⟨gt, ot, ct, At, ct2, et, n1, n2, n3, n4, n5, n6⟩ := row_ HPA.out.ed (edgL_len F) hkt
                      rw [et] at p66
                      have hel2 := edgL_two (F := F) k
                      have helr := edgL_rch HPA.out.ok hkt HRK.out
                      obtain ⟨el, hel⟩ : ∃ el, (edgL F).getD k [] = el := ⟨_, rfl⟩
                      rw [hel] at HUB n3 n4 n5 hel2 helr
                      have n36 := (hB6.cell (p := ⟨gt, ot + k, none⟩) (cell_lt n3)).trans n3
                      have HEL := Lib.hid helr
                      have HEI := Lib.hid n4
                      have HLS := Lib.hid H6.out.2.1
                      unfold maxLen at n6
                      clear hB6 n4 n3 helr hel
                      go_wp2_with fail
                      go_loopw [122, 7] (fun i mv wr => ∃ j : Nat, j ≤ el.length ∧ i = .int .i64 j ∧ mv = .bool (unE F k sl (el.take j) (v.ins, mo)).2 ∧ Hid (OwnB wr (gx + 1) (.slice A5 R c5) sl ∧ Blk wr gx 43 (exA bk.x) ∧ UnD w F w.heap.size gD gs (unE F k sl (el.take j) (v.ins, mo)).1 v.dn wr)) (fun i _ _ => el.length - (intOf i).toNat)
                      case atStart => exact ⟨0, Nat.zero_le _, rfl, rfl, H6.out.1, H6.out.2.2.1, H6.out.2.2.2⟩
                      case round =>
                        clear H6 p66 n36 x50 x52 hx4
                        obtain ⟨j, hj, rfl, rfl, HQ⟩ := hrel
                        by_cases hjt : j < el.length
                        · have hBq := HQ.out.2.2.u.be
                          obtain ⟨gl, ol, cl', ea, m1, m2, mg, mc⟩ := HEI.out.open_ (Nat.lt_of_le_of_lt (Nat.zero_le _) hjt)
                          cases ea
                          have c0 := (hBq.cell (p := ⟨gl, ol + j, none⟩) mg).trans (mc j hjt)
                          have hte := HEL.out el[j] (List.getElem_mem hjt)
                          have hstp := foldS_step (unT F k sl) el (v.ins, mo) hjt
                          obtain ⟨t, ht⟩ : ∃ t : Nat, el[j] = (t : Int) := ⟨el[j].toNat, by omega⟩
                          rw [ht] at c0 hte hstp
                          obtain ⟨ht1, ht2, ht3⟩ := hte
                          have htt : ((t : Int)).toNat = t := by omega
                          rw [htt] at ht3
                          have htn : t < F.bl.length := by omega
                          obtain ⟨un, hun⟩ : ∃ un, unE F k sl (el.take j) (v.ins, mo) = un := ⟨_, rfl⟩
                          rw [hun] at HQ ⊢
                          obtain ⟨ho, hil2, hg1, hg2⟩ := HQ.out.2.2.u.ro t htn ht3
                          obtain ⟨y1, y2⟩ := HQ.out.2.2.u.cell htn
                          rw [unV_yes htn ht3, HR.out.1.1] at y1
                          rw [HR.out.1.1] at ho hil2
                          have hstp2 : unE F k sl (el.take (j + 1)) (v.ins, mo) = (un.1.set t (jnB (un.1.getD t []) (tgtF F k sl t) R), moB (un.1.getD t []) (tgtF F k sl t) R || un.2) := by
                            have e : unE F k sl (el.take (j + 1)) (v.ins, mo) = unT F k sl (unE F k sl (el.take j) (v.ins, mo)) t := hstp
                            rw [e, hun, unT, htt, hil2]
                          obtain ⟨row, hrow⟩ : ∃ row, un.1.getD t [] = row := ⟨_, rfl⟩
                          rw [hrow] at ho hil2 hstp2
                          have hrl : row.length = R := hil2
                          have hTG : tgtF F k sl t = (if bk.x.k == 4 && (t : Int) == bk.x.e then jmF F k sl else sl) := by rw [tgtF, HBK.out]
                          have x60 : wr.cell? ⟨gx, 0, none⟩ = some (.int .i64 bk.x.k) := (HQ.out.2.1.cell 0).trans rfl
                          have x64 : wr.cell? ⟨gx, 4, none⟩ = some (.int .i64 bk.x.e) := (HQ.out.2.1.cell 4).trans rfl
                          obtain ⟨um, hum⟩ : ∃ um, un.2 = um := ⟨_, rfl⟩
                          rw [hum] at hstp2 ⊢
                          rw [HH4.out] at hTG
                          have hx4 := HH4.out
                          have hTG2 : tgtF F k sl t = sl := by rw [hTG]; rfl
                          rw [hTG2] at hstp2
                          clear hTG2
                          have HSTP := Lib.hid hstp2
                          have HT := Lib.hid (show Bools wr (.slice A5 R c5) sl ∧ sl.length = R ∧ ∀ q, (.slice A5 R c5 : Value).ownBlock = some q → gx < q from ⟨HQ.out.1.bools, HLS.out, fun q hq => by have := HQ.out.1.ge q hq; omega⟩)
                          have HQ7 := Lib.hid (show OwnB wr (gx + 1) (.slice A5 R c5) sl ∧ Blk wr gx 43 (exA bk.x) ∧ OwnB wr w.heap.size (.slice (some ⟨gs t, 0, none⟩) R R) row ∧ UnD w F w.heap.size gD gs un.1 v.dn wr from ⟨HQ.out.1, HQ.out.2.1, ho, HQ.out.2.2⟩)
                          clear ho hstp hstp2 hTG hrow hum hun ht hBq mc hil2
                          have hal := below1 wr (.cells #[.slice A5 R c5] 66)
                          have HJ := setJoin_any (.slice (some ⟨gs t, 0, none⟩) R R) (.slice A5 R c5) row (sl) w.heap.size wr.heap.size (wr.alloc (.cells #[.slice A5 R c5] 66)) (HQ7.out.2.2.1.below hal) (HT.out.1.below hal) (by rw [HT.out.2.1, hrl]) (by omega) (fun q hq e => by
                            have h7 := HT.out.2.2 q hq
                            have e7 : q = gs t := by simpa [Value.ownBlock] using e.symm
                            have := HGS.out t htn ht3
                            omega) (((Blk.new wr 66 #[.slice A5 R c5]).cell 0).trans rfl) (fun e => by
                            have e7 : wr.heap.size = gs t := by simpa [Value.ownBlock] using e.symm
                            have := HGS.out t htn ht3
                            have := HQ7.out.2.1.lt
                            omega)
                          rw [hrl] at HJ
                          have HJ2 := Lib.hid HJ
                          have HAL := Lib.hid hal
                          clear HJ hal
                          go_wp2_with fail
                          refine HJ2.out.mono ?_
                          rintro e w8 ⟨rfl, ho8, hk8⟩
                          have hk9 : Keeps (fun q => q = gs t) (wr.alloc (.cells #[.slice A5 R c5] 66)) w8 := hk8.mono (fun q _ e => by simpa [Value.ownBlock] using e.symm)
                          have HN := Lib.hid (show OwnB w8 (gx + 1) (.slice A5 R c5) sl ∧ Blk w8 gx 43 (exA bk.x) ∧ UnD w F w.heap.size gD gs (un.1.set t (jnB row (sl) R)) v.dn w8 from by
                            have hg := HGS.out t htn ht3
                            refine ⟨(HQ7.out.1.below HAL.out).keeps hk9 (fun q hq e => by
                              have := HQ7.out.1.ge q hq
                              omega), (HQ7.out.2.1.below HAL.out HQ7.out.2.1.lt).keeps hk9 (by omega), UnD.join (HQ7.out.2.2.2.below HAL.out) htn ht3 hk9 (by rw [HR.out.1.1]; exact ho8) (by rw [jnB_len, hrl, HR.out.1.1])⟩)
                          obtain ⟨mb, hmb⟩ : ∃ mb, moB row (sl) R = mb := ⟨_, rfl⟩
                          rw [hmb] at HSTP ⊢
                          clear hmb ho8 hk8 hk9 HJ2 HAL HQ7 HT HQ
                          cases mb with
                          | true =>
                            go_wp2_with fail
                            go_roundw
                            case rel => exact ⟨j + 1, by omega, by go_num, by rw [HSTP.out]; simp, by rw [HSTP.out]; exact HN.out⟩
                            case measure => simp [intOf]; omega
                          | false =>
                            go_wp2_with fail
                            go_roundw
                            case rel => exact ⟨j + 1, by omega, by go_num, by rw [HSTP.out]; simp, by rw [HSTP.out]; exact HN.out⟩
                            case measure => simp [intOf]; omega
                        · have hje : j = el.length := by omega
                          subst hje
                          rw [List.take_length] at HQ ⊢
                          obtain ⟨un, hun⟩ : ∃ un, unE F k sl el (v.ins, mo) = un := ⟨_, rfl⟩
                          rw [hun] at HQ HUB ⊢
                          obtain ⟨um, hum⟩ : ∃ um, un.2 = um := ⟨_, rfl⟩
                          rw [hum] at HUB ⊢
                          obtain ⟨db, hdb, dc⟩ := HQ.out.2.2.d.val k (by rw [HQ.out.2.2.dl]; exact hkt)
                          have df := HQ.out.2.2.d.frozen k
                          rw [hdb] at HUB
                          have HQ8 := Lib.hid HQ.out.2.2
                          cases db with
                          | true =>
                            have hdn2 : v.dn.set k true = v.dn := by
                              have := set_getD_self v.dn k
                              rw [hdb] at this; exact this
                            rw [hdn2] at HUB
                            clear HQ hun hum hdb hdn2
                            go_wp2_with fail
                            go_roundw
                            case rel => exact ⟨k + 1, by omega, by go_num, by rw [HUB.out]; simp, by rw [HUB.out]; exact HQ8.out⟩
                            case measure => simp [intOf]; omega
                          | false =>
                            clear HQ hun hum hdb
                            go_wp2_with fail
                            go_roundw
                            case rel => exact ⟨k + 1, by omega, by go_num, by rw [HUB.out]; simp, by rw [HUB.out]; exact HQ8.out.done k⟩
                            case measure => simp [intOf]; omega
                    | true =>
                      obtain ⟨hxe, hxt, hd0, hd1⟩ := HXD.out (eq_of_beq hx4)
                      obtain ⟨dn, hdn⟩ : ∃ dn : Nat, bk.x.d = (dn : Int) := ⟨bk.x.d.toNat, by omega⟩
                      obtain ⟨sl, hsl⟩ : ∃ sl, srcF F k s0 = sl := ⟨_, rfl⟩
                      have hsl2 : (behF bk.os s0).set dn false = sl := by rw [← hsl, HSR.out, hx4, hdn]; simp
                      rw [hsl] at HUB
                      obtain ⟨g5, c5', e5, y9, y3, -, -, y7, y8⟩ := H5.out.1.open_ (by rw [hl5]; omega)
                      rw [hl5] at e5
                      cases e5
                      obtain ⟨qv, q7⟩ : ∃ qv, w5.cell? ⟨g5, dn, none⟩ = some (.bool qv) := ⟨_, y7 dn (by rw [hl5]; omega)⟩
                      have q8 := y8 dn
                      have hset := H5.out.1.set_ hl5 (j := dn) (by rw [hl5]; omega) false
                      have hkk : Keeps (fun q => q = g5) w5 (w5.setCell ⟨g5, dn, none⟩ (.bool false)) := (Keeps.refl (fun q => q = g5) w5).setCell (p := ⟨g5, dn, none⟩) (Or.inr rfl) _
                      have H6 := Lib.hid (show OwnB (w5.setCell ⟨g5, dn, none⟩ (.bool false)) (gx + 1) (.slice (some ⟨g5, 0, none⟩) R c5) sl ∧ sl.length = R ∧ Blk (w5.setCell ⟨g5, dn, none⟩ (.bool false)) gx 43 (exA bk.x) ∧ UnD w F w.heap.size gD gs v.ins v.dn (w5.setCell ⟨g5, dn, none⟩ (.bool false)) from
                        ⟨by rw [← hsl2]; exact hset, by rw [← hsl2, List.length_set]; exact hl5, H5.out.2.1.keeps hkk (by omega), UnD.far H5.out.2.2 hkk (by have := HGD.out; omega) (fun b hb hr => by have := HGS.out b hb hr; omega) (by have := HGD.out; omega) (by have := HGD.out; omega)⟩)
                      have HH4 := Lib.hid hx4
                      rw [hdn] at x52 hd0 hd1
                      clear H5 HSR hsl hsl2 hset hkk y7 y8 hdn
                      have hB6 := H6.out.2.2.2.u.be
                      have p66 := (HC.out _ hB6).2.2.2.2
                      obtain ⟨gt, ot, ct, At, ct2, et, n1, n2, n3, n4, n5, n6⟩ := row_ HPA.out.ed (edgL_len F) hkt
                      rw [et] at p66
                      have hel2 := edgL_two (F := F) k
                      have helr := edgL_rch HPA.out.ok hkt HRK.out
                      obtain ⟨el, hel⟩ : ∃ el, (edgL F).getD k [] = el := ⟨_, rfl⟩
                      rw [hel] at HUB n3 n4 n5 hel2 helr
                      have n36 := (hB6.cell (p := ⟨gt, ot + k, none⟩) (cell_lt n3)).trans n3
                      have HEL := Lib.hid helr
                      have HEI := Lib.hid n4
                      have HLS := Lib.hid H6.out.2.1
                      unfold maxLen at n6
                      clear hB6 n4 n3 helr hel
                      go_wp2_with fail
                      go_loopw [122, 7] (fun i mv wr => ∃ j : Nat, j ≤ el.length ∧ i = .int .i64 j ∧ mv = .bool (unE F k sl (el.take j) (v.ins, mo)).2 ∧ Hid (OwnB wr (gx + 1) (.slice (some ⟨g5, 0, none⟩) R c5) sl ∧ Blk wr gx 43 (exA bk.x) ∧ UnD w F w.heap.size gD gs (unE F k sl (el.take j) (v.ins, mo)).1 v.dn wr)) (fun i _ _ => el.length - (intOf i).toNat)
                      case atStart => exact ⟨0, Nat.zero_le _, rfl, rfl, H6.out.1, H6.out.2.2.1, H6.out.2.2.2⟩
                      case round =>
                        clear H6 p66 n36 x50 x52 q7 q8 hx4
                        obtain ⟨j, hj, rfl, rfl, HQ⟩ := hrel
                        by_cases hjt : j < el.length
                        · have hBq := HQ.out.2.2.u.be
                          obtain ⟨gl, ol, cl', ea, m1, m2, mg, mc⟩ := HEI.out.open_ (Nat.lt_of_le_of_lt (Nat.zero_le _) hjt)
                          cases ea
                          have c0 := (hBq.cell (p := ⟨gl, ol + j, none⟩) mg).trans (mc j hjt)
                          have hte := HEL.out el[j] (List.getElem_mem hjt)
                          have hstp := foldS_step (unT F k sl) el (v.ins, mo) hjt
                          obtain ⟨t, ht⟩ : ∃ t : Nat, el[j] = (t : Int) := ⟨el[j].toNat, by omega⟩
                          rw [ht] at c0 hte hstp
                          obtain ⟨ht1, ht2, ht3⟩ := hte
                          have htt : ((t : Int)).toNat = t := by omega
                          rw [htt] at ht3
                          have htn : t < F.bl.length := by omega
                          obtain ⟨un, hun⟩ : ∃ un, unE F k sl (el.take j) (v.ins, mo) = un := ⟨_, rfl⟩
                          rw [hun] at HQ ⊢
                          obtain ⟨ho, hil2, hg1, hg2⟩ := HQ.out.2.2.u.ro t htn ht3
                          obtain ⟨y1, y2⟩ := HQ.out.2.2.u.cell htn
                          rw [unV_yes htn ht3, HR.out.1.1] at y1
                          rw [HR.out.1.1] at ho hil2
                          have hstp2 : unE F k sl (el.take (j + 1)) (v.ins, mo) = (un.1.set t (jnB (un.1.getD t []) (tgtF F k sl t) R), moB (un.1.getD t []) (tgtF F k sl t) R || un.2) := by
                            have e : unE F k sl (el.take (j + 1)) (v.ins, mo) = unT F k sl (unE F k sl (el.take j) (v.ins, mo)) t := hstp
                            rw [e, hun, unT, htt, hil2]
                          obtain ⟨row, hrow⟩ : ∃ row, un.1.getD t [] = row := ⟨_, rfl⟩
                          rw [hrow] at ho hil2 hstp2
                          have hrl : row.length = R := hil2
                          have hTG : tgtF F k sl t = (if bk.x.k == 4 && (t : Int) == bk.x.e then jmF F k sl else sl) := by rw [tgtF, HBK.out]
                          have x60 : wr.cell? ⟨gx, 0, none⟩ = some (.int .i64 bk.x.k) := (HQ.out.2.1.cell 0).trans rfl
                          have x64 : wr.cell? ⟨gx, 4, none⟩ = some (.int .i64 bk.x.e) := (HQ.out.2.1.cell 4).trans rfl
                          obtain ⟨um, hum⟩ : ∃ um, un.2 = um := ⟨_, rfl⟩
                          rw [hum] at hstp2 ⊢
                          rw [HH4.out] at hTG
                          have hx4 := HH4.out
                          by_cases hte : (t : Int) = bk.x.e
                          · have hk4 : (blk F k).x.k = 4 := by rw [HBK.out]; exact eq_of_beq hx4
                            have hTG2 : tgtF F k sl t = jmF F k sl := by rw [hTG, hte]; simp
                            rw [hTG2] at hstp2
                            have HSTP := Lib.hid hstp2
                            have HJP := Lib.hid (jumped_any gp F sv _ rv tov inv ouv (.slice (some ⟨g5, 0, none⟩) R c5) sl k hkt hk4 wr (HPA.out.below hBq) HQ.out.1.bools (by rw [HLS.out, HR.out.1.1]))
                            have HQ6 := Lib.hid (And.intro HQ.out (And.intro ho y1))
                            have hgxl := HQ.out.2.1.lt
                            rw [← hte] at x64
                            clear hte ho hstp hstp2 hTG hTG2 hrow hum hun ht hBq mc hil2 hk4
                            go_wp2_with fail
                            refine HJP.out.mono ?_
                            rintro e w7 ⟨⟨v7, rfl, ho7⟩, hb7⟩
                            have hl7 : (jmF F k sl).length = R := by rw [jmF_len, HLS.out]
                            obtain ⟨A7, c7, rfl, -, -⟩ := ho7.form
                            rw [hl7] at ho7
                            have y17 := (hb7.cell (p := ⟨w.heap.size, t, none⟩) (cell_lt y1)).trans y1
                            have HT := Lib.hid (show Bools w7 (.slice A7 R c7) (jmF F k sl) ∧ (jmF F k sl).length = R ∧ ∀ q, (Value.slice A7 R c7).ownBlock = some q → gx < q from ⟨ho7.bools, hl7, fun q hq => by have := ho7.ge q hq; omega⟩)
                            have HQ7 := Lib.hid (show OwnB w7 (gx + 1) (.slice (some ⟨g5, 0, none⟩) R c5) sl ∧ Blk w7 gx 43 (exA bk.x) ∧ OwnB w7 w.heap.size (.slice (some ⟨gs t, 0, none⟩) R R) row ∧ UnD w F w.heap.size gD gs un.1 v.dn w7 from ⟨HQ6.out.1.1.below hb7, HQ6.out.1.2.1.below hb7 hgxl, HQ6.out.2.1.below hb7, HQ6.out.1.2.2.below hb7⟩)
                            rw [hl7]
                            clear ho7 hb7 hl7 HJP HQ6 y1 y2
                            have hal := below1 w7 (.cells #[.slice A7 R c7] 66)
                            have HJ := setJoin_any (.slice (some ⟨gs t, 0, none⟩) R R) (.slice A7 R c7) row (jmF F k sl) w.heap.size w7.heap.size (w7.alloc (.cells #[.slice A7 R c7] 66)) (HQ7.out.2.2.1.below hal) (HT.out.1.below hal) (by rw [HT.out.2.1, hrl]) (by omega) (fun q hq e => by
                              have h7 := HT.out.2.2 q hq
                              have e7 : q = gs t := by simpa [Value.ownBlock] using e.symm
                              have := HGS.out t htn ht3
                              omega) (((Blk.new w7 66 #[.slice A7 R c7]).cell 0).trans rfl) (fun e => by
                              have e7 : w7.heap.size = gs t := by simpa [Value.ownBlock] using e.symm
                              have := HGS.out t htn ht3
                              have := HQ7.out.2.1.lt
                              omega)
                            rw [hrl] at HJ
                            have HJ2 := Lib.hid HJ
                            have HAL := Lib.hid hal
                            clear HJ hal
                            go_wp2_with fail
                            refine HJ2.out.mono ?_
                            rintro e w8 ⟨rfl, ho8, hk8⟩
                            have hk9 : Keeps (fun q => q = gs t) (w7.alloc (.cells #[.slice A7 R c7] 66)) w8 := hk8.mono (fun q _ e => by simpa [Value.ownBlock] using e.symm)
                            have HN := Lib.hid (show OwnB w8 (gx + 1) (.slice (some ⟨g5, 0, none⟩) R c5) sl ∧ Blk w8 gx 43 (exA bk.x) ∧ UnD w F w.heap.size gD gs (un.1.set t (jnB row (jmF F k sl) R)) v.dn w8 from by
                              have hg := HGS.out t htn ht3
                              refine ⟨(HQ7.out.1.below HAL.out).keeps hk9 (fun q hq e => by
                                have := HQ7.out.1.ge q hq
                                omega), (HQ7.out.2.1.below HAL.out HQ7.out.2.1.lt).keeps hk9 (by omega), UnD.join (HQ7.out.2.2.2.below HAL.out) htn ht3 hk9 (by rw [HR.out.1.1]; exact ho8) (by rw [jnB_len, hrl, HR.out.1.1])⟩)
                            obtain ⟨mb, hmb⟩ : ∃ mb, moB row (jmF F k sl) R = mb := ⟨_, rfl⟩
                            rw [hmb] at HSTP ⊢
                            clear hmb ho8 hk8 hk9 HJ2 HAL HQ7 HT HQ
                            cases mb with
                            | true =>
                              go_wp2_with fail
                              go_roundw
                              case rel => exact ⟨j + 1, by omega, by go_num, by rw [HSTP.out]; simp, by rw [HSTP.out]; exact HN.out⟩
                              case measure => simp [intOf]; omega
                            | false =>
                              go_wp2_with fail
                              go_roundw
                              case rel => exact ⟨j + 1, by omega, by go_num, by rw [HSTP.out]; simp, by rw [HSTP.out]; exact HN.out⟩
                              case measure => simp [intOf]; omega
                          · have hTG2 : tgtF F k sl t = sl := by
                              rw [hTG]
                              have : ((t : Int) == bk.x.e) = false := by simpa using hte
                              rw [this]; rfl
                            rw [hTG2] at hstp2
                            clear hTG2
                            have HSTP := Lib.hid hstp2
                            have HT := Lib.hid (show Bools wr (.slice (some ⟨g5, 0, none⟩) R c5) sl ∧ sl.length = R ∧ ∀ q, (.slice (some ⟨g5, 0, none⟩) R c5 : Value).ownBlock = some q → gx < q from ⟨HQ.out.1.bools, HLS.out, fun q hq => by have := HQ.out.1.ge q hq; omega⟩)
                            have HQ7 := Lib.hid (show OwnB wr (gx + 1) (.slice (some ⟨g5, 0, none⟩) R c5) sl ∧ Blk wr gx 43 (exA bk.x) ∧ OwnB wr w.heap.size (.slice (some ⟨gs t, 0, none⟩) R R) row ∧ UnD w F w.heap.size gD gs un.1 v.dn wr from ⟨HQ.out.1, HQ.out.2.1, ho, HQ.out.2.2⟩)
                            clear ho hstp hstp2 hTG hrow hum hun ht hBq mc hil2
                            have hal := below1 wr (.cells #[.slice (some ⟨g5, 0, none⟩) R c5] 66)
                            have HJ := setJoin_any (.slice (some ⟨gs t, 0, none⟩) R R) (.slice (some ⟨g5, 0, none⟩) R c5) row (sl) w.heap.size wr.heap.size (wr.alloc (.cells #[.slice (some ⟨g5, 0, none⟩) R c5] 66)) (HQ7.out.2.2.1.below hal) (HT.out.1.below hal) (by rw [HT.out.2.1, hrl]) (by omega) (fun q hq e => by
                              have h7 := HT.out.2.2 q hq
                              have e7 : q = gs t := by simpa [Value.ownBlock] using e.symm
                              have := HGS.out t htn ht3
                              omega) (((Blk.new wr 66 #[.slice (some ⟨g5, 0, none⟩) R c5]).cell 0).trans rfl) (fun e => by
                              have e7 : wr.heap.size = gs t := by simpa [Value.ownBlock] using e.symm
                              have := HGS.out t htn ht3
                              have := HQ7.out.2.1.lt
                              omega)
                            rw [hrl] at HJ
                            have HJ2 := Lib.hid HJ
                            have HAL := Lib.hid hal
                            clear HJ hal
                            go_wp2_with fail
                            refine HJ2.out.mono ?_
                            rintro e w8 ⟨rfl, ho8, hk8⟩
                            have hk9 : Keeps (fun q => q = gs t) (wr.alloc (.cells #[.slice (some ⟨g5, 0, none⟩) R c5] 66)) w8 := hk8.mono (fun q _ e => by simpa [Value.ownBlock] using e.symm)
                            have HN := Lib.hid (show OwnB w8 (gx + 1) (.slice (some ⟨g5, 0, none⟩) R c5) sl ∧ Blk w8 gx 43 (exA bk.x) ∧ UnD w F w.heap.size gD gs (un.1.set t (jnB row (sl) R)) v.dn w8 from by
                              have hg := HGS.out t htn ht3
                              refine ⟨(HQ7.out.1.below HAL.out).keeps hk9 (fun q hq e => by
                                have := HQ7.out.1.ge q hq
                                omega), (HQ7.out.2.1.below HAL.out HQ7.out.2.1.lt).keeps hk9 (by omega), UnD.join (HQ7.out.2.2.2.below HAL.out) htn ht3 hk9 (by rw [HR.out.1.1]; exact ho8) (by rw [jnB_len, hrl, HR.out.1.1])⟩)
                            obtain ⟨mb, hmb⟩ : ∃ mb, moB row (sl) R = mb := ⟨_, rfl⟩
                            rw [hmb] at HSTP ⊢
                            clear hmb ho8 hk8 hk9 HJ2 HAL HQ7 HT HQ
                            cases mb with
                            | true =>
                              go_wp2_with fail
                              go_roundw
                              case rel => exact ⟨j + 1, by omega, by go_num, by rw [HSTP.out]; simp, by rw [HSTP.out]; exact HN.out⟩
                              case measure => simp [intOf]; omega
                            | false =>
                              go_wp2_with fail
                              go_roundw
                              case rel => exact ⟨j + 1, by omega, by go_num, by rw [HSTP.out]; simp, by rw [HSTP.out]; exact HN.out⟩
                              case measure => simp [intOf]; omega
                        · have hje : j = el.length := by omega
                          subst hje
                          rw [List.take_length] at HQ ⊢
                          obtain ⟨un, hun⟩ : ∃ un, unE F k sl el (v.ins, mo) = un := ⟨_, rfl⟩
                          rw [hun] at HQ HUB ⊢
                          obtain ⟨um, hum⟩ : ∃ um, un.2 = um := ⟨_, rfl⟩
                          rw [hum] at HUB ⊢
                          obtain ⟨db, hdb, dc⟩ := HQ.out.2.2.d.val k (by rw [HQ.out.2.2.dl]; exact hkt)
                          have df := HQ.out.2.2.d.frozen k
                          rw [hdb] at HUB
                          have HQ8 := Lib.hid HQ.out.2.2
                          cases db with
                          | true =>
                            have hdn2 : v.dn.set k true = v.dn := by
                              have := set_getD_self v.dn k
                              rw [hdb] at this; exact this
                            rw [hdn2] at HUB
                            clear HQ hun hum hdb hdn2
                            go_wp2_with fail
                            go_roundw
                            case rel => exact ⟨k + 1, by omega, by go_num, by rw [HUB.out]; simp, by rw [HUB.out]; exact HQ8.out⟩
                            case measure => simp [intOf]; omega
                          | false =>
                            clear HQ hun hum hdb
                            go_wp2_with fail
                            go_roundw
                            case rel => exact ⟨k + 1, by omega, by go_num, by rw [HUB.out]; simp, by rw [HUB.out]; exact HQ8.out.done k⟩
                            case measure => simp [intOf]; omega
                · have hke : k = F.bl.length := by omega
                  subst hke
                  rw [HUR.out.1] at HW ⊢
                  go_wp2_with fail
                  go_roundg f
                  case rel => exact ⟨unR F u, rfl, HW.out, HV2.out⟩
                  case measure => omega
end Go.Proofs.YtlmoblmkhicoeaaGreatDoor
