/- Walk: asm.Check. Conditions: what each theorem states. -/
import Derived.Test.YteoglkofeogknaaGreatDoorGA
import Derived.Deep.CutRange
import Derived.Test.YteoglkofeogknaaGreatDoorKZ
set_option linter.unusedVariables false
set_option linter.unusedSimpArgs false
namespace Go.Proofs.YteoglkofeogknaaGreatDoor
open Go.RowKit
set_option maxRecDepth 100000 in
set_option maxHeartbeats 4000000 in
theorem check_long (A1 : Option Addr) (n1 k1 : Nat) (A2 : Option Addr) (n2 k2 : Nat) (A3 : Option Addr) (n3 k3 : Nat) (A4 : Option Addr) (n4 k4 : Nat) (w : World) (h : decide (1048576 < n1) = true ∨ (decide (1048576 < n1) = false ∧ decide (1048576 < n2) = true) ∨ (decide (1048576 < n1) = false ∧ decide (1048576 < n2) = false ∧ decide (4096 < n3) = true) ∨ (decide (1048576 < n1) = false ∧ decide (1048576 < n2) = false ∧ decide (4096 < n3) = false ∧ decide (16384 < n4) = true)) :
    Calls Tryz.prog 18 #[.agg #[.slice A1 n1 k1, .slice A2 n2 k2, .slice A3 n3 k3, .slice A4 n4 k4]] w fun e w' => e = .returned (.int .i64 3) ∧ Below w.heap.size w w' := by
  simp only [decide_eq_true_eq, decide_eq_false_iff_not] at h
  rcases h with h1 | ⟨h1, h2⟩ | ⟨h1, h2, h3⟩ | ⟨h1, h2, h3, h4⟩
  all_goals
    go_enter Tryz.func18, Tryz.ntmps18
    go_wp2_with fail
    all_goals
      go_ret
      exact ⟨rfl, (Below.refl _ _).alloc (Nat.le_refl _) _⟩
set_option maxRecDepth 100000 in
set_option maxHeartbeats 40000000 in
theorem check_main (o : Ob) (A1 : Option Addr) (k1 : Nat) (A2 : Option Addr) (k2 : Nat) (A3 : Option Addr) (n3 k3 : Nat) (A4 : Option Addr) (n4 k4 : Nat) (w : World) (h : ObAt w (.slice A1 o.tx.length k1) (.slice A2 o.dt.length k2) (.slice A3 n3 k3) (.slice A4 n4 k4) o) (h3 : o.lb.length = n3) (h4 : o.rl.length = n4) (hm1 : o.tx.length ≤ 1048576) (hm2 : o.dt.length ≤ 1048576) (hm3 : n3 ≤ 4096) (hm4 : n4 ≤ 16384) (ho : OpsAt w) (h0 : 0 < w.heap.size) (hnm : NmOK o) (R : Int) (hR : Hid (chkO o = R)) :
    Calls Tryz.prog 18 #[.agg #[.slice A1 o.tx.length k1, .slice A2 o.dt.length k2, .slice A3 n3 k3, .slice A4 n4 k4]] w fun e w' => e = .returned (.int .i64 R) ∧ Below w.heap.size w w' := by
  have HL : Hid (longO o = false) := by
    unfold longO
    show _ = _
    simp
    omega
  have HO := Lib.hid h
  have HOP := Lib.hid ho
  have HNM := Lib.hid hnm
  have HN3 := Lib.hid h3
  have HN4 := Lib.hid h4
  clear h ho hnm h3 h4
  obtain ⟨n1, hn1⟩ : ∃ n1, o.tx.length = n1 := ⟨_, rfl⟩
  obtain ⟨n2, hn2⟩ : ∃ n2, o.dt.length = n2 := ⟨_, rfl⟩
  rw [hn1] at hm1 HO ⊢
  rw [hn2] at hm2 HO ⊢
  have HN1 := Lib.hid hn1
  have HN2 := Lib.hid hn2
  clear hn1 hn2
  have hmm := @run_makeMap Tryz.prog
  obtain ⟨p, hp⟩ : ∃ p, w.heap.size = p := ⟨_, rfl⟩
  have HST : Hid (Below p w ((w.alloc (.cells #[.slice A1 n1 k1, .slice A2 n2 k2, .slice A3 n3 k3, .slice A4 n4 k4] 41)).alloc (.map #[] 0)) ∧ p + 2 ≤ ((w.alloc (.cells #[.slice A1 n1 k1, .slice A2 n2 k2, .slice A3 n3 k3, .slice A4 n4 k4] 41)).alloc (.map #[] 0)).heap.size ∧ BoxO ((w.alloc (.cells #[.slice A1 n1 k1, .slice A2 n2 k2, .slice A3 n3 k3, .slice A4 n4 k4] 41)).alloc (.map #[] 0)) p (.slice A1 n1 k1) (.slice A2 n2 k2) (.slice A3 n3 k3) (.slice A4 n4 k4) ∧ SetAt ((w.alloc (.cells #[.slice A1 n1 k1, .slice A2 n2 k2, .slice A3 n3 k3, .slice A4 n4 k4] 41)).alloc (.map #[] 0)) (p + 1) 0 ((o.lb.take 0).map Lbl.nm)) := by
    subst hp
    refine ⟨((Below.refl _ _).alloc (Nat.le_refl _) _).alloc (by simp) _, by simp, (BoxO.fresh w _ _ _ _ _).below ((Below.refl _ _).alloc (Nat.le_refl _) _), ?_⟩
    have := SetAt.new (w.alloc (.cells #[.slice A1 n1 k1, .slice A2 n2 k2, .slice A3 n3 k3, .slice A4 n4 k4] 41))
    simpa using this
  have HP := Lib.hid hp
  rw [hp]
  rw [hp] at h0
  go_enter Tryz.func18, Tryz.ntmps18
  go_wp2_with fail
  go_loopw [36] (fun i wr => ∃ k : Nat, k ≤ n3 ∧ i = .int .i64 k ∧ Hid ((List.range k).any (badL o) = false) ∧ Hid (Below p w wr ∧ p + 2 ≤ wr.heap.size ∧ BoxO wr p (.slice A1 n1 k1) (.slice A2 n2 k2) (.slice A3 n3 k3) (.slice A4 n4 k4) ∧ SetAt wr (p + 1) k ((o.lb.take k).map Lbl.nm))) (fun i _ => n3 - (intOf i).toNat)
  case atStart => exact ⟨0, Nat.zero_le _, rfl, rfl, HST.out⟩
  case round =>
    obtain ⟨k, hk, rfl, HA, HI⟩ := hrel
    by_cases hlt : k < n3
    · have hkl : k < o.lb.length := by rw [HN3.out]; exact hlt
      obtain ⟨g3, off3, rfl, hg3, hc3⟩ := HO.out.lb.at_ (by omega)
      obtain ⟨x, hx⟩ : ∃ x, o.lb.getD k default = x := ⟨_, rfl⟩
      have hcx := hc3 k hkl
      rw [hx] at hcx
      have hmem : x ∈ o.lb := by rw [← hx]; simp [List.getD, hkl]
      have HXN : Hid (x.nm.size ≤ maxLen) := HNM.out.1 x hmem
      have HX := Lib.hid hx
      obtain ⟨nm, sec, at_, gl⟩ := x
      dsimp only at hcx HXN
      have hbw : ∀ {a : Addr} {v : Value}, w.cell? a = some v → wr.cell? a = some v := fun h => (HI.out.1.cell (by have := cell_lt h; rw [HP.out] at this; exact this)).trans h
      obtain ⟨c0, c1, c2, c3⟩ := hcx
      replace c0 := hbw c0
      replace c1 := hbw c1
      replace c2 := hbw c2
      replace c3 := hbw c3
      clear hbw hmem hx hg3
      have HC3 := Lib.hid hc3
      clear hc3
      go_upto_region 7 with fail
      obtain ⟨q, hq⟩ : ∃ q, wr.heap.size = q := ⟨_, rfl⟩
      rw [hq]
      obtain ⟨w1, hw1⟩ : ∃ w1, wr.alloc (.cells #[.string nm, .int .i64 sec, .int .i64 at_, .bool gl] 68) = w1 := ⟨_, rfl⟩
      rw [hw1]
      have HC := Lib.hid (ck_mk HI.out.2.2.1 HXN.out HI.out.2.2.2 HI.out.1 HI.out.2.1 gl 68 hq hw1)
      have HQ : Hid (p + 2 ≤ q) := by show p + 2 ≤ q; rw [← hq]; exact HI.out.2.1
      clear hw1 hq HI c0 c1 c2 c3
      obtain ⟨LB, hLB⟩ : ∃ LB, lblB o (o.lb.take k) ⟨nm, sec, at_, gl⟩ = LB := ⟨_, rfl⟩
      have HLB := Lib.hid hLB
      clear hLB
      go_cut [75] from 41 to 106 (fun c W => c = .bool LB ∧ Hid (W.cell? ⟨p, 0, none⟩ = some (.slice A1 n1 k1) ∧ W.cell? ⟨p, 1, none⟩ = some (.slice A2 n2 k2) ∧ W.cell? ⟨p, 2, none⟩ = some (.slice (some ⟨g3, off3, none⟩) n3 k3) ∧ W.cell? ⟨p, 3, none⟩ = some (.slice A4 n4 k4) ∧ W.cell? ⟨q, 0, none⟩ = some (.string nm) ∧ W.cell? ⟨q, 1, none⟩ = some (.int .i64 sec) ∧ W.cell? ⟨q, 2, none⟩ = some (.int .i64 at_) ∧ (Instr.lookup 75 (.map (some (p + 1))) (.string nm) false).run Tryz.prog W = .ok (.bool (amongB ((o.lb.take k).map Lbl.nm) nm)) W ∧ SetAt W (p + 1) k ((o.lb.take k).map Lbl.nm) ∧ Below p w W ∧ p + 2 ≤ W.heap.size))
      case first => as_aux_lemma =>
        rename_i a5 Q2 K2 a4 K1 a3 K0 a2 J Kp a1 aM
        clear a5 a4 a3 a2
        clear HA HX HL hR HC3 HN1 HN2 HN3 HN4 HNM HST HQ hmm
        have HSY : Hid (∀ W, Below p w W ∧ p + 2 ≤ W.heap.size → Calls Tryz.prog 36 #[.string nm] W fun e w' => e = .returned (.bool (symA nm)) ∧ Below W.heap.size W w') := fun W hW => by
          have hb : Below w.heap.size w W := by rw [HP.out]; exact hW.1
          have hp0 := HP.out
          exact sym_any nm W HXN.out (HOP.out.below (by omega) hb) (by omega)
        clear HOP
        obtain ⟨AB, hAB⟩ : ∃ AB, amongB ((o.lb.take k).map Lbl.nm) nm = AB := ⟨_, rfl⟩
        have HAB := Lib.hid hAB
        replace HC : Hid (w1.cell? ⟨p, 0, none⟩ = some (.slice A1 n1 k1) ∧ w1.cell? ⟨p, 1, none⟩ = some (.slice A2 n2 k2) ∧ w1.cell? ⟨p, 2, none⟩ = some (.slice (some ⟨g3, off3, none⟩) n3 k3) ∧ w1.cell? ⟨p, 3, none⟩ = some (.slice A4 n4 k4) ∧ w1.cell? ⟨q, 0, none⟩ = some (.string nm) ∧ w1.cell? ⟨q, 1, none⟩ = some (.int .i64 sec) ∧ w1.cell? ⟨q, 2, none⟩ = some (.int .i64 at_) ∧ (Instr.lookup 75 (.map (some (p + 1))) (.string nm) false).run Tryz.prog w1 = .ok (.bool AB) w1 ∧ SetAt w1 (p + 1) k ((o.lb.take k).map Lbl.nm) ∧ Below p w w1 ∧ p + 2 ≤ w1.heap.size) := by have := HC.out; rw [hAB] at this; exact this
        clear hAB
        cases c1 : symA nm with
        | false =>
          rw [c1] at HSY
          refine wp_region_held_drew (S := (fun W => W.cell? ⟨p, 0, none⟩ = some (.slice A1 n1 k1) ∧ W.cell? ⟨p, 1, none⟩ = some (.slice A2 n2 k2) ∧ W.cell? ⟨p, 2, none⟩ = some (.slice (some ⟨g3, off3, none⟩) n3 k3) ∧ W.cell? ⟨p, 3, none⟩ = some (.slice A4 n4 k4) ∧ W.cell? ⟨q, 0, none⟩ = some (.string nm) ∧ W.cell? ⟨q, 1, none⟩ = some (.int .i64 sec) ∧ W.cell? ⟨q, 2, none⟩ = some (.int .i64 at_) ∧ (Instr.lookup 75 (.map (some (p + 1))) (.string nm) false).run Tryz.prog W = .ok (.bool AB) W ∧ SetAt W (p + 1) k ((o.lb.take k).map Lbl.nm) ∧ Below p w W ∧ p + 2 ≤ W.heap.size)) (by kernel_rfl) ?_ (fun hHeld => ?_)
          · exact ck_step HC.out ((Below.refl _ _).drew) HXN.out HAB.out
          refine FU 35 rfl ?_
          iterate 2 ((first | (refine TN 35 ?_ rfl ?_ ?_; rotate_left 1; focus (intro w h; (try dsimp only at h); first | (go_simp; done) | (go_simp; with_reducible rfl))) | refine TM 35 rfl ?_); (try simp only [AP, Nat.reduceAdd, Nat.reduceSub]))
          refine wpAnyH_ready (rs := [2]) (by kernel_rfl) (by simp) ?_
          refine AllReadyH.cons rfl (fun K hK => ?_) AllReadyH.nil
          rw [if_pos (by rfl)]
          go_simp
          go_at_call 36; refine (HSY.out _ (ck_b hHeld)).mono ?_; rintro e w2 ⟨rfl, hb⟩; have t1 := ck_step hHeld hb HXN.out HAB.out; clear hb
          try go_wp2_with fail
          refine hK.out _ _ t1 (fun hHeld => ?_)
          clear hK K
          try simp only [AP]
          iterate 32 ((first | (refine TN 35 ?_ rfl ?_ ?_; rotate_left 1; focus (intro w h; (try dsimp only at h); first | (go_simp; done) | (go_simp; with_reducible rfl))) | refine TM 35 rfl ?_); (try simp only [AP, Nat.reduceAdd, Nat.reduceSub]))
          refine wpAnyH_done (by kernel_rfl) ?_ _
          have HLBV : Hid (LB = true) := by show _ = _; rw [← HLB.out]; simp only [lblB, HAB.out]; simp [c1]
          go_wp2_with fail
          go_meet
          case rel => exact ⟨by rw [HLBV.out], by rw [HAB.out]; exact t1⟩
        | true =>
          rw [c1] at HSY
          cases AB with
          | true =>
            refine wp_region_held_drew (S := (fun W => W.cell? ⟨p, 0, none⟩ = some (.slice A1 n1 k1) ∧ W.cell? ⟨p, 1, none⟩ = some (.slice A2 n2 k2) ∧ W.cell? ⟨p, 2, none⟩ = some (.slice (some ⟨g3, off3, none⟩) n3 k3) ∧ W.cell? ⟨p, 3, none⟩ = some (.slice A4 n4 k4) ∧ W.cell? ⟨q, 0, none⟩ = some (.string nm) ∧ W.cell? ⟨q, 1, none⟩ = some (.int .i64 sec) ∧ W.cell? ⟨q, 2, none⟩ = some (.int .i64 at_) ∧ (Instr.lookup 75 (.map (some (p + 1))) (.string nm) false).run Tryz.prog W = .ok (.bool true) W ∧ SetAt W (p + 1) k ((o.lb.take k).map Lbl.nm) ∧ Below p w W ∧ p + 2 ≤ W.heap.size)) (by kernel_rfl) ?_ (fun hHeld => ?_)
            · exact ck_step HC.out ((Below.refl _ _).drew) HXN.out HAB.out
            refine FU 35 rfl ?_
            iterate 2 ((first | (refine TN 35 ?_ rfl ?_ ?_; rotate_left 1; focus (intro w h; (try dsimp only at h); first | (go_simp; done) | (go_simp; with_reducible rfl))) | refine TM 35 rfl ?_); (try simp only [AP, Nat.reduceAdd, Nat.reduceSub]))
            refine wpAnyH_ready (rs := [2]) (by kernel_rfl) (by simp) ?_
            refine AllReadyH.cons rfl (fun K hK => ?_) AllReadyH.nil
            rw [if_pos (by rfl)]
            go_simp
            go_at_call 36; refine (HSY.out _ (ck_b hHeld)).mono ?_; rintro e w2 ⟨rfl, hb⟩; have t1 := ck_step hHeld hb HXN.out HAB.out; clear hb
            try go_wp2_with fail
            refine hK.out _ _ t1 (fun hHeld => ?_)
            clear hK K
            try simp only [AP]
            iterate 32 ((first | (refine TN 35 ?_ rfl ?_ ?_; rotate_left 1; focus (intro w h; (try dsimp only at h); first | (go_simp; done) | (go_simp; with_reducible rfl))) | refine TM 35 rfl ?_); (try simp only [AP, Nat.reduceAdd, Nat.reduceSub]))
            refine wpAnyH_done (by kernel_rfl) ?_ _
            have HLBV : Hid (LB = true) := by show _ = _; rw [← HLB.out]; simp only [lblB, HAB.out]; simp [c1]
            go_wp2_with fail
            go_meet
            case rel => exact ⟨by rw [HLBV.out], by rw [HAB.out]; exact t1⟩
          | false =>
            by_cases c3 : sec < 0
            · refine wp_region_held_drew (S := (fun W => W.cell? ⟨p, 0, none⟩ = some (.slice A1 n1 k1) ∧ W.cell? ⟨p, 1, none⟩ = some (.slice A2 n2 k2) ∧ W.cell? ⟨p, 2, none⟩ = some (.slice (some ⟨g3, off3, none⟩) n3 k3) ∧ W.cell? ⟨p, 3, none⟩ = some (.slice A4 n4 k4) ∧ W.cell? ⟨q, 0, none⟩ = some (.string nm) ∧ W.cell? ⟨q, 1, none⟩ = some (.int .i64 sec) ∧ W.cell? ⟨q, 2, none⟩ = some (.int .i64 at_) ∧ (Instr.lookup 75 (.map (some (p + 1))) (.string nm) false).run Tryz.prog W = .ok (.bool false) W ∧ SetAt W (p + 1) k ((o.lb.take k).map Lbl.nm) ∧ Below p w W ∧ p + 2 ≤ W.heap.size)) (by kernel_rfl) ?_ (fun hHeld => ?_)
              · exact ck_step HC.out ((Below.refl _ _).drew) HXN.out HAB.out
              refine FU 35 rfl ?_
              iterate 2 ((first | (refine TN 35 ?_ rfl ?_ ?_; rotate_left 1; focus (intro w h; (try dsimp only at h); first | (go_simp; done) | (go_simp; with_reducible rfl))) | refine TM 35 rfl ?_); (try simp only [AP, Nat.reduceAdd, Nat.reduceSub]))
              refine wpAnyH_ready (rs := [2]) (by kernel_rfl) (by simp) ?_
              refine AllReadyH.cons rfl (fun K hK => ?_) AllReadyH.nil
              rw [if_pos (by rfl)]
              go_simp
              go_at_call 36; refine (HSY.out _ (ck_b hHeld)).mono ?_; rintro e w2 ⟨rfl, hb⟩; have t1 := ck_step hHeld hb HXN.out HAB.out; clear hb
              try go_wp2_with fail
              refine hK.out _ _ t1 (fun hHeld => ?_)
              clear hK K
              try simp only [AP]
              iterate 32 ((first | (refine TN 35 ?_ rfl ?_ ?_; rotate_left 1; focus (intro w h; (try dsimp only at h); first | (go_simp; done) | (go_simp; with_reducible rfl))) | refine TM 35 rfl ?_); (try simp only [AP, Nat.reduceAdd, Nat.reduceSub]))
              refine wpAnyH_done (by kernel_rfl) ?_ _
              have HLBV : Hid (LB = true) := by show _ = _; rw [← HLB.out]; simp only [lblB, HAB.out]; simp [c1, c3]
              go_wp2_with fail
              go_meet
              case rel => exact ⟨by rw [HLBV.out], by rw [HAB.out]; exact t1⟩
            have d3 : decide (sec < 0) = false := decide_eq_false c3
            by_cases c4 : 1 < sec
            · refine wp_region_held_drew (S := (fun W => W.cell? ⟨p, 0, none⟩ = some (.slice A1 n1 k1) ∧ W.cell? ⟨p, 1, none⟩ = some (.slice A2 n2 k2) ∧ W.cell? ⟨p, 2, none⟩ = some (.slice (some ⟨g3, off3, none⟩) n3 k3) ∧ W.cell? ⟨p, 3, none⟩ = some (.slice A4 n4 k4) ∧ W.cell? ⟨q, 0, none⟩ = some (.string nm) ∧ W.cell? ⟨q, 1, none⟩ = some (.int .i64 sec) ∧ W.cell? ⟨q, 2, none⟩ = some (.int .i64 at_) ∧ (Instr.lookup 75 (.map (some (p + 1))) (.string nm) false).run Tryz.prog W = .ok (.bool false) W ∧ SetAt W (p + 1) k ((o.lb.take k).map Lbl.nm) ∧ Below p w W ∧ p + 2 ≤ W.heap.size)) (by kernel_rfl) ?_ (fun hHeld => ?_)
              · exact ck_step HC.out ((Below.refl _ _).drew) HXN.out HAB.out
              refine FU 35 rfl ?_
              iterate 2 ((first | (refine TN 35 ?_ rfl ?_ ?_; rotate_left 1; focus (intro w h; (try dsimp only at h); first | (go_simp; done) | (go_simp; with_reducible rfl))) | refine TM 35 rfl ?_); (try simp only [AP, Nat.reduceAdd, Nat.reduceSub]))
              refine wpAnyH_ready (rs := [2]) (by kernel_rfl) (by simp) ?_
              refine AllReadyH.cons rfl (fun K hK => ?_) AllReadyH.nil
              rw [if_pos (by rfl)]
              go_simp
              go_at_call 36; refine (HSY.out _ (ck_b hHeld)).mono ?_; rintro e w2 ⟨rfl, hb⟩; have t1 := ck_step hHeld hb HXN.out HAB.out; clear hb
              try go_wp2_with fail
              refine hK.out _ _ t1 (fun hHeld => ?_)
              clear hK K
              try simp only [AP]
              iterate 32 ((first | (refine TN 35 ?_ rfl ?_ ?_; rotate_left 1; focus (intro w h; (try dsimp only at h); first | (go_simp; done) | (go_simp; with_reducible rfl))) | refine TM 35 rfl ?_); (try simp only [AP, Nat.reduceAdd, Nat.reduceSub]))
              refine wpAnyH_done (by kernel_rfl) ?_ _
              have HLBV : Hid (LB = true) := by show _ = _; rw [← HLB.out]; simp only [lblB, HAB.out]; simp [c1, c3, c4]
              go_wp2_with fail
              go_meet
              case rel => exact ⟨by rw [HLBV.out], by rw [HAB.out]; exact t1⟩
            have d4 : decide (1 < sec) = false := decide_eq_false c4
            by_cases c5 : at_ < 0
            · refine wp_region_held_drew (S := (fun W => W.cell? ⟨p, 0, none⟩ = some (.slice A1 n1 k1) ∧ W.cell? ⟨p, 1, none⟩ = some (.slice A2 n2 k2) ∧ W.cell? ⟨p, 2, none⟩ = some (.slice (some ⟨g3, off3, none⟩) n3 k3) ∧ W.cell? ⟨p, 3, none⟩ = some (.slice A4 n4 k4) ∧ W.cell? ⟨q, 0, none⟩ = some (.string nm) ∧ W.cell? ⟨q, 1, none⟩ = some (.int .i64 sec) ∧ W.cell? ⟨q, 2, none⟩ = some (.int .i64 at_) ∧ (Instr.lookup 75 (.map (some (p + 1))) (.string nm) false).run Tryz.prog W = .ok (.bool false) W ∧ SetAt W (p + 1) k ((o.lb.take k).map Lbl.nm) ∧ Below p w W ∧ p + 2 ≤ W.heap.size)) (by kernel_rfl) ?_ (fun hHeld => ?_)
              · exact ck_step HC.out ((Below.refl _ _).drew) HXN.out HAB.out
              refine FU 35 rfl ?_
              iterate 2 ((first | (refine TN 35 ?_ rfl ?_ ?_; rotate_left 1; focus (intro w h; (try dsimp only at h); first | (go_simp; done) | (go_simp; with_reducible rfl))) | refine TM 35 rfl ?_); (try simp only [AP, Nat.reduceAdd, Nat.reduceSub]))
              refine wpAnyH_ready (rs := [2]) (by kernel_rfl) (by simp) ?_
              refine AllReadyH.cons rfl (fun K hK => ?_) AllReadyH.nil
              rw [if_pos (by rfl)]
              go_simp
              go_at_call 36; refine (HSY.out _ (ck_b hHeld)).mono ?_; rintro e w2 ⟨rfl, hb⟩; have t1 := ck_step hHeld hb HXN.out HAB.out; clear hb
              try go_wp2_with fail
              refine hK.out _ _ t1 (fun hHeld => ?_)
              clear hK K
              try simp only [AP]
              iterate 32 ((first | (refine TN 35 ?_ rfl ?_ ?_; rotate_left 1; focus (intro w h; (try dsimp only at h); first | (go_simp; done) | (go_simp; with_reducible rfl))) | refine TM 35 rfl ?_); (try simp only [AP, Nat.reduceAdd, Nat.reduceSub]))
              refine wpAnyH_done (by kernel_rfl) ?_ _
              have HLBV : Hid (LB = true) := by show _ = _; rw [← HLB.out]; simp only [lblB, HAB.out]; simp [c1, c3, c4, c5]
              go_wp2_with fail
              go_meet
              case rel => exact ⟨by rw [HLBV.out], by rw [HAB.out]; exact t1⟩
            have d5 : decide (at_ < 0) = false := decide_eq_false c5
            obtain ⟨As, ks, hv, ls⟩ := (HO.out.sec sec).form
            have HPT : Hid (∀ W, Calls Tryz.prog 37 #[.agg #[.slice A1 n1 k1, .slice A2 n2 k2, .slice (some ⟨g3, off3, none⟩) n3 k3, .slice A4 n4 k4], .int .i64 sec] W fun e w' => e = .returned (.slice As (o.sec sec).length ks) ∧ Below W.heap.size W w') := fun W => by
              rw [← hv]
              exact part_any _ _ _ _ sec W
            clear hv ls HO
            by_cases c6 : ((o.sec sec).length : Int) < at_
            · have HC6 := Lib.hid c6
              obtain ⟨ns, hns⟩ : ∃ ns, (o.sec sec).length = ns := ⟨_, rfl⟩
              rw [hns] at HPT c6
              have HNS := Lib.hid hns
              clear hns
              refine wp_region_held_drew (S := (fun W => W.cell? ⟨p, 0, none⟩ = some (.slice A1 n1 k1) ∧ W.cell? ⟨p, 1, none⟩ = some (.slice A2 n2 k2) ∧ W.cell? ⟨p, 2, none⟩ = some (.slice (some ⟨g3, off3, none⟩) n3 k3) ∧ W.cell? ⟨p, 3, none⟩ = some (.slice A4 n4 k4) ∧ W.cell? ⟨q, 0, none⟩ = some (.string nm) ∧ W.cell? ⟨q, 1, none⟩ = some (.int .i64 sec) ∧ W.cell? ⟨q, 2, none⟩ = some (.int .i64 at_) ∧ (Instr.lookup 75 (.map (some (p + 1))) (.string nm) false).run Tryz.prog W = .ok (.bool false) W ∧ SetAt W (p + 1) k ((o.lb.take k).map Lbl.nm) ∧ Below p w W ∧ p + 2 ≤ W.heap.size)) (by kernel_rfl) ?_ (fun hHeld => ?_)
              · exact ck_step HC.out ((Below.refl _ _).drew) HXN.out HAB.out
              refine FU 35 rfl ?_
              iterate 2 ((first | (refine TN 35 ?_ rfl ?_ ?_; rotate_left 1; focus (intro w h; (try dsimp only at h); first | (go_simp; done) | (go_simp; with_reducible rfl))) | refine TM 35 rfl ?_); (try simp only [AP, Nat.reduceAdd, Nat.reduceSub]))
              refine wpAnyH_ready (rs := [2]) (by kernel_rfl) (by simp) ?_
              refine AllReadyH.cons rfl (fun K hK => ?_) AllReadyH.nil
              rw [if_pos (by rfl)]
              go_simp
              go_at_call 36; refine (HSY.out _ (ck_b hHeld)).mono ?_; rintro e w2 ⟨rfl, hb⟩; have t1 := ck_step hHeld hb HXN.out HAB.out; clear hb
              try go_wp2_with fail
              refine hK.out _ _ t1 (fun hHeld => ?_)
              clear hK K
              try simp only [AP]
              iterate 28 ((first | (refine TN 35 ?_ rfl ?_ ?_; rotate_left 1; focus (intro w h; (try dsimp only at h); first | (go_simp; done) | (go_simp; with_reducible rfl))) | refine TM 35 rfl ?_); (try simp only [AP, Nat.reduceAdd, Nat.reduceSub]))
              refine wpAnyH_ready (rs := [31]) (by kernel_rfl) (by simp) ?_
              refine AllReadyH.cons rfl (fun K hK => ?_) AllReadyH.nil
              rw [if_pos (by rfl)]
              go_simp
              go_at_call 37; refine (HPT.out _).mono ?_; rintro e w3 ⟨rfl, hb⟩; have t2 := ck_step hHeld hb HXN.out HAB.out; clear hb
              try go_wp2_with fail
              refine hK.out _ _ t2 (fun hHeld => ?_)
              clear hK K
              try simp only [AP]
              iterate 3 ((first | (refine TN 35 ?_ rfl ?_ ?_; rotate_left 1; focus (intro w h; (try dsimp only at h); first | (go_simp; done) | (go_simp; with_reducible rfl))) | refine TM 35 rfl ?_); (try simp only [AP, Nat.reduceAdd, Nat.reduceSub]))
              refine wpAnyH_done (by kernel_rfl) ?_ _
              have HLBV : Hid (LB = true) := by show _ = _; rw [← HLB.out]; simp only [lblB, HAB.out]; simp [c1, c3, c4, c5, HC6.out]
              go_wp2_with fail
              go_meet
              case rel => exact ⟨by rw [HLBV.out], by rw [HAB.out]; exact t2⟩
            · have HC6 := Lib.hid c6
              obtain ⟨ns, hns⟩ : ∃ ns, (o.sec sec).length = ns := ⟨_, rfl⟩
              rw [hns] at HPT c6
              have HNS := Lib.hid hns
              have d6 : decide ((ns : Int) < at_) = false := decide_eq_false c6
              clear hns
              refine wp_region_held_drew (S := (fun W => W.cell? ⟨p, 0, none⟩ = some (.slice A1 n1 k1) ∧ W.cell? ⟨p, 1, none⟩ = some (.slice A2 n2 k2) ∧ W.cell? ⟨p, 2, none⟩ = some (.slice (some ⟨g3, off3, none⟩) n3 k3) ∧ W.cell? ⟨p, 3, none⟩ = some (.slice A4 n4 k4) ∧ W.cell? ⟨q, 0, none⟩ = some (.string nm) ∧ W.cell? ⟨q, 1, none⟩ = some (.int .i64 sec) ∧ W.cell? ⟨q, 2, none⟩ = some (.int .i64 at_) ∧ (Instr.lookup 75 (.map (some (p + 1))) (.string nm) false).run Tryz.prog W = .ok (.bool false) W ∧ SetAt W (p + 1) k ((o.lb.take k).map Lbl.nm) ∧ Below p w W ∧ p + 2 ≤ W.heap.size)) (by kernel_rfl) ?_ (fun hHeld => ?_)
              · exact ck_step HC.out ((Below.refl _ _).drew) HXN.out HAB.out
              refine FU 35 rfl ?_
              iterate 2 ((first | (refine TN 35 ?_ rfl ?_ ?_; rotate_left 1; focus (intro w h; (try dsimp only at h); first | (go_simp; done) | (go_simp; with_reducible rfl))) | refine TM 35 rfl ?_); (try simp only [AP, Nat.reduceAdd, Nat.reduceSub]))
              refine wpAnyH_ready (rs := [2]) (by kernel_rfl) (by simp) ?_
              refine AllReadyH.cons rfl (fun K hK => ?_) AllReadyH.nil
              rw [if_pos (by rfl)]
              go_simp
              go_at_call 36; refine (HSY.out _ (ck_b hHeld)).mono ?_; rintro e w2 ⟨rfl, hb⟩; have t1 := ck_step hHeld hb HXN.out HAB.out; clear hb
              try go_wp2_with fail
              refine hK.out _ _ t1 (fun hHeld => ?_)
              clear hK K
              try simp only [AP]
              iterate 28 ((first | (refine TN 35 ?_ rfl ?_ ?_; rotate_left 1; focus (intro w h; (try dsimp only at h); first | (go_simp; done) | (go_simp; with_reducible rfl))) | refine TM 35 rfl ?_); (try simp only [AP, Nat.reduceAdd, Nat.reduceSub]))
              refine wpAnyH_ready (rs := [31]) (by kernel_rfl) (by simp) ?_
              refine AllReadyH.cons rfl (fun K hK => ?_) AllReadyH.nil
              rw [if_pos (by rfl)]
              go_simp
              go_at_call 37; refine (HPT.out _).mono ?_; rintro e w3 ⟨rfl, hb⟩; have t2 := ck_step hHeld hb HXN.out HAB.out; clear hb
              try go_wp2_with fail
              refine hK.out _ _ t2 (fun hHeld => ?_)
              clear hK K
              try simp only [AP]
              iterate 3 ((first | (refine TN 35 ?_ rfl ?_ ?_; rotate_left 1; focus (intro w h; (try dsimp only at h); first | (go_simp; done) | (go_simp; with_reducible rfl))) | refine TM 35 rfl ?_); (try simp only [AP, Nat.reduceAdd, Nat.reduceSub]))
              refine wpAnyH_done (by kernel_rfl) ?_ _
              have HLBV : Hid (LB = false) := by show _ = _; rw [← HLB.out]; simp only [lblB, HAB.out]; simp [c1, c3, c4, c5, HC6.out]
              go_wp2_with fail
              go_meet
              case rel => exact ⟨by rw [HLBV.out], by rw [HAB.out]; exact t2⟩
      case rest => as_aux_lemma =>
        obtain ⟨rfl, HC2⟩ := hcut
        cases LB with
        | true =>
          have hfin : R = 5 := by
            rw [← hR.out]
            exact chk_badL HL.out hkl (by unfold badL; rw [HX.out, HLB.out, Bool.true_or])
          have HF := Lib.hid hfin
          clear hfin
          go_wp2_with fail
          go_ret
          exact ⟨ret_er HF.out.symm, HC2.out.2.2.2.2.2.2.2.2.2.1⟩
        | false =>
          obtain ⟨w2, hrun, hset, hgrow⟩ := HC2.out.2.2.2.2.2.2.2.2.1.put nm HXN.out (by unfold maxLen; omega)
          have hk2 : Keeps (fun i => i = p + 1) wc w2 := (Keeps.refl _ _).grown hgrow (fun g hg => Or.inr (by injection hg with hg; exact hg.symm))
          have HN2' : Hid (SetAt w2 (p + 1) (k + 1) ((o.lb.take (k + 1)).map Lbl.nm)) := by
            have e : o.lb.take (k + 1) = o.lb.take k ++ [⟨nm, sec, at_, gl⟩] := by
              rw [List.take_succ_eq_append_getElem hkl]
              congr 2
              rw [← HX.out]; simp [List.getD, hkl]
            rw [e, List.map_append]
            exact hset
          have HB2 : Hid (Below p w w2 ∧ p + 2 ≤ w2.heap.size ∧ BoxO w2 p (.slice A1 n1 k1) (.slice A2 n2 k2) (.slice (some ⟨g3, off3, none⟩) n3 k3) (.slice A4 n4 k4)) := by
            obtain ⟨a0, a1, a2, a3, _, _, _, _, _, h1, h2⟩ := HC2.out
            exact ⟨below_keeps h1 hk2 (fun i hi e => by omega), Nat.le_trans h2 hk2.size, BoxO.keeps ⟨a0, a1, a2, a3⟩ hk2 (by omega)⟩
          have HQ2 : Hid (w2.cell? ⟨q, 1, none⟩ = some (.int .i64 sec) ∧ w2.cell? ⟨q, 2, none⟩ = some (.int .i64 at_) ∧ q < w2.heap.size) := by
            obtain ⟨_, _, _, _, _, b1, b2, _⟩ := HC2.out
            have hq := cell_lt b1
            have hqp := HQ.out
            exact ⟨(hk2.cell (p := ⟨q, 1, none⟩) hq (by show ¬ q = p + 1; omega)).trans b1, (hk2.cell (p := ⟨q, 2, none⟩) hq (by show ¬ q = p + 1; omega)).trans b2, Nat.lt_of_lt_of_le hq hk2.size⟩
          have b0 := HC2.out.2.2.2.2.1
          clear hset hgrow hk2 HC2
          rcases Nat.eq_zero_or_pos k with hk0 | hk0
          · have HA2 : Hid ((List.range (k + 1)).any (badL o) = false) := rng_miss HA.out (by unfold badL; rw [HX.out, HLB.out, hk0]; rfl)
            have hk1 : ¬ (0 : Int) < (k : Int) := by omega
            have e4 : IntKind.i64.wrap ((k : Int) + 1) = ((k + 1 : Nat) : Int) := by rw [IntWalk.i64_in _ (by omega)]; omega
            clear hk0
            go_wp2_with fail
            go_roundw
            case rel => exact ⟨k + 1, by omega, rfl, HA2.out, HB2.out.1, HB2.out.2.1, HB2.out.2.2, HN2'.out⟩
            case measure => simp [intOf]; omega
          · obtain ⟨j, rfl⟩ : ∃ j, k = j + 1 := ⟨k - 1, by omega⟩
            obtain ⟨y, hy⟩ : ∃ y, o.lb.getD j default = y := ⟨_, rfl⟩
            have hcy := HC3.out j (by omega)
            rw [hy] at hcy
            have HY := Lib.hid hy
            clear hy
            obtain ⟨ynm, ysec, yat, ygl⟩ := y
            dsimp only at hcy
            have hbw : ∀ {a : Addr} {v : Value}, w.cell? a = some v → w2.cell? a = some v := fun h => (HB2.out.1.cell (by have := cell_lt h; rw [HP.out] at this; exact this)).trans h
            obtain ⟨c0, c1, c2, c3⟩ := hcy
            replace c0 := hbw c0
            replace c1 := hbw c1
            replace c2 := hbw c2
            replace c3 := hbw c3
            clear hbw
            have e1 : IntKind.i64.wrap (((j + 1 : Nat) : Int) - 1) = (j : Int) := by rw [IntWalk.i64_in _ (by omega)]; omega
            have e2 : (0 : Int) < ((j + 1 : Nat) : Int) := by omega
            have e3 : (j : Int) < (n3 : Int) := by omega
            have e4 : IntKind.i64.wrap (((j + 1 : Nat) : Int) + 1) = ((j + 2 : Nat) : Int) := by rw [IntWalk.i64_in _ (by omega)]; omega
            have bx : w2.cell? ⟨p, 2, none⟩ = some (.slice (some ⟨g3, off3, none⟩) n3 k3) := HB2.out.2.2.2.2.1
            go_upto_region 12 with fail
            obtain ⟨q2, hq2⟩ : ∃ q2, w2.heap.size = q2 := ⟨_, rfl⟩
            rw [hq2]
            obtain ⟨w3, hw3⟩ : ∃ w3, w2.alloc (.cells #[.string ynm, .int .i64 ysec, .int .i64 yat, .bool ygl] 68) = w3 := ⟨_, rfl⟩
            rw [hw3]
            have hbb : Below w2.heap.size w2 w3 := by rw [← hw3]; exact (Below.refl _ _).alloc (Nat.le_refl _) _
            have hY := (Blk.new w2 68 #[.string ynm, .int .i64 ysec, .int .i64 yat, .bool ygl]).cell
            rw [hw3, hq2] at hY
            have y1 : w3.cell? ⟨q2, 1, none⟩ = some (.int .i64 ysec) := by rw [hY]; rfl
            have y2 : w3.cell? ⟨q2, 2, none⟩ = some (.int .i64 yat) := by rw [hY]; rfl
            have z1 : w3.cell? ⟨q, 1, none⟩ = some (.int .i64 sec) := (hbb.cell (p := ⟨q, 1, none⟩) HQ2.out.2.2).trans HQ2.out.1
            have z2 : w3.cell? ⟨q, 2, none⟩ = some (.int .i64 at_) := (hbb.cell (p := ⟨q, 2, none⟩) HQ2.out.2.2).trans HQ2.out.2.1
            have HI3 : Hid (Below p w w3 ∧ p + 2 ≤ w3.heap.size ∧ BoxO w3 p (.slice A1 n1 k1) (.slice A2 n2 k2) (.slice (some ⟨g3, off3, none⟩) n3 k3) (.slice A4 n4 k4) ∧ SetAt w3 (p + 1) (j + 1 + 1) ((o.lb.take (j + 1 + 1)).map Lbl.nm)) :=
              ⟨HB2.out.1.trans (hbb.mono (by have := HB2.out.2.1; omega)), Nat.le_trans HB2.out.2.1 hbb.size, HB2.out.2.2.below hbb, HN2'.out.below hbb⟩
            clear hbb hY hw3 hq2 c0 c1 c2 c3 HN2' HB2 HQ2 hrun
            have HBD : Hid (badL o (j + 1) = ordB ⟨ynm, ysec, yat, ygl⟩ ⟨nm, sec, at_, gl⟩) := by
              show _ = _
              unfold badL
              rw [HX.out, HLB.out, Nat.add_sub_cancel, HY.out]
              simp
            cases hor : ordB ⟨ynm, ysec, yat, ygl⟩ ⟨nm, sec, at_, gl⟩ with
            | true =>
              have hfin : R = 5 := by
                rw [← hR.out]
                exact chk_badL HL.out hkl (by rw [HBD.out, hor])
              have HF := Lib.hid hfin
              clear hfin
              have hcs : sec < ysec ∨ (decide (sec < ysec) = false ∧ ysec = sec ∧ at_ < yat) := by
                unfold ordB at hor
                simp at hor ⊢
                omega
              clear hor
              rcases hcs with d1 | ⟨d1, rfl, d2⟩
              all_goals
                go_wp2_with fail
                all_goals
                  go_ret
                  exact ⟨ret_er HF.out.symm, HI3.out.1⟩
            | false =>
              have HA2 : Hid ((List.range (j + 1 + 1)).any (badL o) = false) := rng_miss HA.out (by rw [HBD.out, hor])
              have hcs : (decide (sec < ysec) = false ∧ (ysec == sec) = false) ∨ (ysec = sec ∧ decide (at_ < yat) = false) := by
                unfold ordB at hor
                by_cases h : ysec = sec
                · subst h
                  simp at hor ⊢
                  omega
                · simp [h] at hor ⊢
                  omega
              clear hor
              rcases hcs with ⟨d1, d2⟩ | ⟨rfl, d2⟩
              all_goals
                go_wp2_with fail
                go_roundw
                case rel => exact ⟨j + 1 + 1, by omega, rfl, HA2.out, HI3.out⟩
                case measure => simp [intOf]; omega
    · have hkn : k = n3 := by omega
      subst hkn
      have HAL := Lib.hid HA.out
      have bx : wr.cell? ⟨p, 3, none⟩ = some (.slice A4 n4 k4) := HI.out.2.2.1.2.2.2
      have HST2 : Hid (Below p w wr ∧ p + 2 ≤ wr.heap.size ∧ BoxO wr p (.slice A1 n1 k1) (.slice A2 n2 k2) (.slice A3 k k3) (.slice A4 n4 k4)) := ⟨HI.out.1, HI.out.2.1, HI.out.2.2.1⟩
      clear HI HA HST hlt
      go_wp2_with fail
      generalize wr = ws at *
      clear bx
      go_loopw [110] (fun i wr => ∃ j : Nat, j ≤ n4 ∧ i = .int .i64 j ∧ Hid ((List.range j).any (badR o) = false) ∧ Hid (Below p w wr ∧ p + 2 ≤ wr.heap.size ∧ BoxO wr p (.slice A1 n1 k1) (.slice A2 n2 k2) (.slice A3 k k3) (.slice A4 n4 k4))) (fun i _ => n4 - (intOf i).toNat)
      case atStart => exact ⟨0, Nat.zero_le _, rfl, rfl, HST2.out⟩
      case round =>
        clear HST2
        obtain ⟨j, hj, rfl, HA, HI⟩ := hrel
        by_cases hlt : j < n4
        · have hjl : j < o.rl.length := by rw [HN4.out]; exact hlt
          obtain ⟨g4, off4, rfl, hg4, hc4⟩ := HO.out.rl.at_ (by omega)
          obtain ⟨x, hx⟩ : ∃ x, o.rl.getD j default = x := ⟨_, rfl⟩
          have hcx := hc4 j hjl
          rw [hx] at hcx
          have hmem : x ∈ o.rl := by rw [← hx]; simp [List.getD, hjl]
          have HXN : Hid (x.nm.size ≤ maxLen) := HNM.out.2 x hmem
          have HX := Lib.hid hx
          have hbw : ∀ {a : Addr} {v : Value}, w.cell? a = some v → wr.cell? a = some v := fun h => (HI.out.1.cell (by have := cell_lt h; rw [HP.out] at this; exact this)).trans h
          have HFT : Hid (∀ W, Below p w W → Calls Tryz.prog 38 #[.agg #[.slice A1 n1 k1, .slice A2 n2 k2, .slice A3 k k3, .slice (some ⟨g4, off4, none⟩) n4 k4], .agg #[.int .i64 x.sec, .int .i64 x.at_, .int .i64 x.kd, .int .i64 x.add, .string x.nm]] W fun e w' => e = .returned (.bool (fitsP o x)) ∧ Below W.heap.size W w') := fun W hW => by
            rw [← HP.out] at hW
            have := HP.out
            exact fits_any _ _ _ _ o x W (HO.out.below hW) (HOP.out.below (by omega) hW) (Nat.lt_of_lt_of_le (by omega) hW.size) HXN.out
          obtain ⟨sec, at_, kd, add, nm⟩ := x
          dsimp only at hcx HXN HFT
          obtain ⟨c0, c1, c2, c3, c4⟩ := hcx
          replace c0 := hbw c0
          replace c1 := hbw c1
          replace c2 := hbw c2
          replace c3 := hbw c3
          replace c4 := hbw c4
          clear hbw hmem hx hg4
          have HC4 := Lib.hid hc4
          clear hc4
          go_upto_region 18 with fail
          obtain ⟨q, hq⟩ : ∃ q, wr.heap.size = q := ⟨_, rfl⟩
          rw [hq]
          obtain ⟨w1, hw1⟩ : ∃ w1, wr.alloc (.cells #[.int .i64 sec, .int .i64 at_, .int .i64 kd, .int .i64 add, .string nm] 51) = w1 := ⟨_, rfl⟩
          rw [hw1]
          have hbb : Below wr.heap.size wr w1 := by rw [← hw1]; exact (Below.refl _ _).alloc (Nat.le_refl _) _
          have hY := (Blk.new wr 51 #[.int .i64 sec, .int .i64 at_, .int .i64 kd, .int .i64 add, .string nm]).cell
          rw [hw1, hq] at hY
          have b0 : w1.cell? ⟨q, 0, none⟩ = some (.int .i64 sec) := by rw [hY]; rfl
          have b1 : w1.cell? ⟨q, 1, none⟩ = some (.int .i64 at_) := by rw [hY]; rfl
          have b2 : w1.cell? ⟨q, 2, none⟩ = some (.int .i64 kd) := by rw [hY]; rfl
          have b3 : w1.cell? ⟨q, 3, none⟩ = some (.int .i64 add) := by rw [hY]; rfl
          have b4 : w1.cell? ⟨q, 4, none⟩ = some (.string nm) := by rw [hY]; rfl
          have HI1 : Hid (Below p w w1 ∧ p + 2 ≤ w1.heap.size ∧ BoxO w1 p (.slice A1 n1 k1) (.slice A2 n2 k2) (.slice A3 k k3) (.slice (some ⟨g4, off4, none⟩) n4 k4)) :=
            ⟨HI.out.1.trans (hbb.mono (by have := HI.out.2.1; omega)), Nat.le_trans HI.out.2.1 hbb.size, HI.out.2.2.below hbb⟩
          have HQ : Hid (w1.cell? ⟨q, 0, none⟩ = some (.int .i64 sec) ∧ w1.cell? ⟨q, 1, none⟩ = some (.int .i64 at_)) := ⟨b0, b1⟩
          clear hbb hY hw1 hq c0 c1 c2 c3 c4 HI
          obtain ⟨a0, a1, a2, a3⟩ := HI1.out.2.2
          go_wp2_with fail
          refine (HFT.out _ HI1.out.1).mono ?_
          rintro e w2 ⟨rfl, hb⟩
          have HI2 : Hid (Below p w w2 ∧ p + 2 ≤ w2.heap.size ∧ BoxO w2 p (.slice A1 n1 k1) (.slice A2 n2 k2) (.slice A3 k k3) (.slice (some ⟨g4, off4, none⟩) n4 k4)) :=
            ⟨HI1.out.1.trans (hb.mono (by have := HI1.out.2.1; omega)), Nat.le_trans HI1.out.2.1 hb.size, HI1.out.2.2.below hb⟩
          have HQ2 : Hid (w2.cell? ⟨q, 0, none⟩ = some (.int .i64 sec) ∧ w2.cell? ⟨q, 1, none⟩ = some (.int .i64 at_)) := ⟨(hb.cell (cell_lt HQ.out.1)).trans HQ.out.1, (hb.cell (cell_lt HQ.out.2)).trans HQ.out.2⟩
          clear hb HI1 HQ HFT a0 a1 a2 a3 b0 b1 b2 b3 b4
          cases hft : fitsP o ⟨sec, at_, kd, add, nm⟩ with
          | false =>
            have hfin : R = 5 := by
              rw [← hR.out]
              exact chk_badR HL.out hjl (by unfold badR; rw [HX.out, hft]; rfl)
            have HF := Lib.hid hfin
            clear hfin hft
            go_wp2_with fail
            go_ret
            exact ⟨ret_er HF.out.symm, HI2.out.1⟩
          | true =>
            have HFT := Lib.hid hft
            clear hft
            rcases Nat.eq_zero_or_pos j with hj0 | hj0
            · have HA2 : Hid ((List.range (j + 1)).any (badR o) = false) := rng_miss HA.out (by unfold badR; rw [HX.out, HFT.out, hj0]; rfl)
              have hj1 : ¬ (0 : Int) < (j : Int) := by omega
              have e4 : IntKind.i64.wrap ((j : Int) + 1) = ((j + 1 : Nat) : Int) := by rw [IntWalk.i64_in _ (by omega)]; omega
              clear hj0
              go_wp2_with fail
              go_roundw
              case rel => exact ⟨j + 1, by omega, rfl, HA2.out, HI2.out⟩
              case measure => simp [intOf]; omega
            · obtain ⟨i, rfl⟩ : ∃ i, j = i + 1 := ⟨j - 1, by omega⟩
              obtain ⟨y, hy⟩ : ∃ y, o.rl.getD i default = y := ⟨_, rfl⟩
              have hcy := HC4.out i (by omega)
              rw [hy] at hcy
              have HY := Lib.hid hy
              clear hy
              obtain ⟨ysec, yat, ykd, yadd, ynm⟩ := y
              dsimp only at hcy
              have hbw : ∀ {a : Addr} {v : Value}, w.cell? a = some v → w2.cell? a = some v := fun h => (HI2.out.1.cell (by have := cell_lt h; rw [HP.out] at this; exact this)).trans h
              obtain ⟨c0, c1, c2, c3, c4⟩ := hcy
              replace c0 := hbw c0
              replace c1 := hbw c1
              replace c2 := hbw c2
              replace c3 := hbw c3
              replace c4 := hbw c4
              clear hbw
              have e1 : IntKind.i64.wrap (((i + 1 : Nat) : Int) - 1) = (i : Int) := by rw [IntWalk.i64_in _ (by omega)]; omega
              have e2 : (0 : Int) < ((i + 1 : Nat) : Int) := by omega
              have e3 : (i : Int) < (n4 : Int) := by omega
              have e4 : IntKind.i64.wrap (((i + 1 : Nat) : Int) + 1) = ((i + 2 : Nat) : Int) := by rw [IntWalk.i64_in _ (by omega)]; omega
              have bx : w2.cell? ⟨p, 3, none⟩ = some (.slice (some ⟨g4, off4, none⟩) n4 k4) := HI2.out.2.2.2.2.2
              go_upto_region 22 with fail
              obtain ⟨q2, hq2⟩ : ∃ q2, w2.heap.size = q2 := ⟨_, rfl⟩
              rw [hq2]
              obtain ⟨w3, hw3⟩ : ∃ w3, w2.alloc (.cells #[.int .i64 ysec, .int .i64 yat, .int .i64 ykd, .int .i64 yadd, .string ynm] 51) = w3 := ⟨_, rfl⟩
              rw [hw3]
              have hbb : Below w2.heap.size w2 w3 := by rw [← hw3]; exact (Below.refl _ _).alloc (Nat.le_refl _) _
              have hY := (Blk.new w2 51 #[.int .i64 ysec, .int .i64 yat, .int .i64 ykd, .int .i64 yadd, .string ynm]).cell
              rw [hw3, hq2] at hY
              have y1 : w3.cell? ⟨q2, 0, none⟩ = some (.int .i64 ysec) := by rw [hY]; rfl
              have y2 : w3.cell? ⟨q2, 1, none⟩ = some (.int .i64 yat) := by rw [hY]; rfl
              have z1 : w3.cell? ⟨q, 0, none⟩ = some (.int .i64 sec) := (hbb.cell (cell_lt HQ2.out.1)).trans HQ2.out.1
              have z2 : w3.cell? ⟨q, 1, none⟩ = some (.int .i64 at_) := (hbb.cell (cell_lt HQ2.out.2)).trans HQ2.out.2
              have HI3 : Hid (Below p w w3 ∧ p + 2 ≤ w3.heap.size ∧ BoxO w3 p (.slice A1 n1 k1) (.slice A2 n2 k2) (.slice A3 k k3) (.slice (some ⟨g4, off4, none⟩) n4 k4)) :=
                ⟨HI2.out.1.trans (hbb.mono (by have := HI2.out.2.1; omega)), Nat.le_trans HI2.out.2.1 hbb.size, HI2.out.2.2.below hbb⟩
              clear hbb hY hw3 hq2 c0 c1 c2 c3 c4 HI2 HQ2 bx
              have HBD : Hid (badR o (i + 1) = ordR ⟨ysec, yat, ykd, yadd, ynm⟩ ⟨sec, at_, kd, add, nm⟩) := by
                show _ = _
                unfold badR
                rw [HX.out, HFT.out, Nat.add_sub_cancel, HY.out]
                simp
              cases hor : ordR ⟨ysec, yat, ykd, yadd, ynm⟩ ⟨sec, at_, kd, add, nm⟩ with
              | true =>
                have hfin : R = 5 := by
                  rw [← hR.out]
                  exact chk_badR HL.out hjl (by rw [HBD.out, hor])
                have HF := Lib.hid hfin
                clear hfin
                have hcs : sec < ysec ∨ (decide (sec < ysec) = false ∧ ysec = sec ∧ at_ ≤ yat) := by
                  unfold ordR at hor
                  simp at hor ⊢
                  omega
                clear hor
                rcases hcs with d1 | ⟨d1, rfl, d2⟩
                all_goals
                  go_wp2_with fail
                  all_goals
                    go_ret
                    exact ⟨ret_er HF.out.symm, HI3.out.1⟩
              | false =>
                have HA2 : Hid ((List.range (i + 1 + 1)).any (badR o) = false) := rng_miss HA.out (by rw [HBD.out, hor])
                have hcs : (decide (sec < ysec) = false ∧ (ysec == sec) = false) ∨ (ysec = sec ∧ decide (at_ ≤ yat) = false) := by
                  unfold ordR at hor
                  by_cases h : ysec = sec
                  · subst h
                    simp at hor ⊢
                    omega
                  · simp [h] at hor ⊢
                    omega
                clear hor
                rcases hcs with ⟨d1, d2⟩ | ⟨rfl, d2⟩
                all_goals
                  go_wp2_with fail
                  go_roundw
                  case rel => exact ⟨i + 1 + 1, by omega, rfl, HA2.out, HI3.out⟩
                  case measure => simp [intOf]; omega
        · have hjn : j = n4 := by omega
          subst hjn
          have hfin : R = 0 := by
            rw [← hR.out]
            exact chk_good HL.out (by rw [HN3.out]; exact HAL.out) (by rw [HN4.out]; exact HA.out)
          have HF := Lib.hid hfin
          clear hfin
          go_wp2_with fail
          go_ret
          exact ⟨ret_er HF.out.symm, HI.out.1⟩
end Go.Proofs.YteoglkofeogknaaGreatDoor
