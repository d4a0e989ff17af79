/- Walk: law05's copied: the copies are rows of the call's own. Conditions: what the theorem states. -/
import Derived.Test.YtlgdfacaeahcaaaDoorKA
set_option linter.unnecessarySimpa false
set_option linter.unusedVariables false
set_option linter.unusedSimpArgs false
namespace Go.Proofs.YtlgdfacaeahcaaaDoor
open Go.RowKit
set_option maxRecDepth 100000 in
set_option maxHeartbeats 4000000 in
theorem copied_own (v1 v2 v3 v4 : Value) (o : Ob) (w : World) (h : ObAt w v1 v2 v3 v4 o) (l1 : o.tx.length ≤ 1099511627776) (l2 : o.dt.length ≤ 1099511627776) (l3 : o.lb.length ≤ 1099511627776) (l4 : o.rl.length ≤ 1099511627776) :
    Calls Tryd.prog 4 #[.agg #[v1, v2, v3, v4]] w fun e w' => ∃ z1 z2 z3 z4, e = .returned (.agg #[z1, z2, z3, z4]) ∧ OwnB w' w.heap.size z1 o.tx ∧ OwnB w' w.heap.size z2 o.dt ∧ w'.ownsRow w.heap.size 45 4 z3 o.lb.length (o.lb.flatMap Lbl.cells) ∧ w'.ownsRow w.heap.size 48 5 z4 o.rl.length (o.rl.flatMap Rel.cells) ∧ Below w.heap.size w w' := by
  obtain ⟨p, hp⟩ : ∃ p, w.heap.size = p := ⟨_, rfl⟩
  have HO := Lib.hid h
  clear h
  go_enter Tryd.func4, Tryd.ntmps4
  go_wp2_with fail
  refine wp_region_inv (by kernel_rfl) (fun listed a W => listed.size = 16 ∧ CpJ (fun k => listed.getD k false) a w W p (p + 1) (p + 2) v1 v2 v3 v4 o) ?_ ?_ ?_
  · refine ⟨by simp, undef, undef, undef, undef, undef, undef, undef, undef, undef, undef, undef, undef, undef, undef, undef, rfl, ?_, fun h => by simp at h, fun h => by simp at h, fun h => by simp at h, fun h => by simp at h, fun h => by simp at h, fun h => by simp at h, fun h => by simp at h, fun h => by simp at h, fun h => by simp at h, fun h => by simp at h, fun h => by simp at h, fun h => by simp at h, fun h => by simp at h, fun h => by simp at h, fun h => by simp at h, fun h => by simp at h⟩
    subst hp
    have hq := blk_at (w := w.alloc (.cells #[v1, v2, v3, v4] 27)) (n := w.heap.size + 1) (by simp) 27 #[.slice none 0 0, .slice none 0 0, .slice none 0 0, .slice none 0 0]
    exact ⟨(((Below.refl _ _).alloc (Nat.le_refl _) _).alloc (by simp) _).drew, (BoxO.fresh w v1 v2 v3 v4 _).below ((Below.refl _ _).alloc (Nat.le_refl _) _).drew, by simp, by omega, ⟨_, _, _, _, hq⟩⟩
  · intro listed a W ⟨hsz, hJ⟩ i hi
    obtain ⟨hlt, hun⟩ := ready_un hi
    obtain ⟨d, hd⟩ : ∃ d : Nat → Bool, d = fun k => listed.getD k false := ⟨_, rfl⟩
    rw [← hd] at hJ
    obtain ⟨u3, u4, u5, u6, u7, u8, u9, u10, u11, u12, u13, u14, u15, u16, u17, rfl, hB, F0, F1, F2, F3, F4, F5, F6, F7, F8, F9, F10, F11, F12, F13, F14, F15⟩ := hJ
    have hlt2 : i < 16 := hlt
    clear hlt
    have hi16 : i = 0 ∨ i = 1 ∨ i = 2 ∨ i = 3 ∨ i = 4 ∨ i = 5 ∨ i = 6 ∨ i = 7 ∨ i = 8 ∨ i = 9 ∨ i = 10 ∨ i = 11 ∨ i = 12 ∨ i = 13 ∨ i = 14 ∨ i = 15 := by omega
    rcases hi16 with rfl | rfl | rfl | rfl | rfl | rfl | rfl | rfl | rfl | rfl | rfl | rfl | rfl | rfl | rfl | rfl
    · have hdi := un_d hd hun
      refine wpOp_step rfl (fun K hK => ?_)
      rw [if_pos (by rfl)]
      go_simp
      exact hK _ _ ⟨by simpa using hsz, by rw [upd_d hd hun]; exact ⟨_, _, _, _, _, _, _, _, _, _, _, _, _, _, _, rfl, hB, fun _ => rfl, by simpa using F1, by simpa using F2, by simpa using F3, by simpa using F4, by simpa using F5, by simpa using F6, by simpa using F7, by simpa using F8, by simpa using F9, by simpa using F10, by simpa using F11, by simpa using F12, by simpa using F13, by simpa using F14, by simpa using F15⟩⟩
    · have hdi := un_d hd hun
      have hdp := ready_dep hd hi rfl
      simp [Region.binds] at hdp
      obtain rfl := F0 (by simp [hdp])
      obtain ⟨a0, a1, a2, a3⟩ := hB.box
      refine wpOp_step rfl (fun K hK => ?_)
      rw [if_pos (by rfl)]
      go_simp
      exact hK _ _ ⟨by simpa using hsz, by rw [upd_d hd hun]; exact ⟨_, _, _, _, _, _, _, _, _, _, _, _, _, _, _, rfl, hB, by simpa using F0, fun _ => rfl, by simpa using F2, by simpa using F3, by simpa using F4, by simpa using F5, by simpa using F6, by simpa using F7, by simpa using F8, by simpa using F9, by simpa using F10, by simpa using F11, by simpa using F12, by simpa using F13, by simpa using F14, by simpa using F15⟩⟩
    · have hdi := un_d hd hun
      have hdp := ready_dep hd hi rfl
      simp [Region.binds] at hdp
      obtain rfl := F1 (by simp [hdp])
      refine wpOp_step rfl (fun K hK => ?_)
      rw [if_pos (by rfl)]
      go_simp
      go_at_call 9
      refine (bytes_any _ o.tx W (HO.out.tx.below (by rw [hp]; exact hB.below)) l1).mono ?_
      rintro e W2 ⟨z, rfl, hz, hb⟩
      have hz2 := ownsRow_lower hz hB.size
      try go_simp
      exact hK _ _ ⟨by simpa using hsz, by rw [upd_d hd hun]; exact ⟨_, _, _, _, _, _, _, _, _, _, _, _, _, _, _, rfl, hB.below_ hb, by simpa using F0, by simpa using F1, fun _ => hz2, by simpa using F3, by simpa using F4, fun h => own_below (F5 (by simpa using h)) hb, fun h => own_below (F6 (by simpa using h)) hb, by simpa using F7, by simpa using F8, fun h => ⟨own_below (F9 (by simpa using h)).1 hb, by simpa using (F9 (by simpa using h)).2⟩, fun h => own_below (F10 (by simpa using h)) hb, by simpa using F11, by simpa using F12, fun h => ⟨own_below (F13 (by simpa using h)).1 hb, by simpa using (F13 (by simpa using h)).2⟩, fun h => absurd (F14 (by simpa using h)).2.1 (by simp [hdi]), fun h => absurd ((F15 (by simpa using h)).2.2.2.2.1) (by simp [hdi])⟩⟩
    · have hdi := un_d hd hun
      refine wpOp_step rfl (fun K hK => ?_)
      rw [if_pos (by rfl)]
      go_simp
      exact hK _ _ ⟨by simpa using hsz, by rw [upd_d hd hun]; exact ⟨_, _, _, _, _, _, _, _, _, _, _, _, _, _, _, rfl, hB, by simpa using F0, by simpa using F1, by simpa using F2, fun _ => rfl, by simpa using F4, by simpa using F5, by simpa using F6, by simpa using F7, by simpa using F8, by simpa using F9, by simpa using F10, by simpa using F11, by simpa using F12, by simpa using F13, by simpa using F14, by simpa using F15⟩⟩
    · have hdi := un_d hd hun
      have hdp := ready_dep hd hi rfl
      simp [Region.binds] at hdp
      obtain rfl := F3 (by simp [hdp])
      obtain ⟨a0, a1, a2, a3⟩ := hB.box
      refine wpOp_step rfl (fun K hK => ?_)
      rw [if_pos (by rfl)]
      go_simp
      exact hK _ _ ⟨by simpa using hsz, by rw [upd_d hd hun]; exact ⟨_, _, _, _, _, _, _, _, _, _, _, _, _, _, _, rfl, hB, by simpa using F0, by simpa using F1, by simpa using F2, by simpa using F3, fun _ => rfl, by simpa using F5, by simpa using F6, by simpa using F7, by simpa using F8, by simpa using F9, by simpa using F10, by simpa using F11, by simpa using F12, by simpa using F13, by simpa using F14, by simpa using F15⟩⟩
    · have hdi := un_d hd hun
      have hdp := ready_dep hd hi rfl
      simp [Region.binds] at hdp
      obtain rfl := F4 (by simp [hdp])
      refine wpOp_step rfl (fun K hK => ?_)
      rw [if_pos (by rfl)]
      go_simp
      go_at_call 9
      refine (bytes_any _ o.dt W (HO.out.dt.below (by rw [hp]; exact hB.below)) l2).mono ?_
      rintro e W2 ⟨z, rfl, hz, hb⟩
      have hz2 := ownsRow_lower hz hB.size
      try go_simp
      exact hK _ _ ⟨by simpa using hsz, by rw [upd_d hd hun]; exact ⟨_, _, _, _, _, _, _, _, _, _, _, _, _, _, _, rfl, hB.below_ hb, by simpa using F0, by simpa using F1, fun h => own_below (F2 (by simpa using h)) hb, by simpa using F3, by simpa using F4, fun _ => hz2, fun h => own_below (F6 (by simpa using h)) hb, by simpa using F7, by simpa using F8, fun h => ⟨own_below (F9 (by simpa using h)).1 hb, by simpa using (F9 (by simpa using h)).2⟩, fun h => own_below (F10 (by simpa using h)) hb, by simpa using F11, by simpa using F12, fun h => ⟨own_below (F13 (by simpa using h)).1 hb, by simpa using (F13 (by simpa using h)).2⟩, fun h => absurd (F14 (by simpa using h)).2.2.1 (by simp [hdi]), fun h => absurd ((F15 (by simpa using h)).2.2.2.2.2.1) (by simp [hdi])⟩⟩
    · have hdi := un_d hd hun
      have hb : Below W.heap.size W (W.alloc (.cells #[] 45)) := (Below.refl _ _).alloc (Nat.le_refl _) _
      have hz := ownsRow_lower (empty_own (w := W) 45 4) hB.size
      refine wpOp_step rfl (fun K hK => ?_)
      rw [if_pos (by rfl)]
      go_simp
      exact hK _ _ ⟨by simpa using hsz, by rw [upd_d hd hun]; exact ⟨_, _, _, _, _, _, _, _, _, _, _, _, _, _, _, rfl, hB.below_ hb, by simpa using F0, by simpa using F1, fun h => own_below (F2 (by simpa using h)) hb, by simpa using F3, by simpa using F4, fun h => own_below (F5 (by simpa using h)) hb, fun _ => hz, by simpa using F7, by simpa using F8, fun h => ⟨own_below (F9 (by simpa using h)).1 hb, by simpa using (F9 (by simpa using h)).2⟩, fun h => own_below (F10 (by simpa using h)) hb, by simpa using F11, by simpa using F12, fun h => ⟨own_below (F13 (by simpa using h)).1 hb, by simpa using (F13 (by simpa using h)).2⟩, by simpa using F14, fun h => absurd ((F9 (F15 (by simpa using h)).2.2.2.2.2.2.1).2) (by simp [hdi])⟩⟩
    · have hdi := un_d hd hun
      refine wpOp_step rfl (fun K hK => ?_)
      rw [if_pos (by rfl)]
      go_simp
      exact hK _ _ ⟨by simpa using hsz, by rw [upd_d hd hun]; exact ⟨_, _, _, _, _, _, _, _, _, _, _, _, _, _, _, rfl, hB, by simpa using F0, by simpa using F1, by simpa using F2, by simpa using F3, by simpa using F4, by simpa using F5, by simpa using F6, fun _ => rfl, by simpa using F8, by simpa using F9, by simpa using F10, by simpa using F11, by simpa using F12, by simpa using F13, by simpa using F14, by simpa using F15⟩⟩
    · have hdi := un_d hd hun
      have hdp := ready_dep hd hi rfl
      simp [Region.binds] at hdp
      obtain rfl := F7 (by simp [hdp])
      obtain ⟨a0, a1, a2, a3⟩ := hB.box
      refine wpOp_step rfl (fun K hK => ?_)
      rw [if_pos (by rfl)]
      go_simp
      exact hK _ _ ⟨by simpa using hsz, by rw [upd_d hd hun]; exact ⟨_, _, _, _, _, _, _, _, _, _, _, _, _, _, _, rfl, hB, by simpa using F0, by simpa using F1, by simpa using F2, by simpa using F3, by simpa using F4, by simpa using F5, by simpa using F6, by simpa using F7, fun _ => rfl, by simpa using F9, by simpa using F10, by simpa using F11, by simpa using F12, by simpa using F13, by simpa using F14, by simpa using F15⟩⟩
    · have hdi := un_d hd hun
      have hdp := ready_dep hd hi rfl
      simp [Region.binds] at hdp
      have hme := F6 (by simp [hdp, hdi])
      obtain rfl := F8 (by simp [hdp])
      obtain ⟨z, W2, hap, hz, hg, _⟩ := app_any arowL 24 hme (HO.out.lb.below (by rw [hp]; exact hB.below)) (by rw [flatMap_len _ 4 (fun _ => rfl)]) (oneL o.lb) (by unfold maxLen; omega) (by omega) hB.size
      rw [Nat.zero_add, List.nil_append] at hz
      refine wpOp_step rfl (fun K hK => ?_)
      refine step_append_eq rfl (.tmp 9) (.tmp 11) 24 rfl rfl rfl hap ?_
      exact hK _ _ ⟨by simpa using hsz, by rw [upd_d hd hun]; exact ⟨_, _, _, _, _, _, _, _, _, _, _, _, _, _, _, rfl, hB.grown_ hme hg, by simpa using F0, by simpa using F1, fun h => own_grown (F2 (by simpa using h)) hme hg (by decide), by simpa using F3, by simpa using F4, fun h => own_grown (F5 (by simpa using h)) hme hg (by decide), fun h => by simp at h, by simpa using F7, by simpa using F8, fun _ => ⟨hz, by simp [hdp]⟩, fun h => own_grown (F10 (by simpa using h)) hme hg (by decide), by simpa using F11, by simpa using F12, fun h => ⟨own_grown (F13 (by simpa using h)).1 hme hg (by decide), by simpa using (F13 (by simpa using h)).2⟩, fun h => absurd (F14 (by simpa using h)).2.2.2.1 (by simp [hdi]), fun h => absurd ((F15 (by simpa using h)).2.2.2.2.2.2.1) (by simp [hdi])⟩⟩
    · have hdi := un_d hd hun
      have hb : Below W.heap.size W (W.alloc (.cells #[] 48)) := (Below.refl _ _).alloc (Nat.le_refl _) _
      have hz := ownsRow_lower (empty_own (w := W) 48 5) hB.size
      refine wpOp_step rfl (fun K hK => ?_)
      rw [if_pos (by rfl)]
      go_simp
      exact hK _ _ ⟨by simpa using hsz, by rw [upd_d hd hun]; exact ⟨_, _, _, _, _, _, _, _, _, _, _, _, _, _, _, rfl, hB.below_ hb, by simpa using F0, by simpa using F1, fun h => own_below (F2 (by simpa using h)) hb, by simpa using F3, by simpa using F4, fun h => own_below (F5 (by simpa using h)) hb, fun h => own_below (F6 (by simpa using h)) hb, by simpa using F7, by simpa using F8, fun h => ⟨own_below (F9 (by simpa using h)).1 hb, by simpa using (F9 (by simpa using h)).2⟩, fun _ => hz, by simpa using F11, by simpa using F12, fun h => ⟨own_below (F13 (by simpa using h)).1 hb, by simpa using (F13 (by simpa using h)).2⟩, by simpa using F14, fun h => absurd ((F13 (F15 (by simpa using h)).2.2.2.2.2.2.2).2) (by simp [hdi])⟩⟩
    · have hdi := un_d hd hun
      refine wpOp_step rfl (fun K hK => ?_)
      rw [if_pos (by rfl)]
      go_simp
      exact hK _ _ ⟨by simpa using hsz, by rw [upd_d hd hun]; exact ⟨_, _, _, _, _, _, _, _, _, _, _, _, _, _, _, rfl, hB, by simpa using F0, by simpa using F1, by simpa using F2, by simpa using F3, by simpa using F4, by simpa using F5, by simpa using F6, by simpa using F7, by simpa using F8, by simpa using F9, by simpa using F10, fun _ => rfl, by simpa using F12, by simpa using F13, by simpa using F14, by simpa using F15⟩⟩
    · have hdi := un_d hd hun
      have hdp := ready_dep hd hi rfl
      simp [Region.binds] at hdp
      obtain rfl := F11 (by simp [hdp])
      obtain ⟨a0, a1, a2, a3⟩ := hB.box
      refine wpOp_step rfl (fun K hK => ?_)
      rw [if_pos (by rfl)]
      go_simp
      exact hK _ _ ⟨by simpa using hsz, by rw [upd_d hd hun]; exact ⟨_, _, _, _, _, _, _, _, _, _, _, _, _, _, _, rfl, hB, by simpa using F0, by simpa using F1, by simpa using F2, by simpa using F3, by simpa using F4, by simpa using F5, by simpa using F6, by simpa using F7, by simpa using F8, by simpa using F9, by simpa using F10, by simpa using F11, fun _ => rfl, by simpa using F13, by simpa using F14, by simpa using F15⟩⟩
    · have hdi := un_d hd hun
      have hdp := ready_dep hd hi rfl
      simp [Region.binds] at hdp
      have hme := F10 (by simp [hdp, hdi])
      obtain rfl := F12 (by simp [hdp])
      obtain ⟨z, W2, hap, hz, hg, _⟩ := app_any arowR 25 hme (HO.out.rl.below (by rw [hp]; exact hB.below)) (by rw [flatMap_len _ 5 (fun _ => rfl)]) (oneR o.rl) (by unfold maxLen; omega) (by omega) hB.size
      rw [Nat.zero_add, List.nil_append] at hz
      refine wpOp_step rfl (fun K hK => ?_)
      refine step_append_eq rfl (.tmp 13) (.tmp 15) 25 rfl rfl rfl hap ?_
      exact hK _ _ ⟨by simpa using hsz, by rw [upd_d hd hun]; exact ⟨_, _, _, _, _, _, _, _, _, _, _, _, _, _, _, rfl, hB.grown_ hme hg, by simpa using F0, by simpa using F1, fun h => own_grown (F2 (by simpa using h)) hme hg (by decide), by simpa using F3, by simpa using F4, fun h => own_grown (F5 (by simpa using h)) hme hg (by decide), fun h => own_grown (F6 (by simpa using h)) hme hg (by decide), by simpa using F7, by simpa using F8, fun h => ⟨own_grown (F9 (by simpa using h)).1 hme hg (by decide), by simpa using (F9 (by simpa using h)).2⟩, fun h => by simp at h, by simpa using F11, by simpa using F12, fun _ => ⟨hz, by simp [hdp]⟩, fun h => absurd (F14 (by simpa using h)).2.2.2.2 (by simp [hdi]), fun h => absurd ((F15 (by simpa using h)).2.2.2.2.2.2.2) (by simp [hdi])⟩⟩
    · have hdi := un_d hd hun
      have hdp := ready_dep hd hi rfl
      simp [Region.binds] at hdp
      obtain ⟨B1, k1, rfl, _, _⟩ := slice_form (F2 (by simp [hdp]))
      obtain ⟨B2, k2, rfl, _, _⟩ := slice_form (F5 (by simp [hdp]))
      obtain ⟨B3, k3, rfl, _, _⟩ := slice_form (F9 (by simp [hdp])).1
      obtain ⟨B4, k4, rfl, _, _⟩ := slice_form (F13 (by simp [hdp])).1
      refine wpOp_step rfl (fun K hK => ?_)
      rw [if_pos (by rfl)]
      go_simp
      exact hK _ _ ⟨by simpa using hsz, by rw [upd_d hd hun]; exact ⟨_, _, _, _, _, _, _, _, _, _, _, _, _, _, _, rfl, hB, by simpa using F0, by simpa using F1, by simpa using F2, by simpa using F3, by simpa using F4, by simpa using F5, by simpa using F6, by simpa using F7, by simpa using F8, by simpa using F9, by simpa using F10, by simpa using F11, by simpa using F12, by simpa using F13, fun _ => ⟨rfl, by simp [hdp], by simp [hdp], by simp [hdp], by simp [hdp]⟩, by simpa using F15⟩⟩
    · have hdi := un_d hd hun
      have hdp := ready_dep hd hi rfl
      simp [Region.binds] at hdp
      obtain ⟨rfl, g2, g5, g9, g13⟩ := F14 (by simp [hdp])
      obtain ⟨B1, k1, rfl, _, _⟩ := slice_form (F2 (by simp [g2]))
      obtain ⟨B2, k2, rfl, _, _⟩ := slice_form (F5 (by simp [g5]))
      obtain ⟨B3, k3, rfl, _, _⟩ := slice_form (F9 (by simp [g9])).1
      obtain ⟨B4, k4, rfl, _, _⟩ := slice_form (F13 (by simp [g13])).1
      obtain ⟨ca, cb, cc, cd, hq⟩ := hB.cells
      have c0 : W.cell? ⟨p + 1, 0, none⟩ = some ca := by rw [hq.cell]; rfl
      have c1 : W.cell? ⟨p + 1, 1, none⟩ = some cb := by rw [hq.cell]; rfl
      have c2 : W.cell? ⟨p + 1, 2, none⟩ = some cc := by rw [hq.cell]; rfl
      have c3 : W.cell? ⟨p + 1, 3, none⟩ = some cd := by rw [hq.cell]; rfl
      have f0 := hq.frozen 0
      have f1 := hq.frozen 1
      have f2 := hq.frozen 2
      have f3 := hq.frozen 3
      refine wpOp_step rfl (fun K hK => ?_)
      rw [if_pos (by rfl)]
      go_simp
      have hq4 : Blk ((((W.setCell ⟨p + 1, 0, none⟩ (.slice B1 o.tx.length k1)).setCell ⟨p + 1, 1, none⟩ (.slice B2 o.dt.length k2)).setCell ⟨p + 1, 2, none⟩ (.slice B3 o.lb.length k3)).setCell ⟨p + 1, 3, none⟩ (.slice B4 o.rl.length k4)) (p + 1) 27 #[.slice B1 o.tx.length k1, .slice B2 o.dt.length k2, .slice B3 o.lb.length k3, .slice B4 o.rl.length k4] := by
        have := (((hq.set_ 0 (.slice B1 o.tx.length k1)).set_ 1 (.slice B2 o.dt.length k2)).set_ 2 (.slice B3 o.lb.length k3)).set_ 3 (.slice B4 o.rl.length k4)
        simpa using this
      have hk4 : Keeps (fun i => i = p + 1) W ((((W.setCell ⟨p + 1, 0, none⟩ (.slice B1 o.tx.length k1)).setCell ⟨p + 1, 1, none⟩ (.slice B2 o.dt.length k2)).setCell ⟨p + 1, 2, none⟩ (.slice B3 o.lb.length k3)).setCell ⟨p + 1, 3, none⟩ (.slice B4 o.rl.length k4)) :=
        (((((Keeps.refl (fun i => i = p + 1) W).setCell (p := ⟨p + 1, 0, none⟩) (Or.inr rfl) _).setCell (p := ⟨p + 1, 1, none⟩) (Or.inr rfl) _).setCell (p := ⟨p + 1, 2, none⟩) (Or.inr rfl) _).setCell (p := ⟨p + 1, 3, none⟩) (Or.inr rfl) _)
      generalize ((((W.setCell ⟨p + 1, 0, none⟩ (.slice B1 o.tx.length k1)).setCell ⟨p + 1, 1, none⟩ (.slice B2 o.dt.length k2)).setCell ⟨p + 1, 2, none⟩ (.slice B3 o.lb.length k3)).setCell ⟨p + 1, 3, none⟩ (.slice B4 o.rl.length k4)) = W2 at hq4 hk4 ⊢
      have hpn := hB.pn
      have hB2 : CpB w W2 p (p + 1) (p + 2) v1 v2 v3 v4 o := ⟨below_keeps hB.below hk4 (fun i hi e => by omega) (by have := hB.size; omega), hB.box.keeps hk4 (by omega), Nat.le_trans hB.size hk4.size, hB.pn, ⟨_, _, _, _, hq4⟩⟩
      have ht : ∀ {e size k : Nat} {v : Value} {xs : List Value}, W.ownsRow (p + 2) e size v k xs → W2.ownsRow (p + 2) e size v k xs := fun h => ownsRow_keeps h hk4 (fun g hg e => by have := (own_some2 h hg).1; omega)
      exact hK _ _ ⟨by simpa using hsz, by rw [upd_d hd hun]; exact ⟨_, _, _, _, _, _, _, _, _, _, _, _, _, _, _, rfl, hB2, by simpa using F0, by simpa using F1, fun h => ht (F2 (by simpa using h)), by simpa using F3, by simpa using F4, fun h => ht (F5 (by simpa using h)), fun h => ht (F6 (by simpa using h)), by simpa using F7, by simpa using F8, fun h => ⟨ht (F9 (by simpa using h)).1, by simpa using (F9 (by simpa using h)).2⟩, fun h => ht (F10 (by simpa using h)), by simpa using F11, by simpa using F12, fun h => ⟨ht (F13 (by simpa using h)).1, by simpa using (F13 (by simpa using h)).2⟩, fun h => ⟨rfl, by simpa using (F14 (by simpa using h)).2⟩, fun _ => ⟨by rw [hq4.cell]; rfl, by rw [hq4.cell]; rfl, by rw [hq4.cell]; rfl, by rw [hq4.cell]; rfl, by simp [g2], by simp [g5], by simp [g9], by simp [g13]⟩⟩⟩
  · intro listed a W ⟨hsz, hJ⟩ hr
    obtain ⟨d, hd⟩ : ∃ d : Nat → Bool, d = fun k => listed.getD k false := ⟨_, rfl⟩
    rw [← hd] at hJ
    obtain ⟨u3, u4, u5, u6, u7, u8, u9, u10, u11, u12, u13, u14, u15, u16, u17, rfl, hB, F0, F1, F2, F3, F4, F5, F6, F7, F8, F9, F10, F11, F12, F13, F14, F15⟩ := hJ
    have d0 : d 0 = true := not_ready hd hr (by omega) rfl (by simp [Region.binds])
    have d1 : d 1 = true := not_ready hd hr (by omega) rfl (by simp [Region.binds, d0])
    have d2 : d 2 = true := not_ready hd hr (by omega) rfl (by simp [Region.binds, d0, d1])
    have d3 : d 3 = true := not_ready hd hr (by omega) rfl (by simp [Region.binds, d0, d1, d2])
    have d4 : d 4 = true := not_ready hd hr (by omega) rfl (by simp [Region.binds, d0, d1, d2, d3])
    have d5 : d 5 = true := not_ready hd hr (by omega) rfl (by simp [Region.binds, d0, d1, d2, d3, d4])
    have d6 : d 6 = true := not_ready hd hr (by omega) rfl (by simp [Region.binds, d0, d1, d2, d3, d4, d5])
    have d7 : d 7 = true := not_ready hd hr (by omega) rfl (by simp [Region.binds, d0, d1, d2, d3, d4, d5, d6])
    have d8 : d 8 = true := not_ready hd hr (by omega) rfl (by simp [Region.binds, d0, d1, d2, d3, d4, d5, d6, d7])
    have d9 : d 9 = true := not_ready hd hr (by omega) rfl (by simp [Region.binds, d0, d1, d2, d3, d4, d5, d6, d7, d8])
    have d10 : d 10 = true := not_ready hd hr (by omega) rfl (by simp [Region.binds, d0, d1, d2, d3, d4, d5, d6, d7, d8, d9])
    have d11 : d 11 = true := not_ready hd hr (by omega) rfl (by simp [Region.binds, d0, d1, d2, d3, d4, d5, d6, d7, d8, d9, d10])
    have d12 : d 12 = true := not_ready hd hr (by omega) rfl (by simp [Region.binds, d0, d1, d2, d3, d4, d5, d6, d7, d8, d9, d10, d11])
    have d13 : d 13 = true := not_ready hd hr (by omega) rfl (by simp [Region.binds, d0, d1, d2, d3, d4, d5, d6, d7, d8, d9, d10, d11, d12])
    have d14 : d 14 = true := not_ready hd hr (by omega) rfl (by simp [Region.binds, d0, d1, d2, d3, d4, d5, d6, d7, d8, d9, d10, d11, d12, d13])
    have d15 : d 15 = true := not_ready hd hr (by omega) rfl (by simp [Region.binds, d0, d1, d2, d3, d4, d5, d6, d7, d8, d9, d10, d11, d12, d13, d14])
    have hC := F15 d15
    obtain ⟨c0, c1, c2, c3, _, _, _, _⟩ := hC
    have HR : Hid (OwnB W p u5 o.tx ∧ OwnB W p u8 o.dt ∧ W.ownsRow p 45 4 u12 o.lb.length (o.lb.flatMap Lbl.cells) ∧ W.ownsRow p 48 5 u16 o.rl.length (o.rl.flatMap Rel.cells) ∧ Below p w W) := ⟨ownsRow_lower (F2 d2) (by omega), ownsRow_lower (F5 d5) (by omega), ownsRow_lower (F9 d9).1 (by omega), ownsRow_lower (F13 d13).1 (by omega), hB.below⟩
    clear F0 F1 F2 F3 F4 F5 F6 F7 F8 F9 F10 F11 F12 F13 F14 F15 hB hr hd hsz
    go_wp2_with fail
    refine bodyPost_ret (v := .agg #[u5, u8, u12, u16]) (by simp [results, Tryd.results4, c0, c1, c2, c3, go_sem]) rfl ?_
    rw [hp]
    exact ⟨_, _, _, _, rfl, HR.out⟩
end Go.Proofs.YtlgdfacaeahcaaaDoor
