/- Walk: asm.fits. Conditions: what each theorem states. -/
import Derived.Test.YteoglkofeogknaaGreatDoorFA
import Derived.Test.YteoglkofeogknaaGreatDoorDC
import Derived.Test.YteoglkofeogknaaGreatDoorKZ
set_option linter.unusedVariables false
set_option linter.unusedSimpArgs false
namespace Go.Proofs.YteoglkofeogknaaGreatDoor
open Go.RowKit
set_option maxRecDepth 100000 in
set_option maxHeartbeats 8000000 in
theorem fits_c5 (A1 : Option Addr) (n1 k1 : Nat) (A2 : Option Addr) (n2 k2 : Nat) (v3 v4 : Value) (As : Option Addr) (ns ks : Nat) (s : Int) (k : Nat) (kd add L : Int) (nm : ByteArray) (w : World) (h1 : decide (s < 0) = false) (h2 : decide (1 < s) = false) (h4 : (k : Int).tmod 4 = 0) (e5 : IntKind.i64.wrap ((ns : Int) - 4) = L) (c5 : L < (k : Int)) (hP : ∀ W, Calls Tryz.prog 37 #[.agg #[.slice A1 n1 k1, .slice A2 n2 k2, v3, v4], .int .i64 s] W fun e w' => e = .returned (.slice As ns ks) ∧ Below W.heap.size W w') :
    Calls Tryz.prog 38 #[.agg #[.slice A1 n1 k1, .slice A2 n2 k2, v3, v4], .agg #[.int .i64 s, .int .i64 k, .int .i64 kd, .int .i64 add, .string nm]] w fun e w' => e = .returned (.bool false) ∧ Below w.heap.size w w' := by
  have HP := Lib.hid hP
  clear hP
  go_enter Tryz.func38, Tryz.ntmps38
  go_wp2_with fail
  have hc := fresh2 w (.slice A1 n1 k1) (.slice A2 n2 k2) v3 v4 s (k : Int) kd add nm 41 51
  generalize ((w.alloc (.cells #[.slice A1 n1 k1, .slice A2 n2 k2, v3, v4] 41)).alloc (.cells #[.int .i64 s, .int .i64 k, .int .i64 kd, .int .i64 add, .string nm] 51)) = w1 at hc ⊢
  obtain ⟨nw, hnw⟩ : ∃ nw, w.heap.size = nw := ⟨_, rfl⟩
  obtain ⟨q, hq⟩ : ∃ q, w.heap.size + 1 = q := ⟨_, rfl⟩
  rw [hq] at hc ⊢
  rw [hnw] at hc ⊢
  have HNW := Lib.hid hnw
  clear hq hnw
  have HC := Lib.hid hc
  obtain ⟨a0, a1, a2, a3, b0, b1, b2, b3, b4, _, _⟩ := hc
  refine wp_region_held_drew (S := (fun W => W.cell? ⟨nw, 0, none⟩ = some (.slice A1 n1 k1) ∧ W.cell? ⟨nw, 1, none⟩ = some (.slice A2 n2 k2) ∧ W.cell? ⟨nw, 2, none⟩ = some v3 ∧ W.cell? ⟨nw, 3, none⟩ = some v4 ∧ W.cell? ⟨q, 0, none⟩ = some (.int .i64 s) ∧ W.cell? ⟨q, 1, none⟩ = some (.int .i64 k) ∧ W.cell? ⟨q, 2, none⟩ = some (.int .i64 kd) ∧ W.cell? ⟨q, 3, none⟩ = some (.int .i64 add) ∧ W.cell? ⟨q, 4, none⟩ = some (.string nm) ∧ Below nw w W ∧ nw ≤ W.heap.size)) (by kernel_rfl) ?_ (fun hHeld => ?_)
  · exact sf_drew HC.out
  refine FU 46 rfl ?_
  iterate 25 ((first | (refine TN 46 ?_ rfl ?_ ?_; rotate_left 1; focus (intro w h; (try dsimp only at h); first | (go_simp; done) | (go_simp; with_reducible rfl))) | refine TM 46 rfl ?_); (try simp only [AP, Nat.reduceAdd, Nat.reduceSub]))
  refine wpAnyH_ready (rs := [25]) (by kernel_rfl) (by simp) ?_
  refine AllReadyH.cons rfl (fun K hK => ?_) AllReadyH.nil
  rw [if_pos (by rfl)]
  go_simp
  go_at_call 37; refine (HP.out _).mono ?_; rintro e w2 ⟨rfl, hb⟩; have t1 := sf_step hHeld hb; clear hb
  try go_wp2_with fail
  refine hK.out _ _ t1 (fun hHeld => ?_)
  clear hK K
  try simp only [AP]
  iterate 20 ((first | (refine TN 46 ?_ rfl ?_ ?_; rotate_left 1; focus (intro w h; (try dsimp only at h); first | (go_simp; done) | (go_simp; with_reducible rfl))) | refine TM 46 rfl ?_); (try simp only [AP, Nat.reduceAdd, Nat.reduceSub]))
  refine wpAnyH_done (by kernel_rfl) ?_ _
  go_wp2_with fail
  go_ret
  exact ⟨rfl, (sf_nw HNW.out t1).1⟩
set_option maxRecDepth 100000 in
set_option maxHeartbeats 8000000 in
theorem fits_c6 (A1 : Option Addr) (n1 k1 : Nat) (A2 : Option Addr) (n2 k2 : Nat) (v3 v4 : Value) (As : Option Addr) (ns ks : Nat) (s : Int) (k : Nat) (kd add L : Int) (nm : ByteArray) (w : World) (h1 : decide (s < 0) = false) (h2 : decide (1 < s) = false) (h4 : (k : Int).tmod 4 = 0) (e5 : IntKind.i64.wrap ((ns : Int) - 4) = L) (c5 : decide (L < (k : Int)) = false) (c6 : add < 0) (hP : ∀ W, Calls Tryz.prog 37 #[.agg #[.slice A1 n1 k1, .slice A2 n2 k2, v3, v4], .int .i64 s] W fun e w' => e = .returned (.slice As ns ks) ∧ Below W.heap.size W w') :
    Calls Tryz.prog 38 #[.agg #[.slice A1 n1 k1, .slice A2 n2 k2, v3, v4], .agg #[.int .i64 s, .int .i64 k, .int .i64 kd, .int .i64 add, .string nm]] w fun e w' => e = .returned (.bool false) ∧ Below w.heap.size w w' := by
  have HP := Lib.hid hP
  clear hP
  go_enter Tryz.func38, Tryz.ntmps38
  go_wp2_with fail
  have hc := fresh2 w (.slice A1 n1 k1) (.slice A2 n2 k2) v3 v4 s (k : Int) kd add nm 41 51
  generalize ((w.alloc (.cells #[.slice A1 n1 k1, .slice A2 n2 k2, v3, v4] 41)).alloc (.cells #[.int .i64 s, .int .i64 k, .int .i64 kd, .int .i64 add, .string nm] 51)) = w1 at hc ⊢
  obtain ⟨nw, hnw⟩ : ∃ nw, w.heap.size = nw := ⟨_, rfl⟩
  obtain ⟨q, hq⟩ : ∃ q, w.heap.size + 1 = q := ⟨_, rfl⟩
  rw [hq] at hc ⊢
  rw [hnw] at hc ⊢
  have HNW := Lib.hid hnw
  clear hq hnw
  have HC := Lib.hid hc
  obtain ⟨a0, a1, a2, a3, b0, b1, b2, b3, b4, _, _⟩ := hc
  refine wp_region_held_drew (S := (fun W => W.cell? ⟨nw, 0, none⟩ = some (.slice A1 n1 k1) ∧ W.cell? ⟨nw, 1, none⟩ = some (.slice A2 n2 k2) ∧ W.cell? ⟨nw, 2, none⟩ = some v3 ∧ W.cell? ⟨nw, 3, none⟩ = some v4 ∧ W.cell? ⟨q, 0, none⟩ = some (.int .i64 s) ∧ W.cell? ⟨q, 1, none⟩ = some (.int .i64 k) ∧ W.cell? ⟨q, 2, none⟩ = some (.int .i64 kd) ∧ W.cell? ⟨q, 3, none⟩ = some (.int .i64 add) ∧ W.cell? ⟨q, 4, none⟩ = some (.string nm) ∧ Below nw w W ∧ nw ≤ W.heap.size)) (by kernel_rfl) ?_ (fun hHeld => ?_)
  · exact sf_drew HC.out
  refine FU 46 rfl ?_
  iterate 25 ((first | (refine TN 46 ?_ rfl ?_ ?_; rotate_left 1; focus (intro w h; (try dsimp only at h); first | (go_simp; done) | (go_simp; with_reducible rfl))) | refine TM 46 rfl ?_); (try simp only [AP, Nat.reduceAdd, Nat.reduceSub]))
  refine wpAnyH_ready (rs := [25]) (by kernel_rfl) (by simp) ?_
  refine AllReadyH.cons rfl (fun K hK => ?_) AllReadyH.nil
  rw [if_pos (by rfl)]
  go_simp
  go_at_call 37; refine (HP.out _).mono ?_; rintro e w2 ⟨rfl, hb⟩; have t1 := sf_step hHeld hb; clear hb
  try go_wp2_with fail
  refine hK.out _ _ t1 (fun hHeld => ?_)
  clear hK K
  try simp only [AP]
  iterate 20 ((first | (refine TN 46 ?_ rfl ?_ ?_; rotate_left 1; focus (intro w h; (try dsimp only at h); first | (go_simp; done) | (go_simp; with_reducible rfl))) | refine TM 46 rfl ?_); (try simp only [AP, Nat.reduceAdd, Nat.reduceSub]))
  refine wpAnyH_done (by kernel_rfl) ?_ _
  go_wp2_with fail
  go_ret
  exact ⟨rfl, (sf_nw HNW.out t1).1⟩
set_option maxRecDepth 100000 in
set_option maxHeartbeats 8000000 in
theorem fits_c7 (A1 : Option Addr) (n1 k1 : Nat) (A2 : Option Addr) (n2 k2 : Nat) (v3 v4 : Value) (As : Option Addr) (ns ks : Nat) (s : Int) (k : Nat) (kd add L : Int) (nm : ByteArray) (w : World) (h1 : decide (s < 0) = false) (h2 : decide (1 < s) = false) (h4 : (k : Int).tmod 4 = 0) (e5 : IntKind.i64.wrap ((ns : Int) - 4) = L) (c5 : decide (L < (k : Int)) = false) (c6 : decide (add < 0) = false) (c7 : 65535 < add) (hP : ∀ W, Calls Tryz.prog 37 #[.agg #[.slice A1 n1 k1, .slice A2 n2 k2, v3, v4], .int .i64 s] W fun e w' => e = .returned (.slice As ns ks) ∧ Below W.heap.size W w') :
    Calls Tryz.prog 38 #[.agg #[.slice A1 n1 k1, .slice A2 n2 k2, v3, v4], .agg #[.int .i64 s, .int .i64 k, .int .i64 kd, .int .i64 add, .string nm]] w fun e w' => e = .returned (.bool false) ∧ Below w.heap.size w w' := by
  have HP := Lib.hid hP
  clear hP
  go_enter Tryz.func38, Tryz.ntmps38
  go_wp2_with fail
  have hc := fresh2 w (.slice A1 n1 k1) (.slice A2 n2 k2) v3 v4 s (k : Int) kd add nm 41 51
  generalize ((w.alloc (.cells #[.slice A1 n1 k1, .slice A2 n2 k2, v3, v4] 41)).alloc (.cells #[.int .i64 s, .int .i64 k, .int .i64 kd, .int .i64 add, .string nm] 51)) = w1 at hc ⊢
  obtain ⟨nw, hnw⟩ : ∃ nw, w.heap.size = nw := ⟨_, rfl⟩
  obtain ⟨q, hq⟩ : ∃ q, w.heap.size + 1 = q := ⟨_, rfl⟩
  rw [hq] at hc ⊢
  rw [hnw] at hc ⊢
  have HNW := Lib.hid hnw
  clear hq hnw
  have HC := Lib.hid hc
  obtain ⟨a0, a1, a2, a3, b0, b1, b2, b3, b4, _, _⟩ := hc
  refine wp_region_held_drew (S := (fun W => W.cell? ⟨nw, 0, none⟩ = some (.slice A1 n1 k1) ∧ W.cell? ⟨nw, 1, none⟩ = some (.slice A2 n2 k2) ∧ W.cell? ⟨nw, 2, none⟩ = some v3 ∧ W.cell? ⟨nw, 3, none⟩ = some v4 ∧ W.cell? ⟨q, 0, none⟩ = some (.int .i64 s) ∧ W.cell? ⟨q, 1, none⟩ = some (.int .i64 k) ∧ W.cell? ⟨q, 2, none⟩ = some (.int .i64 kd) ∧ W.cell? ⟨q, 3, none⟩ = some (.int .i64 add) ∧ W.cell? ⟨q, 4, none⟩ = some (.string nm) ∧ Below nw w W ∧ nw ≤ W.heap.size)) (by kernel_rfl) ?_ (fun hHeld => ?_)
  · exact sf_drew HC.out
  refine FU 46 rfl ?_
  iterate 25 ((first | (refine TN 46 ?_ rfl ?_ ?_; rotate_left 1; focus (intro w h; (try dsimp only at h); first | (go_simp; done) | (go_simp; with_reducible rfl))) | refine TM 46 rfl ?_); (try simp only [AP, Nat.reduceAdd, Nat.reduceSub]))
  refine wpAnyH_ready (rs := [25]) (by kernel_rfl) (by simp) ?_
  refine AllReadyH.cons rfl (fun K hK => ?_) AllReadyH.nil
  rw [if_pos (by rfl)]
  go_simp
  go_at_call 37; refine (HP.out _).mono ?_; rintro e w2 ⟨rfl, hb⟩; have t1 := sf_step hHeld hb; clear hb
  try go_wp2_with fail
  refine hK.out _ _ t1 (fun hHeld => ?_)
  clear hK K
  try simp only [AP]
  iterate 20 ((first | (refine TN 46 ?_ rfl ?_ ?_; rotate_left 1; focus (intro w h; (try dsimp only at h); first | (go_simp; done) | (go_simp; with_reducible rfl))) | refine TM 46 rfl ?_); (try simp only [AP, Nat.reduceAdd, Nat.reduceSub]))
  refine wpAnyH_done (by kernel_rfl) ?_ _
  go_wp2_with fail
  go_ret
  exact ⟨rfl, (sf_nw HNW.out t1).1⟩
set_option maxRecDepth 100000 in
set_option maxHeartbeats 8000000 in
theorem fits_c8 (A1 : Option Addr) (n1 k1 : Nat) (A2 : Option Addr) (n2 k2 : Nat) (v3 v4 : Value) (As : Option Addr) (ns ks : Nat) (s : Int) (k : Nat) (kd add L : Int) (nm : ByteArray) (w : World) (h1 : decide (s < 0) = false) (h2 : decide (1 < s) = false) (h4 : (k : Int).tmod 4 = 0) (e5 : IntKind.i64.wrap ((ns : Int) - 4) = L) (c5 : decide (L < (k : Int)) = false) (c6 : decide (add < 0) = false) (c7 : decide (65535 < add) = false) (hP : ∀ W, Calls Tryz.prog 37 #[.agg #[.slice A1 n1 k1, .slice A2 n2 k2, v3, v4], .int .i64 s] W fun e w' => e = .returned (.slice As ns ks) ∧ Below W.heap.size W w') (hS : ∀ W, Below w.heap.size w W ∧ w.heap.size ≤ W.heap.size → Calls Tryz.prog 36 #[.string nm] W fun e w' => e = .returned (.bool false) ∧ Below W.heap.size W w') :
    Calls Tryz.prog 38 #[.agg #[.slice A1 n1 k1, .slice A2 n2 k2, v3, v4], .agg #[.int .i64 s, .int .i64 k, .int .i64 kd, .int .i64 add, .string nm]] w fun e w' => e = .returned (.bool false) ∧ Below w.heap.size w w' := by
  have HP := Lib.hid hP
  clear hP
  have HS := Lib.hid hS
  clear hS
  go_enter Tryz.func38, Tryz.ntmps38
  go_wp2_with fail
  have hc := fresh2 w (.slice A1 n1 k1) (.slice A2 n2 k2) v3 v4 s (k : Int) kd add nm 41 51
  generalize ((w.alloc (.cells #[.slice A1 n1 k1, .slice A2 n2 k2, v3, v4] 41)).alloc (.cells #[.int .i64 s, .int .i64 k, .int .i64 kd, .int .i64 add, .string nm] 51)) = w1 at hc ⊢
  obtain ⟨nw, hnw⟩ : ∃ nw, w.heap.size = nw := ⟨_, rfl⟩
  obtain ⟨q, hq⟩ : ∃ q, w.heap.size + 1 = q := ⟨_, rfl⟩
  rw [hq] at hc ⊢
  rw [hnw] at hc ⊢
  have HNW := Lib.hid hnw
  clear hq hnw
  have HC := Lib.hid hc
  obtain ⟨a0, a1, a2, a3, b0, b1, b2, b3, b4, _, _⟩ := hc
  refine wp_region_held_drew (S := (fun W => W.cell? ⟨nw, 0, none⟩ = some (.slice A1 n1 k1) ∧ W.cell? ⟨nw, 1, none⟩ = some (.slice A2 n2 k2) ∧ W.cell? ⟨nw, 2, none⟩ = some v3 ∧ W.cell? ⟨nw, 3, none⟩ = some v4 ∧ W.cell? ⟨q, 0, none⟩ = some (.int .i64 s) ∧ W.cell? ⟨q, 1, none⟩ = some (.int .i64 k) ∧ W.cell? ⟨q, 2, none⟩ = some (.int .i64 kd) ∧ W.cell? ⟨q, 3, none⟩ = some (.int .i64 add) ∧ W.cell? ⟨q, 4, none⟩ = some (.string nm) ∧ Below nw w W ∧ nw ≤ W.heap.size)) (by kernel_rfl) ?_ (fun hHeld => ?_)
  · exact sf_drew HC.out
  refine FU 46 rfl ?_
  iterate 25 ((first | (refine TN 46 ?_ rfl ?_ ?_; rotate_left 1; focus (intro w h; (try dsimp only at h); first | (go_simp; done) | (go_simp; with_reducible rfl))) | refine TM 46 rfl ?_); (try simp only [AP, Nat.reduceAdd, Nat.reduceSub]))
  refine wpAnyH_ready (rs := [25]) (by kernel_rfl) (by simp) ?_
  refine AllReadyH.cons rfl (fun K hK => ?_) AllReadyH.nil
  rw [if_pos (by rfl)]
  go_simp
  go_at_call 37; refine (HP.out _).mono ?_; rintro e w2 ⟨rfl, hb⟩; have t1 := sf_step hHeld hb; clear hb
  try go_wp2_with fail
  refine hK.out _ _ t1 (fun hHeld => ?_)
  clear hK K
  try simp only [AP]
  iterate 17 ((first | (refine TN 46 ?_ rfl ?_ ?_; rotate_left 1; focus (intro w h; (try dsimp only at h); first | (go_simp; done) | (go_simp; with_reducible rfl))) | refine TM 46 rfl ?_); (try simp only [AP, Nat.reduceAdd, Nat.reduceSub]))
  refine wpAnyH_ready (rs := [43]) (by kernel_rfl) (by simp) ?_
  refine AllReadyH.cons rfl (fun K hK => ?_) AllReadyH.nil
  rw [if_pos (by rfl)]
  go_simp
  go_at_call 36; refine (HS.out _ (sf_nw HNW.out hHeld)).mono ?_; rintro e w3 ⟨rfl, hb⟩; have t2 := sf_step hHeld hb; clear hb
  try go_wp2_with fail
  refine hK.out _ _ t2 (fun hHeld => ?_)
  clear hK K
  try simp only [AP]
  iterate 2 ((first | (refine TN 46 ?_ rfl ?_ ?_; rotate_left 1; focus (intro w h; (try dsimp only at h); first | (go_simp; done) | (go_simp; with_reducible rfl))) | refine TM 46 rfl ?_); (try simp only [AP, Nat.reduceAdd, Nat.reduceSub]))
  refine wpAnyH_done (by kernel_rfl) ?_ _
  go_wp2_with fail
  go_ret
  exact ⟨rfl, (sf_nw HNW.out t2).1⟩
end Go.Proofs.YteoglkofeogknaaGreatDoor
