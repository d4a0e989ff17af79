/- Walk: asm.ordered. Conditions: what the theorem states. -/
import Derived.Test.YteoglkofeogknaaGreatDoorKA
import Derived.Test.YteoglkofeogknaaGreatDoorSCL
import Derived.Test.YteoglkofeogknaaGreatDoorSCR
set_option linter.unusedVariables false
set_option linter.unusedSimpArgs false
namespace Go.Proofs.YteoglkofeogknaaGreatDoor
open Go.RowKit
set_option maxRecDepth 100000 in
set_option maxHeartbeats 2000000 in
theorem insL_nil (w : World) : Calls Tryz.prog 88 #[.slice none 0 0, .int .i64 0, .int .i64 0, .func (.func 40) #[] #[]] w fun e w' => e = .returned (.tuple #[]) ∧ w = w' := by
  go_enter Tryz.func88, Tryz.ntmps88
  go_wp2
  refine wp_loop_rounds 1 ?_
  rw [rounds_succ]
  go_wp2
  go_end0
  exact ⟨rfl, rfl⟩
set_option maxRecDepth 100000 in
set_option maxHeartbeats 2000000 in
theorem stabL_nil (w : World) : Calls Tryz.prog 63 #[.slice none 0 0, .int .i64 0, .func (.func 40) #[] #[]] w fun e w' => e = .returned (.tuple #[]) ∧ w = w' := by
  go_enter Tryz.func63, Tryz.ntmps63
  go_wp2_with fail
  refine wp_loop_rounds 1 ?_
  rw [rounds_succ]
  go_wp2_with fail
  refine (insL_nil w).mono ?_
  rintro e w' ⟨rfl, rfl⟩
  go_wp2_with fail
  refine wp_loop_rounds 1 ?_
  rw [rounds_succ]
  go_wp2_with fail
  go_end0
  exact ⟨rfl, rfl⟩
set_option maxHeartbeats 2000000 in
theorem sortL_nil (w : World) : Calls Tryz.prog 39 #[.slice none 0 0, .func (.func 40) #[] #[]] w fun e w' => e = .returned (.tuple #[]) ∧ w = w' := by
  go_enter Tryz.func39, Tryz.ntmps39
  go_wp2_with fail
  refine (stabL_nil w).mono ?_
  rintro e w' ⟨rfl, rfl⟩
  go_wp2_with fail
  go_end0
  exact ⟨rfl, rfl⟩
set_option maxRecDepth 100000 in
set_option maxHeartbeats 2000000 in
theorem insR_nil (w : World) : Calls Tryz.prog 90 #[.slice none 0 0, .int .i64 0, .int .i64 0, .func (.func 42) #[] #[]] w fun e w' => e = .returned (.tuple #[]) ∧ w = w' := by
  go_enter Tryz.func90, Tryz.ntmps90
  go_wp2
  refine wp_loop_rounds 1 ?_
  rw [rounds_succ]
  go_wp2
  go_end0
  exact ⟨rfl, rfl⟩
set_option maxRecDepth 100000 in
set_option maxHeartbeats 2000000 in
theorem stabR_nil (w : World) : Calls Tryz.prog 64 #[.slice none 0 0, .int .i64 0, .func (.func 42) #[] #[]] w fun e w' => e = .returned (.tuple #[]) ∧ w = w' := by
  go_enter Tryz.func64, Tryz.ntmps64
  go_wp2_with fail
  refine wp_loop_rounds 1 ?_
  rw [rounds_succ]
  go_wp2_with fail
  refine (insR_nil w).mono ?_
  rintro e w' ⟨rfl, rfl⟩
  go_wp2_with fail
  refine wp_loop_rounds 1 ?_
  rw [rounds_succ]
  go_wp2_with fail
  go_end0
  exact ⟨rfl, rfl⟩
set_option maxHeartbeats 2000000 in
theorem sortR_nil (w : World) : Calls Tryz.prog 41 #[.slice none 0 0, .func (.func 42) #[] #[]] w fun e w' => e = .returned (.tuple #[]) ∧ w = w' := by
  go_enter Tryz.func41, Tryz.ntmps41
  go_wp2_with fail
  refine (stabR_nil w).mono ?_
  rintro e w' ⟨rfl, rfl⟩
  go_wp2_with fail
  go_end0
  exact ⟨rfl, rfl⟩
theorem StS.nil {α : Type} {key : α → Int} : StS key ([] : List α) [] := StS.refl List.Pairwise.nil
theorem sortL_any (B n : Nat) (v : Value) (xs : List Lbl) (w : World) (h : w.ownsRow B 68 4 v n (xs.flatMap Lbl.cells)) (hn : xs.length = n) (hok : ∀ x ∈ xs, OkL x) (hN : n ≤ 1099511627776) :
    Calls Tryz.prog 39 #[v, .func (.func 40) #[] #[]] w fun e w' => e = .returned (.tuple #[]) ∧ ∃ ys, StS keyL xs ys ∧ w'.ownsRow B 68 4 v n (ys.flatMap Lbl.cells) ∧ Keeps (fun i => v.ownBlock = some i ∨ w.heap.size ≤ i) w w' := by
  rcases h.2 with ⟨rfl, h0⟩ | ⟨g, cap, cur, rfl, _⟩
  · obtain rfl : xs = [] := List.eq_nil_of_length_eq_zero (by omega)
    refine (sortL_nil w).mono ?_
    rintro e w' ⟨rfl, rfl⟩
    exact ⟨rfl, [], StS.nil, h, Keeps.refl _ _⟩
  · refine (sortStableL B g n cap xs w ⟨hn, h⟩ hok hN).mono ?_
    rintro e w' ⟨rfl, ys, h1, h2, h3⟩
    exact ⟨rfl, ys, h1, h2.2, h3.mono (fun i _ hi => hi.imp (fun e => by rw [e]; rfl) id)⟩
theorem sortR_any (B n : Nat) (v : Value) (xs : List Rel) (w : World) (h : w.ownsRow B 51 5 v n (xs.flatMap Rel.cells)) (hn : xs.length = n) (hok : ∀ x ∈ xs, OkR x) (hN : n ≤ 1099511627776) :
    Calls Tryz.prog 41 #[v, .func (.func 42) #[] #[]] w fun e w' => e = .returned (.tuple #[]) ∧ ∃ ys, StS keyR xs ys ∧ w'.ownsRow B 51 5 v n (ys.flatMap Rel.cells) ∧ Keeps (fun i => v.ownBlock = some i ∨ w.heap.size ≤ i) w w' := by
  rcases h.2 with ⟨rfl, h0⟩ | ⟨g, cap, cur, rfl, _⟩
  · obtain rfl : xs = [] := List.eq_nil_of_length_eq_zero (by omega)
    refine (sortR_nil w).mono ?_
    rintro e w' ⟨rfl, rfl⟩
    exact ⟨rfl, [], StS.nil, h, Keeps.refl _ _⟩
  · refine (sortStableR B g n cap xs w ⟨hn, h⟩ hok hN).mono ?_
    rintro e w' ⟨rfl, ys, h1, h2, h3⟩
    exact ⟨rfl, ys, h1, h2.2, h3.mono (fun i _ hi => hi.imp (fun e => by rw [e]; rfl) id)⟩
set_option maxHeartbeats 2000000 in
theorem ordered_any (B n m : Nat) (v u : Value) (xs : List Lbl) (rs : List Rel) (w : World) (h : w.ownsRow B 68 4 v n (xs.flatMap Lbl.cells)) (h' : w.ownsRow B 51 5 u m (rs.flatMap Rel.cells)) (hn : xs.length = n) (hm : rs.length = m) (hok : ∀ x ∈ xs, OkL x) (hok' : ∀ x ∈ rs, OkR x) (hN : n ≤ 1099511627776) (hM : m ≤ 1099511627776) :
    Calls Tryz.prog 21 #[v, u] w fun e w' => e = .returned (.tuple #[]) ∧ ∃ ys qs, StS keyL xs ys ∧ StS keyR rs qs ∧ w'.ownsRow B 68 4 v n (ys.flatMap Lbl.cells) ∧ w'.ownsRow B 51 5 u m (qs.flatMap Rel.cells) ∧ Keeps (fun i => v.ownBlock = some i ∨ u.ownBlock = some i ∨ w.heap.size ≤ i) w w' := by
  have H1 := Lib.hid (sortL_any B n v xs w h hn hok hN)
  have H2 : Hid (∀ W, W.ownsRow B 51 5 u m (rs.flatMap Rel.cells) → Calls Tryz.prog 41 #[u, .func (.func 42) #[] #[]] W fun e w' => e = .returned (.tuple #[]) ∧ ∃ ys, StS keyR rs ys ∧ w'.ownsRow B 51 5 u m (ys.flatMap Rel.cells) ∧ Keeps (fun i => u.ownBlock = some i ∨ W.heap.size ≤ i) W w') := fun W hW => sortR_any B m u rs W hW hm hok' hM
  have H3 : Hid (∀ W, Keeps (fun i => v.ownBlock = some i ∨ w.heap.size ≤ i) w W → W.ownsRow B 51 5 u m (rs.flatMap Rel.cells)) := fun W hk => ownsRow_keeps h' hk (fun g hg e => by
    rcases e with e | e
    · obtain ⟨c1, b1⟩ := owns_kind h e
      obtain ⟨c2, b2⟩ := owns_kind h' hg
      exact absurd (b1.kind b2) (by decide)
    · have := (own_some2 h' hg).2; omega)
  have H4 : Hid (∀ W W' ys, Keeps (fun i => v.ownBlock = some i ∨ w.heap.size ≤ i) w W → W.ownsRow B 68 4 v n ys → Keeps (fun i => u.ownBlock = some i ∨ W.heap.size ≤ i) W W' → W'.ownsRow B 68 4 v n ys ∧ Keeps (fun i => v.ownBlock = some i ∨ u.ownBlock = some i ∨ w.heap.size ≤ i) w W') := fun W W' ys hk hy hk' => by
    refine ⟨ownsRow_keeps hy hk' (fun g hg e => ?_), (hk.mono (fun i _ e => e.imp id Or.inr)).trans hk' (fun i hi e => ?_)⟩
    · rcases e with e | e
      · obtain ⟨c1, b1⟩ := owns_kind hy hg
        obtain ⟨c2, b2⟩ := owns_kind (H3.out W hk) e
        exact absurd (b1.kind b2) (by decide)
      · have := (own_some2 hy hg).2; omega
    · rcases e with e | e
      · exact Or.inr (Or.inl e)
      · exact Or.inr (Or.inr (Nat.le_trans hk.size e))
  clear h h'
  go_enter Tryz.func21, Tryz.ntmps21
  go_wp2_with fail
  refine H1.out.mono ?_
  rintro e w1 ⟨rfl, ys, s1, o1, k1⟩
  have HS := Lib.hid s1
  have HO := Lib.hid o1
  have HK := Lib.hid k1
  clear s1 o1 k1
  go_wp2_with fail
  refine (H2.out w1 (H3.out w1 HK.out)).mono ?_
  rintro e w2 ⟨rfl, qs, s2, o2, k2⟩
  have HQ := Lib.hid (And.intro s2 (And.intro o2 (H4.out w1 w2 _ HK.out HO.out k2)))
  clear s2 o2 k2
  go_wp2_with fail
  go_end0
  exact ⟨rfl, ys, qs, HS.out, HQ.out.1, HQ.out.2.2.1, HQ.out.2.1, HQ.out.2.2.2⟩
end Go.Proofs.YteoglkofeogknaaGreatDoor
