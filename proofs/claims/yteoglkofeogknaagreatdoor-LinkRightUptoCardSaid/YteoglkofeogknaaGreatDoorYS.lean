/- Walks: cmp.Compare, cmp.Or, the symbols' closure; slices.SortFunc at few symbols. Conditions: what each states. -/
import Derived.Test.YteoglkofeogknaaGreatDoorY1
import Derived.Test.YteoglkofeogknaaGreatDoorSAL
import Derived.Deep.RegionHeld3
import Derived.Test.YteoglkofeogknaaGreatDoorX0
set_option linter.unusedVariables false
set_option linter.unusedSimpArgs false
namespace Go.Proofs.YteoglkofeogknaaGreatDoor
open Go.RowKit
def cmpZ (x y : Int) : Int := if x < y then -1 else if y < x then 1 else 0
theorem nanI (x : Int) (w : World) : Calls Tryz.prog 49 #[.int .i64 x] w fun e w' => e = .returned (.bool false) ∧ w = w' := by
  go_enter Tryz.func49, Tryz.ntmps49
  go_wp2_with fail
  go_ret
  exact ⟨by simp, rfl⟩
theorem nanS (x : ByteArray) (w : World) : Calls Tryz.prog 50 #[.string x] w fun e w' => e = .returned (.bool false) ∧ w = w' := by
  go_enter Tryz.func50, Tryz.ntmps50
  go_wp2_with fail
  go_ret
  exact ⟨by simp, rfl⟩
theorem compI (x y : Int) (w : World) : Calls Tryz.prog 28 #[.int .i64 x, .int .i64 y] w fun e w' => e = .returned (.int .i64 (cmpZ x y)) ∧ w = w' := by
  obtain ⟨r, hr⟩ : ∃ r, cmpZ x y = r := ⟨_, rfl⟩
  have HR := Lib.hid hr
  rw [hr]
  clear hr
  rcases (show x < y ∨ (¬ x < y ∧ y < x) ∨ (¬ x < y ∧ ¬ y < x) by omega) with h | ⟨h, h2⟩ | ⟨h, h2⟩
  all_goals
    go_enter Tryz.func28, Tryz.ntmps28
    go_wp2_with fail
    refine (nanI _ _).mono ?_
    rintro e w1 ⟨rfl, rfl⟩
    go_wp2_with fail
    refine (nanI _ _).mono ?_
    rintro e w1 ⟨rfl, rfl⟩
    go_wp2_with fail
    go_ret
    exact ⟨by rw [← HR.out]; unfold cmpZ; split <;> (try split) <;> first | rfl | omega, rfl⟩
theorem bless_self : ∀ l : List UInt8, Op.bytesLess l l = false
  | [] => rfl
  | x :: l => by simp [Op.bytesLess, bless_self l]
theorem compS (x y : ByteArray) (w : World) : Calls Tryz.prog 29 #[.string x, .string y] w fun e w' => ∃ r : Int, e = .returned (.int .i64 r) ∧ (x = y → r = 0) ∧ w = w' := by
  by_cases e : x = y
  · subst e
    have hb := bless_self x.toList
    go_enter Tryz.func29, Tryz.ntmps29
    go_wp2_with fail
    refine (nanS _ _).mono ?_
    rintro e w1 ⟨rfl, rfl⟩
    go_wp2_with fail
    refine (nanS _ _).mono ?_
    rintro e w1 ⟨rfl, rfl⟩
    go_wp2_with fail
    go_ret
    exact ⟨0, rfl, fun _ => rfl, rfl⟩
  · obtain ⟨b1, hb1⟩ : ∃ b, Op.bytesLess x.toList y.toList = b := ⟨_, rfl⟩
    obtain ⟨b2, hb2⟩ : ∃ b, (x.toList == y.toList) = b := ⟨_, rfl⟩
    have HE := Lib.hid e
    clear e
    cases b1 <;> cases b2
    all_goals
      go_enter Tryz.func29, Tryz.ntmps29
      go_wp2_with fail
      refine (nanS _ _).mono ?_
      rintro e w1 ⟨rfl, rfl⟩
      go_wp2_with fail
      refine (nanS _ _).mono ?_
      rintro e w1 ⟨rfl, rfl⟩
      go_wp2_with fail
      go_ret
      exact ⟨_, rfl, fun e => absurd e HE.out, rfl⟩
theorem orI (g : Nat) (c1 c2 : Int) (w : World) (h1 : w.cell? ⟨g, 0, none⟩ = some (.int .i64 c1)) (h2 : w.cell? ⟨g, 1, none⟩ = some (.int .i64 c2)) : Calls Tryz.prog 27 #[.slice (some ⟨g, 0, none⟩) 2 2] w fun e w' => e = .returned (.int .i64 (if c1 ≠ 0 then c1 else c2)) ∧ Below w.heap.size w w' := by
  obtain ⟨r, hr⟩ : ∃ r, (if c1 ≠ 0 then c1 else c2) = r := ⟨_, rfl⟩
  have HR := Lib.hid hr
  rw [hr]
  clear hr
  by_cases hc : c1 = 0
  · by_cases hc2 : c2 = 0
    · subst hc
      subst hc2
      go_enter Tryz.func27, Tryz.ntmps27
      go_wp2_with fail
      refine wp_loop_rounds 3 ?_
      rw [rounds_succ]
      go_wp2_with fail
      rw [rounds_succ]
      go_wp2_with fail
      rw [rounds_succ]
      go_wp2_with fail
      go_ret
      exact ⟨by rw [← HR.out]; rfl, Below.refl _ _⟩
    · have hc2' : (c2 != 0) = true := by simpa using hc2
      subst hc
      have HR2 : Hid (c2 = r) := by show _ = _; rw [← HR.out]; rfl
      go_enter Tryz.func27, Tryz.ntmps27
      go_wp2_with fail
      refine wp_loop_rounds 3 ?_
      rw [rounds_succ]
      go_wp2_with fail
      rw [rounds_succ]
      go_wp2_with fail
      go_ret
      exact ⟨by rw [← HR2.out]; rfl, Below.refl _ _⟩
  · have hc' : (c1 != 0) = true := by simpa using hc
    have HR2 : Hid (c1 = r) := by show _ = _; rw [← HR.out]; simp [hc]
    go_enter Tryz.func27, Tryz.ntmps27
    go_wp2_with fail
    refine wp_loop_rounds 3 ?_
    rw [rounds_succ]
    go_wp2_with fail
    go_ret
    exact ⟨by rw [← HR2.out]; rfl, Below.refl _ _⟩
theorem orZ (g : Nat) (c1 c2 : Int) (w : World) (h1 : w.cell? ⟨g, 0, none⟩ = some (.int .i64 c1)) (h2 : w.cell? ⟨g, 1, none⟩ = some (.int .i64 c2)) : Calls Tryz.prog 27 #[.slice (some ⟨g, 0, none⟩) 2 2] w fun e w' => ∃ z : Int, e = .returned (.int .i64 z) ∧ Hid ((if c1 ≠ 0 then c1 else c2) = z) ∧ Below w.heap.size w w' := by
  refine (orI g c1 c2 w h1 h2).mono ?_
  rintro e w' ⟨rfl, hb⟩
  exact ⟨_, rfl, Lib.hid rfl, hb⟩
/-- A symbol of the three. -/
def OkY (x : Sy) : Prop := (x.at_ = 4096 ∧ x.nm = ⟨#[97]⟩) ∨ (x.at_ = 4128 ∧ x.nm = ⟨#[115, 116, 97, 99, 107]⟩) ∨ (x.at_ = 4240 ∧ x.nm = ⟨#[115, 116, 97, 99, 107, 46, 101, 110, 100]⟩)
def keyY (x : Sy) : Int := x.at_
theorem OkY.same {x y : Sy} (hx : OkY x) (hy : OkY y) (h : x.at_ = y.at_) : x.nm = y.nm := by
  rcases hx with ⟨a, b⟩ | ⟨a, b⟩ | ⟨a, b⟩ <;> rcases hy with ⟨c, d⟩ | ⟨c, d⟩ | ⟨c, d⟩ <;> first | (exfalso; omega) | rw [b, d]
set_option maxRecDepth 100000 in
set_option maxHeartbeats 1000000 in
theorem cmpY (x y : Sy) (w : World) (hx : OkY x) (hy : OkY y) :
    Calls Tryz.prog 26 #[.agg #[.string x.nm, .int .i64 x.at_], .agg #[.string y.nm, .int .i64 y.at_]] w fun e w' => (∃ r : Int, e = .returned (.int .i64 r) ∧ (r < 0 ↔ keyY x < keyY y)) ∧ Below w.heap.size w w' := by
  have HX := Lib.hid hx
  have HY := Lib.hid hy
  clear hx hy
  go_enter Tryz.func26, Tryz.ntmps26
  go_upto_region 1 with fail
  obtain ⟨p, hp⟩ : ∃ p, w.heap.size = p := ⟨_, rfl⟩
  obtain ⟨W2, hW2⟩ : ∃ W2, (w.alloc (.cells #[.string x.nm, .int .i64 x.at_] 55)).alloc (.cells #[.string y.nm, .int .i64 y.at_] 55) = W2 := ⟨_, rfl⟩
  have hb2 : Below w.heap.size w W2 := by rw [← hW2]; exact ((Below.refl _ _).alloc (Nat.le_refl _) _).alloc (by simp) _
  have hX : Blk W2 p 55 #[.string x.nm, .int .i64 x.at_] := by rw [← hW2, ← hp]; exact (Blk.new w _ _).alloc _
  have hY : Blk W2 (p + 1) 55 #[.string y.nm, .int .i64 y.at_] := by rw [← hW2, ← hp]; exact blk_at (by simp) _ _
  have HB2 := Lib.hid hb2
  rw [hW2, hp]
  have x0 : W2.cell? ⟨p, 0, none⟩ = some (.string x.nm) := by rw [hX.cell]; rfl
  have x1 : W2.cell? ⟨p, 1, none⟩ = some (.int .i64 x.at_) := by rw [hX.cell]; rfl
  have y0 : W2.cell? ⟨p + 1, 0, none⟩ = some (.string y.nm) := by rw [hY.cell]; rfl
  have y1 : W2.cell? ⟨p + 1, 1, none⟩ = some (.int .i64 y.at_) := by rw [hY.cell]; rfl
  clear hW2 hb2 hX hY
  have HC := Lib.hid (And.intro x0 (And.intro x1 (And.intro y0 y1)))
  clear x0 x1 y0 y1
  refine wp_region_held_drew (S := (fun W => W.cell? ⟨p, 0, none⟩ = some (.string x.nm) ∧ W.cell? ⟨p, 1, none⟩ = some (.int .i64 x.at_) ∧ W.cell? ⟨p + 1, 0, none⟩ = some (.string y.nm) ∧ W.cell? ⟨p + 1, 1, none⟩ = some (.int .i64 y.at_))) (by kernel_rfl) ?_ (fun hHeld => ?_)
  · exact HC.out
  refine FU _ rfl ?_
  ((first | (refine TW 0 ?_ rfl ?_ ?_; rotate_left 1; focus (intro w h; (try dsimp only at h); first | (go_simp; done) | (go_simp; with_reducible rfl))) | refine TU 0 rfl ?_); (try simp only [AP, Nat.reduceAdd, Nat.reduceSub]))
  ((first | (refine TW 1 ?_ rfl ?_ ?_; rotate_left 1; focus (intro w h; (try dsimp only at h); first | (go_simp; done) | (go_simp; with_reducible rfl))) | refine TU 1 rfl ?_); (try simp only [AP, Nat.reduceAdd, Nat.reduceSub]))
  ((first | (refine TW 2 ?_ rfl ?_ ?_; rotate_left 1; focus (intro w h; (try dsimp only at h); first | (go_simp; done) | (go_simp; with_reducible rfl))) | refine TU 2 rfl ?_); (try simp only [AP, Nat.reduceAdd, Nat.reduceSub]))
  ((first | (refine TW 3 ?_ rfl ?_ ?_; rotate_left 1; focus (intro w h; (try dsimp only at h); first | (go_simp; done) | (go_simp; with_reducible rfl))) | refine TU 3 rfl ?_); (try simp only [AP, Nat.reduceAdd, Nat.reduceSub]))
  ((first | (refine TW 5 ?_ rfl ?_ ?_; rotate_left 1; focus (intro w h; (try dsimp only at h); first | (go_simp; done) | (go_simp; with_reducible rfl))) | refine TU 5 rfl ?_); (try simp only [AP, Nat.reduceAdd, Nat.reduceSub]))
  ((first | (refine TW 6 ?_ rfl ?_ ?_; rotate_left 1; focus (intro w h; (try dsimp only at h); first | (go_simp; done) | (go_simp; with_reducible rfl))) | refine TU 6 rfl ?_); (try simp only [AP, Nat.reduceAdd, Nat.reduceSub]))
  ((first | (refine TW 7 ?_ rfl ?_ ?_; rotate_left 1; focus (intro w h; (try dsimp only at h); first | (go_simp; done) | (go_simp; with_reducible rfl))) | refine TU 7 rfl ?_); (try simp only [AP, Nat.reduceAdd, Nat.reduceSub]))
  ((first | (refine TW 8 ?_ rfl ?_ ?_; rotate_left 1; focus (intro w h; (try dsimp only at h); first | (go_simp; done) | (go_simp; with_reducible rfl))) | refine TU 8 rfl ?_); (try simp only [AP, Nat.reduceAdd, Nat.reduceSub]))
  refine wpAnyH_ready (rs := [4]) (by kernel_rfl) (by simp) ?_
  refine AllReadyH.cons rfl (fun K hK => ?_) AllReadyH.nil
  rw [if_pos (by rfl)]
  go_simp
  refine (compI _ _ _).mono ?_
  rintro e w1 ⟨rfl, rfl⟩
  try go_wp2_with fail
  refine hK.out _ _ HC.out (fun hHeld => ?_)
  clear hK K
  try simp only [AP]
  refine wpAnyH_ready (rs := [9]) (by kernel_rfl) (by simp) ?_
  refine AllReadyH.cons rfl (fun K hK => ?_) AllReadyH.nil
  rw [if_pos (by rfl)]
  go_simp
  refine (compS _ _ _).mono ?_
  rintro e w1 ⟨r, rfl, hr, rfl⟩
  try go_wp2_with fail
  refine hK.out _ _ HC.out (fun hHeld => ?_)
  clear hK K
  try simp only [AP]
  refine wpAnyH_ready (rs := [10]) (by kernel_rfl) (by simp) ?_
  refine AllReadyH.cons rfl (fun K hK => ?_) AllReadyH.nil
  rw [if_pos (by rfl)]
  go_simp
  obtain ⟨c1, hc1⟩ : ∃ c1, cmpZ x.at_ y.at_ = c1 := ⟨_, rfl⟩
  rw [hc1]
  have HC1 := Lib.hid hc1
  obtain ⟨q, hq⟩ : ∃ q, W2.heap.size = q := ⟨_, rfl⟩
  obtain ⟨W3, hW3⟩ : ∃ W3, (W2.alloc (.cells #[.int .i64 c1, .int .i64 r] 3)).drew = W3 := ⟨_, rfl⟩
  have hQ : Blk W3 q 3 #[.int .i64 c1, .int .i64 r] := by rw [← hW3, ← hq]; exact (Blk.new W2 _ _).drew
  have HC3 : Hid (W3.cell? ⟨p, 0, none⟩ = some (.string x.nm) ∧ W3.cell? ⟨p, 1, none⟩ = some (.int .i64 x.at_) ∧ W3.cell? ⟨p + 1, 0, none⟩ = some (.string y.nm) ∧ W3.cell? ⟨p + 1, 1, none⟩ = some (.int .i64 y.at_)) := by
    rw [← hW3]
    exact Lib.hid ⟨cell_al HC.out.1 _, cell_al HC.out.2.1 _, cell_al HC.out.2.2.1 _, cell_al HC.out.2.2.2 _⟩
  have HB3 : Hid (Below w.heap.size w W3) := by rw [← hW3]; exact Lib.hid (HB2.out.alloc HB2.out.size _).drew
  have HOR := Lib.hid (orZ q c1 r W3 (by rw [hQ.cell]; rfl) (by rw [hQ.cell]; rfl))
  have HLP : Hid (p + 1 < W3.heap.size) := Lib.hid (cell_lt HC3.out.2.2.1)
  rw [hW3, hq]
  clear hW3 hq hQ hc1
  refine hK.out _ _ HC3.out (fun hHeld => ?_)
  clear hK K
  try simp only [AP]
  refine wpAnyH_ready (rs := [11]) (by kernel_rfl) (by simp) ?_
  refine AllReadyH.cons rfl (fun K hK => ?_) AllReadyH.nil
  rw [if_pos (by rfl)]
  go_simp
  refine HOR.out.mono ?_
  rintro e w4 ⟨z, rfl, hz, hb4⟩
  have HC4 : Hid (w4.cell? ⟨p, 0, none⟩ = some (.string x.nm) ∧ w4.cell? ⟨p, 1, none⟩ = some (.int .i64 x.at_) ∧ w4.cell? ⟨p + 1, 0, none⟩ = some (.string y.nm) ∧ w4.cell? ⟨p + 1, 1, none⟩ = some (.int .i64 y.at_)) := by
    have hl := HLP.out
    exact Lib.hid ⟨(hb4.cell (p := ⟨p, 0, none⟩) (by show p < _; omega)).trans HC3.out.1, (hb4.cell (p := ⟨p, 1, none⟩) (by show p < _; omega)).trans HC3.out.2.1, (hb4.cell (p := ⟨p + 1, 0, none⟩) (by show p + 1 < _; omega)).trans HC3.out.2.2.1, (hb4.cell (p := ⟨p + 1, 1, none⟩) (by show p + 1 < _; omega)).trans HC3.out.2.2.2⟩
  have HB4 := Lib.hid (HB3.out.trans (hb4.mono HB3.out.size))
  have HZ : Hid (z < 0 ↔ keyY x < keyY y) := by
    show _ ↔ _
    have h1 := hz.out
    have hc := HC1.out
    rw [← h1, ← hc]
    unfold keyY cmpZ
    by_cases h1 : x.at_ < y.at_
    · simp [h1]
    · by_cases h2 : y.at_ < x.at_
      · simp [h1, h2]
      · have e : x.at_ = y.at_ := by omega
        have hn := OkY.same HX.out HY.out e
        have hr0 := hr hn
        simp [h1, h2, hr0]
  clear hz hr hb4
  try go_wp2_with fail
  refine hK.out _ _ HC4.out (fun hHeld => ?_)
  clear hK K
  try simp only [AP]
  try ((first | (refine TW 12 ?_ rfl ?_ ?_; rotate_left 1; focus (intro w h; (try dsimp only at h); first | (go_simp; done) | (go_simp; with_reducible rfl))) | refine TU 12 rfl ?_); (try simp only [AP, Nat.reduceAdd, Nat.reduceSub]))
  refine wpAnyH_done (by kernel_rfl) ?_ _
  go_wp2_with fail
  go_ret
  exact ⟨⟨_, rfl, HZ.out⟩, HB4.out⟩
end Go.Proofs.YteoglkofeogknaaGreatDoor
set_option linter.unusedVariables false
set_option linter.unusedSimpArgs false
namespace Go.Proofs.YteoglkofeogknaaGreatDoor
open Go.RowKit
def SrtY (w : World) (B g N cap : Nat) (xs : List Sy) : Prop := xs.length = N ∧ w.ownsRow B 55 2 (.slice (some ⟨g, 0, none⟩) N cap) N (xs.flatMap Sy.cells)
theorem SrtY.lt {w : World} {B g N cap : Nat} {xs : List Sy} (h : SrtY w B g N cap xs) : B ≤ g ∧ g < w.heap.size ∧ N ≤ cap ∧ cap ≤ maxLen := by
  obtain ⟨h1, h2, h3, h4, _⟩ := own_parts h.2
  exact ⟨h1, h2, h3, h4⟩
theorem SrtY.at_ {w : World} {B g N cap i : Nat} {xs : List Sy} (h : SrtY w B g N cap xs) (hi : i < xs.length) : w.cell? ⟨g, i * 2, none⟩ = some (.string xs[i].nm) ∧ w.cell? ⟨g, i * 2 + 1, none⟩ = some (.int .i64 xs[i].at_) := by
  obtain ⟨_, _, _, _, hc, _⟩ := own_parts h.2
  have hh : ∀ j, j < 2 → ∀ u, (xs[i].cells)[j]? = some u → w.cell? ⟨g, i * 2 + j, none⟩ = some u := fun j hj u hu => hc _ _ (by rw [flatMap_at Sy.cells 2 (fun _ => rfl) xs i hi j hj]; exact hu)
  exact ⟨hh 0 (by omega) _ rfl, hh 1 (by omega) _ rfl⟩
theorem SrtY.fz {w : World} {B g N cap : Nat} {xs : List Sy} (h : SrtY w B g N cap xs) (j : Nat) : w.frozen? ⟨g, j, none⟩ = false := (own_parts h.2).2.2.2.2.2 j
theorem SrtY.put {w : World} {B g N cap i : Nat} {xs : List Sy} (h : SrtY w B g N cap xs) (hi : i < xs.length) (y : Sy) :
    SrtY (((w.setCell ⟨g, i * 2, none⟩ (.string y.nm))).setCell ⟨g, i * 2 + 1, none⟩ (.int .i64 y.at_)) B g N cap (xs.set i y) := by
  have hl : (xs.flatMap Sy.cells).length = N * 2 := by rw [flatMap_len Sy.cells 2 (fun _ => rfl), h.1]
  have hN := h.1
  have y0 := own_set h.2 (j := i * 2) (by (try simp only [List.length_set]); omega) (.string y.nm)
  have y1 := own_set y0 (j := i * 2 + 1) (by (try simp only [List.length_set]); omega) (.int .i64 y.at_)
  refine ⟨by rw [List.length_set]; exact h.1, ?_⟩
  have e := set_el Sy.cells 2 (fun _ => rfl) xs i hi y ((((xs.flatMap Sy.cells).set (i * 2) (.string y.nm)).set (i * 2 + 1) (.int .i64 y.at_))) (by (try simp only [List.length_set]); omega) (fun j hj => ?_) (fun j hj hne => ?_)
  · rw [← e]; exact y1
  · have hjj : j = 0 ∨ j = 1 := by omega
    rcases hjj with rfl | rfl
    · simp only [Nat.add_zero]
      rw [List.getElem?_set_ne (by omega)]
      rw [List.getElem?_set_self (by (try simp only [List.length_set]); omega)]
      rfl
    · rw [List.getElem?_set_self (by (try simp only [List.length_set]); omega)]
      rfl
  · have n0 := hne 0 (by omega)
    have n1 := hne 1 (by omega)
    repeat rw [List.getElem?_set_ne (by omega)]
theorem SrtY.drew {w : World} {B g N cap : Nat} {xs : List Sy} (h : SrtY w B g N cap xs) : SrtY w.drew B g N cap xs := h
theorem SrtY.drewN {w : World} {B g N cap : Nat} {xs : List Sy} (h : SrtY w B g N cap xs) (q : Nat) : SrtY (w.drewN q) B g N cap xs := h
theorem SrtY.keep {w w' : World} {F : Nat → Prop} {B g N cap : Nat} {xs : List Sy} (h : SrtY w B g N cap xs) (k : Keeps F w w') (hF : ¬ F g) : SrtY w' B g N cap xs := ⟨h.1, ownsRow_keeps h.2 k (fun g' hg' => (own_only hg') ▸ hF)⟩
theorem SrtY.two {w0 w : World} {F : Nat → Prop} {B g N cap i j : Nat} {xs : List Sy} (h : SrtY w B g N cap xs) (k : Keeps F w0 w) (hF : F g) (hi : i < xs.length) (hj : j < xs.length) (y x : Sy) :
    SrtY (((((((w.setCell ⟨g, i * 2, none⟩ (.string y.nm))).setCell ⟨g, i * 2 + 1, none⟩ (.int .i64 y.at_))).setCell ⟨g, j * 2, none⟩ (.string x.nm))).setCell ⟨g, j * 2 + 1, none⟩ (.int .i64 x.at_)) B g N cap ((xs.set i y).set j x) ∧ Keeps F w0 (((((((w.setCell ⟨g, i * 2, none⟩ (.string y.nm))).setCell ⟨g, i * 2 + 1, none⟩ (.int .i64 y.at_))).setCell ⟨g, j * 2, none⟩ (.string x.nm))).setCell ⟨g, j * 2 + 1, none⟩ (.int .i64 x.at_)) :=
  ⟨(h.put hi y).put (i := j) (by rw [List.length_set]; exact hj) x, ((((k).setCell (p := ⟨g, i * 2, none⟩) (Or.inr hF) (.string y.nm)).setCell (p := ⟨g, i * 2 + 1, none⟩) (Or.inr hF) (.int .i64 y.at_)).setCell (p := ⟨g, j * 2, none⟩) (Or.inr hF) (.string x.nm)).setCell (p := ⟨g, j * 2 + 1, none⟩) (Or.inr hF) (.int .i64 x.at_)⟩
theorem SrtY.mid {w : World} {B g N cap i : Nat} {P S : List Sy} {x : Sy} (h : SrtY w B g N cap (P ++ x :: S)) (hP : P.length = i) : w.cell? ⟨g, i * 2, none⟩ = some (.string x.nm) ∧ w.cell? ⟨g, i * 2 + 1, none⟩ = some (.int .i64 x.at_) := by
  subst hP
  have hi : P.length < (P ++ x :: S).length := by simp
  have e : (P ++ x :: S)[P.length] = x := by simp
  have := h.at_ hi
  rwa [e] at this
/-- Neighbours are exchanged: the later one is put first. -/
theorem SrtY.xch {w0 w : World} {F : Nat → Prop} {B g N cap i j : Nat} {P S : List Sy} {x y : Sy} (h : SrtY w B g N cap (P ++ y :: x :: S)) (k : Keeps F w0 w) (hF : F g) (hP : P.length = i) (hj : i + 1 = j) :
    SrtY (((((((w.setCell ⟨g, j * 2, none⟩ (.string y.nm))).setCell ⟨g, j * 2 + 1, none⟩ (.int .i64 y.at_))).setCell ⟨g, i * 2, none⟩ (.string x.nm))).setCell ⟨g, i * 2 + 1, none⟩ (.int .i64 x.at_)) B g N cap (P ++ x :: y :: S) ∧ Keeps F w0 (((((((w.setCell ⟨g, j * 2, none⟩ (.string y.nm))).setCell ⟨g, j * 2 + 1, none⟩ (.int .i64 y.at_))).setCell ⟨g, i * 2, none⟩ (.string x.nm))).setCell ⟨g, i * 2 + 1, none⟩ (.int .i64 x.at_)) := by
  subst hP
  subst hj
  have h1 := h.two k hF (i := P.length + 1) (j := P.length) (by simp) (by simp) y x
  have e : ((P ++ y :: x :: S).set (P.length + 1) y).set P.length x = P ++ x :: y :: S := by simp [List.set_append]
  rwa [e] at h1
/-- .. the earlier one is put first. -/
theorem SrtY.xch2 {w0 w : World} {F : Nat → Prop} {B g N cap i j : Nat} {P S : List Sy} {x y : Sy} (h : SrtY w B g N cap (P ++ x :: y :: S)) (k : Keeps F w0 w) (hF : F g) (hP : P.length = i) (hj : i + 1 = j) :
    SrtY (((((((w.setCell ⟨g, i * 2, none⟩ (.string y.nm))).setCell ⟨g, i * 2 + 1, none⟩ (.int .i64 y.at_))).setCell ⟨g, j * 2, none⟩ (.string x.nm))).setCell ⟨g, j * 2 + 1, none⟩ (.int .i64 x.at_)) B g N cap (P ++ y :: x :: S) ∧ Keeps F w0 (((((((w.setCell ⟨g, i * 2, none⟩ (.string y.nm))).setCell ⟨g, i * 2 + 1, none⟩ (.int .i64 y.at_))).setCell ⟨g, j * 2, none⟩ (.string x.nm))).setCell ⟨g, j * 2 + 1, none⟩ (.int .i64 x.at_)) := by
  subst hP
  subst hj
  have h1 := h.two k hF (i := P.length) (j := P.length + 1) (by simp) (by simp) y x
  have e : ((P ++ x :: y :: S).set P.length y).set (P.length + 1) x = P ++ y :: x :: S := by simp [List.set_append]
  rwa [e] at h1
/-- Where the inner loop stands: x is on its way down. -/
structure InsIY (w : World) (B g N cap : Nat) (P Q S : List Sy) (x : Sy) (U1 U2 : List Sy) (wr : World) : Prop where
  row : SrtY wr B g N cap (P ++ (U1 ++ x :: U2) ++ S)
  srt : StS keyY Q (U1 ++ U2)
  gt : ∀ u ∈ U2, keyY x < keyY u
  keeps : Keeps (fun i => i = g ∨ w.heap.size ≤ i) w wr
theorem InsIY.drew {w wr : World} {B g N cap : Nat} {P Q S U1 U2 : List Sy} {x : Sy} (h : InsIY w B g N cap P Q S x U1 U2 wr) : InsIY w B g N cap P Q S x U1 U2 wr.drew := ⟨h.row, h.srt, h.gt, h.keeps.drew⟩
theorem InsIY.below {w wr w' : World} {B g N cap : Nat} {P Q S U1 U2 : List Sy} {x : Sy} (h : InsIY w B g N cap P Q S x U1 U2 wr) (hb : Below wr.heap.size wr w') : InsIY w B g N cap P Q S x U1 U2 w' :=
  ⟨h.row.keep (keeps_of_below (fun _ => False) hb) (fun e => e), h.srt, h.gt, h.keeps.trans (keeps_of_below (fun _ => False) hb) (fun _ _ e => e.elim)⟩
/-- Where the outer loop stands. -/
structure InsOY (w : World) (B g N cap : Nat) (P M S : List Sy) (k : Nat) (U : List Sy) (wr : World) : Prop where
  row : SrtY wr B g N cap (P ++ (U ++ M.drop k) ++ S)
  srt : StS keyY (M.take k) U
  keeps : Keeps (fun i => i = g ∨ w.heap.size ≤ i) w wr
theorem InsIY.stop {w wr : World} {B g N cap k : Nat} {P M S U1 U2 : List Sy} {x : Sy} (h : InsIY w B g N cap P (M.take k) (M.drop (k + 1) ++ S) x U1 U2 wr) (hx : M.take (k + 1) = M.take k ++ [x]) (hle : ∀ u ∈ U1, keyY u ≤ keyY x) : InsOY w B g N cap P M S (k + 1) (U1 ++ x :: U2) wr := by
  refine ⟨?_, ?_, h.keeps⟩
  · have := h.row
    simpa only [List.append_assoc, List.cons_append, List.nil_append] using this
  · rw [hx]
    exact sts_insert h.srt hle h.gt
theorem InsOY.drewN {w wr : World} {B g N cap k : Nat} {P M S U : List Sy} (h : InsOY w B g N cap P M S k U wr) (q : Nat) : InsOY w B g N cap P M S k U (wr.drewN q) := ⟨h.row, h.srt, h.keeps.drewN q⟩
set_option maxRecDepth 100000 in
set_option maxHeartbeats 2000000 in
theorem insY (B g N cap a b : Nat) (P M S : List Sy) (w : World) (h : SrtY w B g N cap (P ++ M ++ S)) (ha : P.length = a) (hb : a + M.length = b) (hok : ∀ x ∈ M, OkY x) (hN : N ≤ 1099511627776) :
    Calls Tryz.prog 65 #[.slice (some ⟨g, 0, none⟩) N cap, .int .i64 a, .int .i64 b, .func (.func 26) #[] #[]] w fun e w' => e = .returned (.tuple #[]) ∧ ∃ M', StS keyY M M' ∧ SrtY w' B g N cap (P ++ M' ++ S) ∧ Keeps (fun i => i = g ∨ w.heap.size ≤ i) w w' := by
  have hNl := h.1
  simp only [List.length_append] at hNl
  have hbN : b ≤ N := by omega
  obtain ⟨L, hL⟩ : ∃ L, M.length = L := ⟨_, rfl⟩
  have HS : Hid (∃ U, InsOY w B g N cap P M S 1 U w) := by
    refine ⟨M.take 1, by rw [List.take_append_drop]; exact h, ⟨?_, Same.refl _, rfl⟩, Keeps.refl _ _⟩
    cases M with
    | nil => simp [Up]
    | cons x M => simpa using up_one (key := keyY) x
  have HOK := Lib.hid hok
  have HA := Lib.hid ha
  have HL := Lib.hid hL
  rw [hL] at hb
  clear h hok hNl ha hL
  have e0 : IntKind.i64.wrap ((a : Int) + 1) = ((a + 1 : Nat) : Int) := by rw [IntWalk.i64_in _ (by omega)]; omega
  go_enter Tryz.func65, Tryz.ntmps65
  go_wp2_with fail
  go_loopw [8] (fun vi wr => ∃ i k : Nat, 1 ≤ k ∧ (k ≤ L ∨ k = 1) ∧ i = a + k ∧ vi = .int .i64 i ∧ Hid (∃ U, InsOY w B g N cap P M S k U wr)) (fun vi _ => b + 1 - (intOf vi).toNat)
  case atStart => exact ⟨a + 1, 1, Nat.le_refl _, Or.inr rfl, rfl, by go_num, HS.out⟩
  case round =>
    obtain ⟨i, k, hk1, hkL, hik, rfl, HR⟩ := hrel
    have HIK := Lib.hid hik
    have hai : a ≤ i := by omega
    by_cases hlt : i < b
    · have hkl : k < M.length := by rw [HL.out]; omega
      have hkL2 : k < L := by omega
      obtain ⟨x, hx⟩ : ∃ x, M[k] = x := ⟨_, rfl⟩
      have hxok : OkY x := by rw [← hx]; exact HOK.out _ (List.getElem_mem hkl)
      have HXOK := Lib.hid hxok
      have HKX : Hid (M.drop k = x :: M.drop (k + 1) ∧ M.take (k + 1) = M.take k ++ [x]) := by
        rw [← hx]
        exact ⟨List.drop_eq_getElem_cons hkl, List.take_succ_eq_append_getElem hkl⟩
      have HST : Hid (∃ U1 U2 : List Sy, a + U1.length = i ∧ InsIY w B g N cap P (M.take k) (M.drop (k + 1) ++ S) x U1 U2 wr) := by
        obtain ⟨U, hU⟩ := HR.out
        refine ⟨U, [], ?_, ?_, by rw [List.append_nil]; exact hU.srt, (fun u hu => by cases hu), hU.keeps⟩
        · have := hU.srt.len
          rw [List.length_take] at this
          omega
        · have := hU.row
          rw [HKX.out.1] at this
          simpa only [List.append_assoc, List.cons_append, List.nil_append] using this
      clear hx hxok HR hik
      go_wp2_with fail
      obtain ⟨wo, hwo⟩ : ∃ wo : World, wo = wr := ⟨_, rfl⟩
      go_loopw [9] (fun vj wi => ∃ j : Nat, a ≤ j ∧ j ≤ i ∧ vj = .int .i64 j ∧ Hid (∃ U1 U2 : List Sy, a + U1.length = j ∧ InsIY w B g N cap P (M.take k) (M.drop (k + 1) ++ S) x U1 U2 wi)) (fun vj _ => (intOf vj).toNat)
      case atStart => exact ⟨i, hai, Nat.le_refl _, rfl, HST.out⟩
      case round =>
        obtain ⟨j, haj, hji, rfl, HI⟩ := hrel
        by_cases hja : a < j
        · obtain ⟨jp, hjp⟩ : ∃ jp, j = jp + 1 := ⟨j - 1, by omega⟩
          have HI2 : Hid (∃ (U0 : List Sy) (y : Sy) (U2 : List Sy), a + U0.length = jp ∧ OkY y ∧ InsIY w B g N cap P (M.take k) (M.drop (k + 1) ++ S) x (U0 ++ [y]) U2 wr) := by
            obtain ⟨U1, U2, h1, h2⟩ := HI.out
            have hne : U1 ≠ [] := by rintro rfl; simp at h1; omega
            refine ⟨U1.dropLast, U1.getLast hne, U2, ?_, ?_, by rw [List.dropLast_concat_getLast]; exact h2⟩
            · rw [List.length_dropLast]; omega
            · have hm : U1.getLast hne ∈ M.take k := h2.srt.mem (List.mem_append_left _ (List.getLast_mem hne))
              exact HOK.out _ (List.mem_of_mem_take hm)
          obtain ⟨U0, y, U2, hjl, hyok, hI⟩ := HI2.out
          have hlen := hI.row.1
          simp only [List.length_append, List.length_cons, List.length_nil] at hlen
          have hA := HA.out
          have hiN : i < N := by omega
          have hjN : j < N := by omega
          have hrow : SrtY wr B g N cap ((P ++ U0) ++ y :: x :: (U2 ++ (M.drop (k + 1) ++ S))) := by have := hI.row; simpa only [List.append_assoc, List.cons_append, List.nil_append] using this
          have hrow2 : SrtY wr B g N cap ((P ++ U0 ++ [y]) ++ x :: (U2 ++ (M.drop (k + 1) ++ S))) := by have := hI.row; simpa only [List.append_assoc, List.cons_append, List.nil_append] using this
          obtain ⟨c0, c1⟩ := hrow2.mid (i := j) (by simp; omega)
          obtain ⟨d0, d1⟩ := hrow.mid (i := jp) (by simp; omega)
          have HGL : Hid (g < wr.heap.size) := hI.row.lt.2.1
          have HYOK := Lib.hid hyok
          have HII := Lib.hid hI
          have HJL := Lib.hid hjl
          obtain ⟨_, _, hnc, hcm⟩ := hI.row.lt
          unfold maxLen at hcm
          have e1 : IntKind.i64.wrap ((j : Int) - 1) = (jp : Int) := by rw [IntWalk.i64_in _ (by omega)]; omega
          have e3 : (0 : Int) ≤ (j : Int) := by omega
          have e4 : (j : Int) < ((N : Nat) : Int) := by omega
          have e5 : (0 : Int) ≤ (jp : Int) := by omega
          have e6 : (jp : Int) < ((N : Nat) : Int) := by omega
          have e7 : (a : Int) < (j : Int) := by omega
          have HJP := Lib.hid hjp
          clear hrow hrow2 hI hyok hjl HI HI2 hlen hA hjp
          go_wp2_with fail
          go_region_held3 (fun w' => w'.cell? ⟨g, j * 2, none⟩ = some (.string x.nm) ∧ w'.cell? ⟨g, j * 2 + 1, none⟩ = some (.int .i64 x.at_) ∧ w'.cell? ⟨g, jp * 2, none⟩ = some (.string y.nm) ∧ w'.cell? ⟨g, jp * 2 + 1, none⟩ = some (.int .i64 y.at_)) (first | go_keep | exact ⟨t0, t1, t2, t3⟩)
            (first
              | (go_at_call 26; refine (cmpY x y _ HXOK.out HYOK.out).mono ?_; rintro e w3 ⟨⟨r, rfl, hr⟩, hb3⟩
                 have t0 : w3.cell? ⟨g, j * 2, none⟩ = some (.string x.nm) := (hb3.cell (p := ⟨g, j * 2, none⟩) HGL.out).trans c0
                 have t1 : w3.cell? ⟨g, j * 2 + 1, none⟩ = some (.int .i64 x.at_) := (hb3.cell (p := ⟨g, j * 2 + 1, none⟩) HGL.out).trans c1
                 have t2 : w3.cell? ⟨g, jp * 2, none⟩ = some (.string y.nm) := (hb3.cell (p := ⟨g, jp * 2, none⟩) HGL.out).trans d0
                 have t3 : w3.cell? ⟨g, jp * 2 + 1, none⟩ = some (.int .i64 y.at_) := (hb3.cell (p := ⟨g, jp * 2 + 1, none⟩) HGL.out).trans d1
                 have HB3 := Lib.hid hb3
                 have HRK := Lib.hid hr
                 clear hb3 hr))
          have HI3 := Lib.hid (HII.out.drew.below HB3.out)
          clear HB3
          by_cases hxy : keyY x < keyY y
          · have hr' : r < 0 := HRK.out.2 hxy
            have hrow3 : SrtY w3 B g N cap ((P ++ U0) ++ y :: x :: (U2 ++ (M.drop (k + 1) ++ S))) := by have := HI3.out.row; simpa only [List.append_assoc, List.cons_append, List.nil_append] using this
            have hx3 := hrow3.xch HI3.out.keeps (Or.inl rfl) (i := jp) (j := j) (by have := HJL.out; have := HA.out; simp; omega) HJP.out.symm
            have HNX : Hid (∃ U1 U2 : List Sy, a + U1.length = jp ∧ InsIY w B g N cap P (M.take k) (M.drop (k + 1) ++ S) x U1 U2 (((((((((w3).setCell ⟨g, j * 2, none⟩ (.string y.nm))).setCell ⟨g, j * 2 + 1, none⟩ (.int .i64 y.at_))).setCell ⟨g, jp * 2, none⟩ (.string x.nm))).setCell ⟨g, jp * 2 + 1, none⟩ (.int .i64 x.at_)).drew)) := by
              refine ⟨U0, y :: U2, HJL.out, ?_, ?_, fun u hu => ?_, hx3.2.drew⟩
              · have := hx3.1.drew
                simpa only [List.append_assoc, List.cons_append, List.nil_append] using this
              · have := HI3.out.srt
                simpa only [List.append_assoc, List.cons_append, List.nil_append] using this
              · rcases List.mem_cons.1 hu with rfl | hu
                · exact hxy
                · exact HI3.out.gt u hu
            have y0 := hrow3.fz (j * 2)
            have y1 := hrow3.fz (j * 2 + 1)
            have z0 := hrow3.fz (jp * 2)
            have z1 := hrow3.fz (jp * 2 + 1)
            have hjpj : jp < j := by have := HJP.out; omega
            have hajp : a ≤ jp := by have := HJP.out; omega
            have hjpi : jp ≤ i := by omega
            clear hrow3 hx3 hxy HI3 HII
            go_wp2_with fail
            go_region
            go_wp2_with fail
            go_roundw
            case rel => exact ⟨jp, hajp, hjpi, rfl, HNX.out⟩
            case measure => simp [intOf]; omega
          · have hr' : 0 ≤ r := Int.not_lt.1 (fun h => hxy (HRK.out.1 h))
            have HNX : Hid (∃ U, InsOY w B g N cap P M S (k + 1) U w3) := by
              refine ⟨_, HI3.out.stop HKX.out.2 (fun u hu => ?_)⟩
              have hup := HI3.out.srt.up
              rcases List.mem_append.1 hu with hu | hu
              · have := (up_append.1 (up_append.1 hup).1).2.2 u hu y (by simp)
                omega
              · obtain rfl := List.mem_singleton.1 hu
                omega
            clear hxy HI3 HII
            go_wp2_with fail
            go_roundw
            case rel => exact ⟨i + 1, k + 1, by omega, by omega, by have := HIK.out; omega, by go_num, HNX.out⟩
            case measure => simp [intOf]; omega
        · have q1 : decide ((a : Int) < (j : Int)) = false := by simp; omega
          have HNX : Hid (∃ U, InsOY w B g N cap P M S (k + 1) U wr.drew) := by
            obtain ⟨U1, U2, h1, h2⟩ := HI.out
            have : U1 = [] := List.eq_nil_of_length_eq_zero (by omega)
            subst this
            exact ⟨_, (h2.stop HKX.out.2 (fun u hu => by cases hu)).drewN 1⟩
          obtain rfl : j = a := by omega
          clear hja HI q1
          go_wp2_with fail
          go_region
          go_wp2_with fail
          go_roundw
          case rel => exact ⟨i + 1, k + 1, by omega, by omega, by have := HIK.out; omega, by go_num, HNX.out⟩
          case measure => simp [intOf]; omega
    · have HFIN : Hid (∃ M', StS keyY M M' ∧ SrtY wr B g N cap (P ++ M' ++ S) ∧ Keeps (fun i => i = g ∨ w.heap.size ≤ i) w wr) := by
        obtain ⟨U, hU⟩ := HR.out
        have hle : M.length ≤ k := by rw [HL.out]; omega
        have h1 := hU.row
        have h2 := hU.srt
        rw [List.drop_of_length_le hle, List.append_nil] at h1
        rw [List.take_of_length_le hle] at h2
        exact ⟨U, h2, h1, hU.keeps⟩
      clear HR hik
      go_wp2_with fail
      go_end0
      exact ⟨rfl, HFIN.out⟩
end Go.Proofs.YteoglkofeogknaaGreatDoor
set_option linter.unusedVariables false
set_option linter.unusedSimpArgs false
namespace Go.Proofs.YteoglkofeogknaaGreatDoor
open Go.RowKit
set_option maxRecDepth 100000 in
set_option maxHeartbeats 1000000 in
theorem len64_any (n : Nat) (w : World) (hn : n ≤ 12) : Calls Tryz.prog 74 #[.int .u64 n] w fun e w' => ∃ r : Int, e = .returned (.int .i64 r) ∧ Below w.heap.size w w' := by
  have hc : n = 0 ∨ n = 1 ∨ n = 2 ∨ n = 3 ∨ n = 4 ∨ n = 5 ∨ n = 6 ∨ n = 7 ∨ n = 8 ∨ n = 9 ∨ n = 10 ∨ n = 11 ∨ n = 12 := by omega
  rcases hc with rfl | rfl | rfl | rfl | rfl | rfl | rfl | rfl | rfl | rfl | rfl | rfl | rfl
  all_goals
    go_enter Tryz.func74, Tryz.ntmps74
    go_wp2_with fail
    go_ret
    exact ⟨_, rfl, Below.refl _ _⟩
theorem len_any (n : Nat) (w : World) (hn : n ≤ 12) : Calls Tryz.prog 48 #[.int .u64 n] w fun e w' => ∃ r : Int, e = .returned (.int .i64 r) ∧ Below w.heap.size w w' := by
  have e1 : IntKind.u64.wrap (n : Int) = (n : Int) := by rw [IntKind.wrap_u64]; omega
  go_enter Tryz.func48, Tryz.ntmps48
  go_wp2_with fail
  refine (len64_any n _ hn).mono ?_
  rintro e w1 ⟨r, rfl, hb⟩
  have HB := Lib.hid hb
  clear hb
  go_wp2_with fail
  go_ret
  exact ⟨_, rfl, HB.out⟩
set_option maxRecDepth 100000 in
set_option maxHeartbeats 1000000 in
theorem pdqY (B g N cap : Nat) (M : List Sy) (lim : Int) (w : World) (h : SrtY w B g N cap M) (hN : N ≤ 12) (hok : ∀ x ∈ M, OkY x) :
    Calls Tryz.prog 47 #[.slice (some ⟨g, 0, none⟩) N cap, .int .i64 0, .int .i64 N, .int .i64 lim, .func (.func 26) #[] #[]] w fun e w' => e = .returned (.tuple #[]) ∧ ∃ M', StS keyY M M' ∧ SrtY w' B g N cap M' ∧ Keeps (fun i => i = g ∨ w.heap.size ≤ i) w w' := by
  have hl := h.1
  have HI := Lib.hid (insY B g N cap 0 N [] M [] w (by simpa using h) rfl (by omega) hok (by omega))
  have e0 : IntKind.i64.wrap ((N : Int) - 0) = (N : Int) := by rw [IntWalk.i64_in _ (by omega)]; omega
  have e1 : IntKind.i64.wrap (N : Int) = (N : Int) := IntWalk.i64_in _ (by omega)
  have e2 : (N : Int) ≤ 12 := by omega
  clear h hok hl
  go_enter Tryz.func47, Tryz.ntmps47
  go_wp2_with fail
  refine wp_loop_rounds 1 ?_
  rw [rounds_succ]
  go_wp2_with fail
  refine HI.out.mono ?_
  rintro e w1 ⟨rfl, M', h1, h2, h3⟩
  have HF : Hid (∃ M', StS keyY M M' ∧ SrtY w1 B g N cap M' ∧ Keeps (fun i => i = g ∨ w.heap.size ≤ i) w w1) := Lib.hid ⟨M', h1, by simpa using h2, h3⟩
  clear h1 h2 h3
  go_wp2_with fail
  refine bodyPost_ret (v := .tuple #[]) (by simp [results, Tryz.results47, go_sem]) rfl ?_
  exact ⟨rfl, HF.out⟩
theorem sortY (B g N cap : Nat) (M : List Sy) (w : World) (h : SrtY w B g N cap M) (hN : N ≤ 12) (hok : ∀ x ∈ M, OkY x) :
    Calls Tryz.prog 25 #[.slice (some ⟨g, 0, none⟩) N cap, .func (.func 26) #[] #[]] w fun e w' => e = .returned (.tuple #[]) ∧ ∃ M', StS keyY M M' ∧ SrtY w' B g N cap M' ∧ Keeps (fun i => i = g ∨ w.heap.size ≤ i) w w' := by
  have H := Lib.hid h
  have HOK := Lib.hid hok
  obtain ⟨h1, h2, h3, h4⟩ := h.lt
  unfold maxLen at h4
  have e1 : IntKind.u64.wrap (N : Int) = (N : Int) := by rw [IntKind.wrap_u64]; omega
  clear h hok
  go_enter Tryz.func25, Tryz.ntmps25
  go_wp2_with fail
  refine (len_any N _ hN).mono ?_
  rintro e w1 ⟨r, rfl, hb⟩
  have HB := Lib.hid hb
  have HP := Lib.hid (pdqY B g N cap M r w1 (H.out.keep (keeps_of_below (fun _ => False) hb) (fun e => e)) hN HOK.out)
  clear hb
  go_wp2_with fail
  refine HP.out.mono ?_
  rintro e w2 ⟨rfl, M', q1, q2, q3⟩
  have HF : Hid (∃ M', StS keyY M M' ∧ SrtY w2 B g N cap M' ∧ Keeps (fun i => i = g ∨ w.heap.size ≤ i) w w2) := Lib.hid ⟨M', q1, q2, (keeps_of_below (fun i => i = g ∨ w.heap.size ≤ i) HB.out).trans q3 (fun i hi e => e.imp id (fun h => Nat.le_trans HB.out.size h))⟩
  clear q1 q2 q3
  go_wp2_with fail
  go_end0
  exact ⟨rfl, HF.out⟩
end Go.Proofs.YteoglkofeogknaaGreatDoor
