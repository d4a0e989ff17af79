/- Labels, relocations, objects as data; rows of them; bits of words. No conditions. -/
import Derived.Test.YteoglkofeogknaaGreatDoorHO
import Derived.Test.YteoglkofeogknaaGreatDoorRows
import Derived.WalkKit
import Derived.Laws.BitsLemmas
set_option linter.unusedVariables false
set_option linter.unusedSimpArgs false
namespace Go.Proofs.YteoglkofeogknaaGreatDoor
open Go.RowKit
structure Lbl where
  nm : ByteArray
  sec : Int
  at_ : Int
  gl : Bool
structure Rel where
  sec : Int
  at_ : Int
  kd : Int
  add : Int
  nm : ByteArray
instance : Inhabited Lbl := ⟨⟨⟨#[]⟩, 0, 0, false⟩⟩
instance : Inhabited Rel := ⟨⟨0, 0, 0, 0, ⟨#[]⟩⟩⟩
def Lbl.cells (x : Lbl) : List Value := [.string x.nm, .int .i64 x.sec, .int .i64 x.at_, .bool x.gl]
def Rel.cells (x : Rel) : List Value := [.int .i64 x.sec, .int .i64 x.at_, .int .i64 x.kd, .int .i64 x.add, .string x.nm]
theorem own_only {g g' N cap : Nat} (h : (Value.slice (some ⟨g, 0, none⟩) N cap).ownBlock = some g') : g = g' := by simpa [Value.ownBlock] using h
/-- A row of the sort's, in one block. -/
def SrtL (w : World) (B g N cap : Nat) (xs : List Lbl) : Prop := xs.length = N ∧ w.ownsRow B 68 4 (.slice (some ⟨g, 0, none⟩) N cap) N (xs.flatMap Lbl.cells)
def SrtR (w : World) (B g N cap : Nat) (xs : List Rel) : Prop := xs.length = N ∧ w.ownsRow B 51 5 (.slice (some ⟨g, 0, none⟩) N cap) N (xs.flatMap Rel.cells)
theorem SrtL.lt {w : World} {B g N cap : Nat} {xs : List Lbl} (h : SrtL w B g N cap xs) : B ≤ g ∧ g < w.heap.size ∧ N ≤ cap ∧ cap ≤ maxLen := by
  obtain ⟨h1, h2, h3, h4, _⟩ := own_parts h.2
  exact ⟨h1, h2, h3, h4⟩
theorem SrtL.at_ {w : World} {B g N cap i : Nat} {xs : List Lbl} (h : SrtL w B g N cap xs) (hi : i < xs.length) : w.cell? ⟨g, i * 4, none⟩ = some (.string xs[i].nm) ∧ w.cell? ⟨g, i * 4 + 1, none⟩ = some (.int .i64 xs[i].sec) ∧ w.cell? ⟨g, i * 4 + 2, none⟩ = some (.int .i64 xs[i].at_) ∧ w.cell? ⟨g, i * 4 + 3, none⟩ = some (.bool xs[i].gl) := by
  obtain ⟨_, _, _, _, hc, _⟩ := own_parts h.2
  have hh : ∀ j, j < 4 → ∀ u, (xs[i].cells)[j]? = some u → w.cell? ⟨g, i * 4 + j, none⟩ = some u := fun j hj u hu => hc _ _ (by rw [flatMap_at Lbl.cells 4 (fun _ => rfl) xs i hi j hj]; exact hu)
  exact ⟨hh 0 (by omega) _ rfl, hh 1 (by omega) _ rfl, hh 2 (by omega) _ rfl, hh 3 (by omega) _ rfl⟩
theorem SrtL.fz {w : World} {B g N cap : Nat} {xs : List Lbl} (h : SrtL w B g N cap xs) (j : Nat) : w.frozen? ⟨g, j, none⟩ = false := (own_parts h.2).2.2.2.2.2 j
theorem SrtL.put {w : World} {B g N cap i : Nat} {xs : List Lbl} (h : SrtL w B g N cap xs) (hi : i < xs.length) (y : Lbl) :
    SrtL (((((((w.setCell ⟨g, i * 4, none⟩ (.string y.nm))).setCell ⟨g, i * 4 + 1, none⟩ (.int .i64 y.sec))).setCell ⟨g, i * 4 + 2, none⟩ (.int .i64 y.at_))).setCell ⟨g, i * 4 + 3, none⟩ (.bool y.gl)) B g N cap (xs.set i y) := by
  have hl : (xs.flatMap Lbl.cells).length = N * 4 := by rw [flatMap_len Lbl.cells 4 (fun _ => rfl), h.1]
  have hN := h.1
  have y0 := own_set h.2 (j := i * 4) (by (try simp only [List.length_set]); omega) (.string y.nm)
  have y1 := own_set y0 (j := i * 4 + 1) (by (try simp only [List.length_set]); omega) (.int .i64 y.sec)
  have y2 := own_set y1 (j := i * 4 + 2) (by (try simp only [List.length_set]); omega) (.int .i64 y.at_)
  have y3 := own_set y2 (j := i * 4 + 3) (by (try simp only [List.length_set]); omega) (.bool y.gl)
  refine ⟨by rw [List.length_set]; exact h.1, ?_⟩
  have e := set_el Lbl.cells 4 (fun _ => rfl) xs i hi y ((((((xs.flatMap Lbl.cells).set (i * 4) (.string y.nm)).set (i * 4 + 1) (.int .i64 y.sec)).set (i * 4 + 2) (.int .i64 y.at_)).set (i * 4 + 3) (.bool y.gl))) (by (try simp only [List.length_set]); omega) (fun j hj => ?_) (fun j hj hne => ?_)
  · rw [← e]; exact y3
  · have hjj : j = 0 ∨ j = 1 ∨ j = 2 ∨ j = 3 := by omega
    rcases hjj with rfl | rfl | rfl | rfl
    · simp only [Nat.add_zero]
      rw [List.getElem?_set_ne (by omega)]
      rw [List.getElem?_set_ne (by omega)]
      rw [List.getElem?_set_ne (by omega)]
      rw [List.getElem?_set_self (by (try simp only [List.length_set]); omega)]
      rfl
    · rw [List.getElem?_set_ne (by omega)]
      rw [List.getElem?_set_ne (by omega)]
      rw [List.getElem?_set_self (by (try simp only [List.length_set]); omega)]
      rfl
    · rw [List.getElem?_set_ne (by omega)]
      rw [List.getElem?_set_self (by (try simp only [List.length_set]); omega)]
      rfl
    · rw [List.getElem?_set_self (by (try simp only [List.length_set]); omega)]
      rfl
  · have n0 := hne 0 (by omega)
    have n1 := hne 1 (by omega)
    have n2 := hne 2 (by omega)
    have n3 := hne 3 (by omega)
    repeat rw [List.getElem?_set_ne (by omega)]
theorem SrtL.drew {w : World} {B g N cap : Nat} {xs : List Lbl} (h : SrtL w B g N cap xs) : SrtL w.drew B g N cap xs := h
theorem SrtL.drewN {w : World} {B g N cap : Nat} {xs : List Lbl} (h : SrtL w B g N cap xs) (q : Nat) : SrtL (w.drewN q) B g N cap xs := h
theorem SrtL.keep {w w' : World} {F : Nat → Prop} {B g N cap : Nat} {xs : List Lbl} (h : SrtL w B g N cap xs) (k : Keeps F w w') (hF : ¬ F g) : SrtL w' B g N cap xs := ⟨h.1, ownsRow_keeps h.2 k (fun g' hg' => (own_only hg') ▸ hF)⟩
theorem SrtL.two {w0 w : World} {F : Nat → Prop} {B g N cap i j : Nat} {xs : List Lbl} (h : SrtL w B g N cap xs) (k : Keeps F w0 w) (hF : F g) (hi : i < xs.length) (hj : j < xs.length) (y x : Lbl) :
    SrtL (((((((((((((((w.setCell ⟨g, i * 4, none⟩ (.string y.nm))).setCell ⟨g, i * 4 + 1, none⟩ (.int .i64 y.sec))).setCell ⟨g, i * 4 + 2, none⟩ (.int .i64 y.at_))).setCell ⟨g, i * 4 + 3, none⟩ (.bool y.gl))).setCell ⟨g, j * 4, none⟩ (.string x.nm))).setCell ⟨g, j * 4 + 1, none⟩ (.int .i64 x.sec))).setCell ⟨g, j * 4 + 2, none⟩ (.int .i64 x.at_))).setCell ⟨g, j * 4 + 3, none⟩ (.bool x.gl)) B g N cap ((xs.set i y).set j x) ∧ Keeps F w0 (((((((((((((((w.setCell ⟨g, i * 4, none⟩ (.string y.nm))).setCell ⟨g, i * 4 + 1, none⟩ (.int .i64 y.sec))).setCell ⟨g, i * 4 + 2, none⟩ (.int .i64 y.at_))).setCell ⟨g, i * 4 + 3, none⟩ (.bool y.gl))).setCell ⟨g, j * 4, none⟩ (.string x.nm))).setCell ⟨g, j * 4 + 1, none⟩ (.int .i64 x.sec))).setCell ⟨g, j * 4 + 2, none⟩ (.int .i64 x.at_))).setCell ⟨g, j * 4 + 3, none⟩ (.bool x.gl)) :=
  ⟨(h.put hi y).put (i := j) (by rw [List.length_set]; exact hj) x, ((((((((k).setCell (p := ⟨g, i * 4, none⟩) (Or.inr hF) (.string y.nm)).setCell (p := ⟨g, i * 4 + 1, none⟩) (Or.inr hF) (.int .i64 y.sec)).setCell (p := ⟨g, i * 4 + 2, none⟩) (Or.inr hF) (.int .i64 y.at_)).setCell (p := ⟨g, i * 4 + 3, none⟩) (Or.inr hF) (.bool y.gl)).setCell (p := ⟨g, j * 4, none⟩) (Or.inr hF) (.string x.nm)).setCell (p := ⟨g, j * 4 + 1, none⟩) (Or.inr hF) (.int .i64 x.sec)).setCell (p := ⟨g, j * 4 + 2, none⟩) (Or.inr hF) (.int .i64 x.at_)).setCell (p := ⟨g, j * 4 + 3, none⟩) (Or.inr hF) (.bool x.gl)⟩
theorem SrtL.mid {w : World} {B g N cap i : Nat} {P S : List Lbl} {x : Lbl} (h : SrtL w B g N cap (P ++ x :: S)) (hP : P.length = i) : w.cell? ⟨g, i * 4, none⟩ = some (.string x.nm) ∧ w.cell? ⟨g, i * 4 + 1, none⟩ = some (.int .i64 x.sec) ∧ w.cell? ⟨g, i * 4 + 2, none⟩ = some (.int .i64 x.at_) ∧ w.cell? ⟨g, i * 4 + 3, none⟩ = some (.bool x.gl) := by
  subst hP
  have hi : P.length < (P ++ x :: S).length := by simp
  have e : (P ++ x :: S)[P.length] = x := by simp
  have := h.at_ hi
  rwa [e] at this
/-- Neighbours are exchanged: the later one is put first. -/
theorem SrtL.xch {w0 w : World} {F : Nat → Prop} {B g N cap i j : Nat} {P S : List Lbl} {x y : Lbl} (h : SrtL w B g N cap (P ++ y :: x :: S)) (k : Keeps F w0 w) (hF : F g) (hP : P.length = i) (hj : i + 1 = j) :
    SrtL (((((((((((((((w.setCell ⟨g, j * 4, none⟩ (.string y.nm))).setCell ⟨g, j * 4 + 1, none⟩ (.int .i64 y.sec))).setCell ⟨g, j * 4 + 2, none⟩ (.int .i64 y.at_))).setCell ⟨g, j * 4 + 3, none⟩ (.bool y.gl))).setCell ⟨g, i * 4, none⟩ (.string x.nm))).setCell ⟨g, i * 4 + 1, none⟩ (.int .i64 x.sec))).setCell ⟨g, i * 4 + 2, none⟩ (.int .i64 x.at_))).setCell ⟨g, i * 4 + 3, none⟩ (.bool x.gl)) B g N cap (P ++ x :: y :: S) ∧ Keeps F w0 (((((((((((((((w.setCell ⟨g, j * 4, none⟩ (.string y.nm))).setCell ⟨g, j * 4 + 1, none⟩ (.int .i64 y.sec))).setCell ⟨g, j * 4 + 2, none⟩ (.int .i64 y.at_))).setCell ⟨g, j * 4 + 3, none⟩ (.bool y.gl))).setCell ⟨g, i * 4, none⟩ (.string x.nm))).setCell ⟨g, i * 4 + 1, none⟩ (.int .i64 x.sec))).setCell ⟨g, i * 4 + 2, none⟩ (.int .i64 x.at_))).setCell ⟨g, i * 4 + 3, none⟩ (.bool x.gl)) := by
  subst hP
  subst hj
  have h1 := h.two k hF (i := P.length + 1) (j := P.length) (by simp) (by simp) y x
  have e : ((P ++ y :: x :: S).set (P.length + 1) y).set P.length x = P ++ x :: y :: S := by simp [List.set_append]
  rwa [e] at h1
/-- .. the earlier one is put first. -/
theorem SrtL.xch2 {w0 w : World} {F : Nat → Prop} {B g N cap i j : Nat} {P S : List Lbl} {x y : Lbl} (h : SrtL w B g N cap (P ++ x :: y :: S)) (k : Keeps F w0 w) (hF : F g) (hP : P.length = i) (hj : i + 1 = j) :
    SrtL (((((((((((((((w.setCell ⟨g, i * 4, none⟩ (.string y.nm))).setCell ⟨g, i * 4 + 1, none⟩ (.int .i64 y.sec))).setCell ⟨g, i * 4 + 2, none⟩ (.int .i64 y.at_))).setCell ⟨g, i * 4 + 3, none⟩ (.bool y.gl))).setCell ⟨g, j * 4, none⟩ (.string x.nm))).setCell ⟨g, j * 4 + 1, none⟩ (.int .i64 x.sec))).setCell ⟨g, j * 4 + 2, none⟩ (.int .i64 x.at_))).setCell ⟨g, j * 4 + 3, none⟩ (.bool x.gl)) B g N cap (P ++ y :: x :: S) ∧ Keeps F w0 (((((((((((((((w.setCell ⟨g, i * 4, none⟩ (.string y.nm))).setCell ⟨g, i * 4 + 1, none⟩ (.int .i64 y.sec))).setCell ⟨g, i * 4 + 2, none⟩ (.int .i64 y.at_))).setCell ⟨g, i * 4 + 3, none⟩ (.bool y.gl))).setCell ⟨g, j * 4, none⟩ (.string x.nm))).setCell ⟨g, j * 4 + 1, none⟩ (.int .i64 x.sec))).setCell ⟨g, j * 4 + 2, none⟩ (.int .i64 x.at_))).setCell ⟨g, j * 4 + 3, none⟩ (.bool x.gl)) := by
  subst hP
  subst hj
  have h1 := h.two k hF (i := P.length) (j := P.length + 1) (by simp) (by simp) y x
  have e : ((P ++ x :: y :: S).set P.length y).set (P.length + 1) x = P ++ y :: x :: S := by simp [List.set_append]
  rwa [e] at h1
theorem SrtR.lt {w : World} {B g N cap : Nat} {xs : List Rel} (h : SrtR w B g N cap xs) : B ≤ g ∧ g < w.heap.size ∧ N ≤ cap ∧ cap ≤ maxLen := by
  obtain ⟨h1, h2, h3, h4, _⟩ := own_parts h.2
  exact ⟨h1, h2, h3, h4⟩
theorem SrtR.at_ {w : World} {B g N cap i : Nat} {xs : List Rel} (h : SrtR w B g N cap xs) (hi : i < xs.length) : w.cell? ⟨g, i * 5, none⟩ = some (.int .i64 xs[i].sec) ∧ w.cell? ⟨g, i * 5 + 1, none⟩ = some (.int .i64 xs[i].at_) ∧ w.cell? ⟨g, i * 5 + 2, none⟩ = some (.int .i64 xs[i].kd) ∧ w.cell? ⟨g, i * 5 + 3, none⟩ = some (.int .i64 xs[i].add) ∧ w.cell? ⟨g, i * 5 + 4, none⟩ = some (.string xs[i].nm) := by
  obtain ⟨_, _, _, _, hc, _⟩ := own_parts h.2
  have hh : ∀ j, j < 5 → ∀ u, (xs[i].cells)[j]? = some u → w.cell? ⟨g, i * 5 + j, none⟩ = some u := fun j hj u hu => hc _ _ (by rw [flatMap_at Rel.cells 5 (fun _ => rfl) xs i hi j hj]; exact hu)
  exact ⟨hh 0 (by omega) _ rfl, hh 1 (by omega) _ rfl, hh 2 (by omega) _ rfl, hh 3 (by omega) _ rfl, hh 4 (by omega) _ rfl⟩
theorem SrtR.fz {w : World} {B g N cap : Nat} {xs : List Rel} (h : SrtR w B g N cap xs) (j : Nat) : w.frozen? ⟨g, j, none⟩ = false := (own_parts h.2).2.2.2.2.2 j
theorem SrtR.put {w : World} {B g N cap i : Nat} {xs : List Rel} (h : SrtR w B g N cap xs) (hi : i < xs.length) (y : Rel) :
    SrtR (((((((((w.setCell ⟨g, i * 5, none⟩ (.int .i64 y.sec))).setCell ⟨g, i * 5 + 1, none⟩ (.int .i64 y.at_))).setCell ⟨g, i * 5 + 2, none⟩ (.int .i64 y.kd))).setCell ⟨g, i * 5 + 3, none⟩ (.int .i64 y.add))).setCell ⟨g, i * 5 + 4, none⟩ (.string y.nm)) B g N cap (xs.set i y) := by
  have hl : (xs.flatMap Rel.cells).length = N * 5 := by rw [flatMap_len Rel.cells 5 (fun _ => rfl), h.1]
  have hN := h.1
  have y0 := own_set h.2 (j := i * 5) (by (try simp only [List.length_set]); omega) (.int .i64 y.sec)
  have y1 := own_set y0 (j := i * 5 + 1) (by (try simp only [List.length_set]); omega) (.int .i64 y.at_)
  have y2 := own_set y1 (j := i * 5 + 2) (by (try simp only [List.length_set]); omega) (.int .i64 y.kd)
  have y3 := own_set y2 (j := i * 5 + 3) (by (try simp only [List.length_set]); omega) (.int .i64 y.add)
  have y4 := own_set y3 (j := i * 5 + 4) (by (try simp only [List.length_set]); omega) (.string y.nm)
  refine ⟨by rw [List.length_set]; exact h.1, ?_⟩
  have e := set_el Rel.cells 5 (fun _ => rfl) xs i hi y (((((((xs.flatMap Rel.cells).set (i * 5) (.int .i64 y.sec)).set (i * 5 + 1) (.int .i64 y.at_)).set (i * 5 + 2) (.int .i64 y.kd)).set (i * 5 + 3) (.int .i64 y.add)).set (i * 5 + 4) (.string y.nm))) (by (try simp only [List.length_set]); omega) (fun j hj => ?_) (fun j hj hne => ?_)
  · rw [← e]; exact y4
  · have hjj : j = 0 ∨ j = 1 ∨ j = 2 ∨ j = 3 ∨ j = 4 := by omega
    rcases hjj with rfl | rfl | rfl | rfl | rfl
    · simp only [Nat.add_zero]
      rw [List.getElem?_set_ne (by omega)]
      rw [List.getElem?_set_ne (by omega)]
      rw [List.getElem?_set_ne (by omega)]
      rw [List.getElem?_set_ne (by omega)]
      rw [List.getElem?_set_self (by (try simp only [List.length_set]); omega)]
      rfl
    · rw [List.getElem?_set_ne (by omega)]
      rw [List.getElem?_set_ne (by omega)]
      rw [List.getElem?_set_ne (by omega)]
      rw [List.getElem?_set_self (by (try simp only [List.length_set]); omega)]
      rfl
    · rw [List.getElem?_set_ne (by omega)]
      rw [List.getElem?_set_ne (by omega)]
      rw [List.getElem?_set_self (by (try simp only [List.length_set]); omega)]
      rfl
    · rw [List.getElem?_set_ne (by omega)]
      rw [List.getElem?_set_self (by (try simp only [List.length_set]); omega)]
      rfl
    · rw [List.getElem?_set_self (by (try simp only [List.length_set]); omega)]
      rfl
  · have n0 := hne 0 (by omega)
    have n1 := hne 1 (by omega)
    have n2 := hne 2 (by omega)
    have n3 := hne 3 (by omega)
    have n4 := hne 4 (by omega)
    repeat rw [List.getElem?_set_ne (by omega)]
theorem SrtR.drew {w : World} {B g N cap : Nat} {xs : List Rel} (h : SrtR w B g N cap xs) : SrtR w.drew B g N cap xs := h
theorem SrtR.drewN {w : World} {B g N cap : Nat} {xs : List Rel} (h : SrtR w B g N cap xs) (q : Nat) : SrtR (w.drewN q) B g N cap xs := h
theorem SrtR.keep {w w' : World} {F : Nat → Prop} {B g N cap : Nat} {xs : List Rel} (h : SrtR w B g N cap xs) (k : Keeps F w w') (hF : ¬ F g) : SrtR w' B g N cap xs := ⟨h.1, ownsRow_keeps h.2 k (fun g' hg' => (own_only hg') ▸ hF)⟩
theorem SrtR.two {w0 w : World} {F : Nat → Prop} {B g N cap i j : Nat} {xs : List Rel} (h : SrtR w B g N cap xs) (k : Keeps F w0 w) (hF : F g) (hi : i < xs.length) (hj : j < xs.length) (y x : Rel) :
    SrtR (((((((((((((((((((w.setCell ⟨g, i * 5, none⟩ (.int .i64 y.sec))).setCell ⟨g, i * 5 + 1, none⟩ (.int .i64 y.at_))).setCell ⟨g, i * 5 + 2, none⟩ (.int .i64 y.kd))).setCell ⟨g, i * 5 + 3, none⟩ (.int .i64 y.add))).setCell ⟨g, i * 5 + 4, none⟩ (.string y.nm))).setCell ⟨g, j * 5, none⟩ (.int .i64 x.sec))).setCell ⟨g, j * 5 + 1, none⟩ (.int .i64 x.at_))).setCell ⟨g, j * 5 + 2, none⟩ (.int .i64 x.kd))).setCell ⟨g, j * 5 + 3, none⟩ (.int .i64 x.add))).setCell ⟨g, j * 5 + 4, none⟩ (.string x.nm)) B g N cap ((xs.set i y).set j x) ∧ Keeps F w0 (((((((((((((((((((w.setCell ⟨g, i * 5, none⟩ (.int .i64 y.sec))).setCell ⟨g, i * 5 + 1, none⟩ (.int .i64 y.at_))).setCell ⟨g, i * 5 + 2, none⟩ (.int .i64 y.kd))).setCell ⟨g, i * 5 + 3, none⟩ (.int .i64 y.add))).setCell ⟨g, i * 5 + 4, none⟩ (.string y.nm))).setCell ⟨g, j * 5, none⟩ (.int .i64 x.sec))).setCell ⟨g, j * 5 + 1, none⟩ (.int .i64 x.at_))).setCell ⟨g, j * 5 + 2, none⟩ (.int .i64 x.kd))).setCell ⟨g, j * 5 + 3, none⟩ (.int .i64 x.add))).setCell ⟨g, j * 5 + 4, none⟩ (.string x.nm)) :=
  ⟨(h.put hi y).put (i := j) (by rw [List.length_set]; exact hj) x, ((((((((((k).setCell (p := ⟨g, i * 5, none⟩) (Or.inr hF) (.int .i64 y.sec)).setCell (p := ⟨g, i * 5 + 1, none⟩) (Or.inr hF) (.int .i64 y.at_)).setCell (p := ⟨g, i * 5 + 2, none⟩) (Or.inr hF) (.int .i64 y.kd)).setCell (p := ⟨g, i * 5 + 3, none⟩) (Or.inr hF) (.int .i64 y.add)).setCell (p := ⟨g, i * 5 + 4, none⟩) (Or.inr hF) (.string y.nm)).setCell (p := ⟨g, j * 5, none⟩) (Or.inr hF) (.int .i64 x.sec)).setCell (p := ⟨g, j * 5 + 1, none⟩) (Or.inr hF) (.int .i64 x.at_)).setCell (p := ⟨g, j * 5 + 2, none⟩) (Or.inr hF) (.int .i64 x.kd)).setCell (p := ⟨g, j * 5 + 3, none⟩) (Or.inr hF) (.int .i64 x.add)).setCell (p := ⟨g, j * 5 + 4, none⟩) (Or.inr hF) (.string x.nm)⟩
theorem SrtR.mid {w : World} {B g N cap i : Nat} {P S : List Rel} {x : Rel} (h : SrtR w B g N cap (P ++ x :: S)) (hP : P.length = i) : w.cell? ⟨g, i * 5, none⟩ = some (.int .i64 x.sec) ∧ w.cell? ⟨g, i * 5 + 1, none⟩ = some (.int .i64 x.at_) ∧ w.cell? ⟨g, i * 5 + 2, none⟩ = some (.int .i64 x.kd) ∧ w.cell? ⟨g, i * 5 + 3, none⟩ = some (.int .i64 x.add) ∧ w.cell? ⟨g, i * 5 + 4, none⟩ = some (.string x.nm) := by
  subst hP
  have hi : P.length < (P ++ x :: S).length := by simp
  have e : (P ++ x :: S)[P.length] = x := by simp
  have := h.at_ hi
  rwa [e] at this
/-- Neighbours are exchanged: the later one is put first. -/
theorem SrtR.xch {w0 w : World} {F : Nat → Prop} {B g N cap i j : Nat} {P S : List Rel} {x y : Rel} (h : SrtR w B g N cap (P ++ y :: x :: S)) (k : Keeps F w0 w) (hF : F g) (hP : P.length = i) (hj : i + 1 = j) :
    SrtR (((((((((((((((((((w.setCell ⟨g, j * 5, none⟩ (.int .i64 y.sec))).setCell ⟨g, j * 5 + 1, none⟩ (.int .i64 y.at_))).setCell ⟨g, j * 5 + 2, none⟩ (.int .i64 y.kd))).setCell ⟨g, j * 5 + 3, none⟩ (.int .i64 y.add))).setCell ⟨g, j * 5 + 4, none⟩ (.string y.nm))).setCell ⟨g, i * 5, none⟩ (.int .i64 x.sec))).setCell ⟨g, i * 5 + 1, none⟩ (.int .i64 x.at_))).setCell ⟨g, i * 5 + 2, none⟩ (.int .i64 x.kd))).setCell ⟨g, i * 5 + 3, none⟩ (.int .i64 x.add))).setCell ⟨g, i * 5 + 4, none⟩ (.string x.nm)) B g N cap (P ++ x :: y :: S) ∧ Keeps F w0 (((((((((((((((((((w.setCell ⟨g, j * 5, none⟩ (.int .i64 y.sec))).setCell ⟨g, j * 5 + 1, none⟩ (.int .i64 y.at_))).setCell ⟨g, j * 5 + 2, none⟩ (.int .i64 y.kd))).setCell ⟨g, j * 5 + 3, none⟩ (.int .i64 y.add))).setCell ⟨g, j * 5 + 4, none⟩ (.string y.nm))).setCell ⟨g, i * 5, none⟩ (.int .i64 x.sec))).setCell ⟨g, i * 5 + 1, none⟩ (.int .i64 x.at_))).setCell ⟨g, i * 5 + 2, none⟩ (.int .i64 x.kd))).setCell ⟨g, i * 5 + 3, none⟩ (.int .i64 x.add))).setCell ⟨g, i * 5 + 4, none⟩ (.string x.nm)) := by
  subst hP
  subst hj
  have h1 := h.two k hF (i := P.length + 1) (j := P.length) (by simp) (by simp) y x
  have e : ((P ++ y :: x :: S).set (P.length + 1) y).set P.length x = P ++ x :: y :: S := by simp [List.set_append]
  rwa [e] at h1
/-- .. the earlier one is put first. -/
theorem SrtR.xch2 {w0 w : World} {F : Nat → Prop} {B g N cap i j : Nat} {P S : List Rel} {x y : Rel} (h : SrtR w B g N cap (P ++ x :: y :: S)) (k : Keeps F w0 w) (hF : F g) (hP : P.length = i) (hj : i + 1 = j) :
    SrtR (((((((((((((((((((w.setCell ⟨g, i * 5, none⟩ (.int .i64 y.sec))).setCell ⟨g, i * 5 + 1, none⟩ (.int .i64 y.at_))).setCell ⟨g, i * 5 + 2, none⟩ (.int .i64 y.kd))).setCell ⟨g, i * 5 + 3, none⟩ (.int .i64 y.add))).setCell ⟨g, i * 5 + 4, none⟩ (.string y.nm))).setCell ⟨g, j * 5, none⟩ (.int .i64 x.sec))).setCell ⟨g, j * 5 + 1, none⟩ (.int .i64 x.at_))).setCell ⟨g, j * 5 + 2, none⟩ (.int .i64 x.kd))).setCell ⟨g, j * 5 + 3, none⟩ (.int .i64 x.add))).setCell ⟨g, j * 5 + 4, none⟩ (.string x.nm)) B g N cap (P ++ y :: x :: S) ∧ Keeps F w0 (((((((((((((((((((w.setCell ⟨g, i * 5, none⟩ (.int .i64 y.sec))).setCell ⟨g, i * 5 + 1, none⟩ (.int .i64 y.at_))).setCell ⟨g, i * 5 + 2, none⟩ (.int .i64 y.kd))).setCell ⟨g, i * 5 + 3, none⟩ (.int .i64 y.add))).setCell ⟨g, i * 5 + 4, none⟩ (.string y.nm))).setCell ⟨g, j * 5, none⟩ (.int .i64 x.sec))).setCell ⟨g, j * 5 + 1, none⟩ (.int .i64 x.at_))).setCell ⟨g, j * 5 + 2, none⟩ (.int .i64 x.kd))).setCell ⟨g, j * 5 + 3, none⟩ (.int .i64 x.add))).setCell ⟨g, j * 5 + 4, none⟩ (.string x.nm)) := by
  subst hP
  subst hj
  have h1 := h.two k hF (i := P.length) (j := P.length + 1) (by simp) (by simp) y x
  have e : ((P ++ x :: y :: S).set P.length y).set (P.length + 1) x = P ++ y :: x :: S := by simp [List.set_append]
  rwa [e] at h1
theorem bits_or_u32_nat (a b : Nat) (ha : a < 4294967296) (hb : b < 4294967296) : bits .or .u32 (a : Int) (b : Int) = ((a ||| b : Nat) : Int) := by
  have h : a ||| b < 2 ^ 32 := Nat.or_lt_two_pow (by omega) (by omega)
  have e : (BitVec.ofInt 32 (a : Int) ||| BitVec.ofInt 32 (b : Int)).toNat = a ||| b := by
    simp only [BitVec.toNat_or, BitVec.ofInt_natCast, BitVec.toNat_ofNat]
    rw [Nat.mod_eq_of_lt (by omega), Nat.mod_eq_of_lt (by omega)]
  show IntKind.u32.wrap ((BitVec.ofInt 32 (a : Int) ||| BitVec.ofInt 32 (b : Int)).toNat : Int) = _
  rw [e, IntKind.wrap_u32]
  omega
theorem or_shift (x y k : Nat) (hx : x < 2 ^ k) (hx2 : x < 4294967296) (hy : y * 2 ^ k < 4294967296) : bits .or .u32 (x : Int) ((y * 2 ^ k : Nat) : Int) = ((x + y * 2 ^ k : Nat) : Int) := by
  rw [bits_or_u32_nat _ _ hx2 hy, Nat.or_comm, ← Nat.shiftLeft_eq, ← Nat.shiftLeft_add_eq_or_of_lt hx, Nat.add_comm]
/-- Four bytes as a word, the lowest first. -/
def fromW (b0 b1 b2 b3 : Int) : Int := b0 + 256 * b1 + 65536 * b2 + 16777216 * b3
theorem or4 (b0 b1 b2 b3 : Int) (h00 : 0 ≤ b0) (h01 : b0 ≤ 255) (h10 : 0 ≤ b1) (h11 : b1 ≤ 255) (h20 : 0 ≤ b2) (h21 : b2 ≤ 255) (h30 : 0 ≤ b3) (h31 : b3 ≤ 255) :
    bits .or .u32 (bits .or .u32 (bits .or .u32 b0 (b1 * 256)) (b2 * 65536)) (b3 * 16777216) = fromW b0 b1 b2 b3 := by
  obtain ⟨x0, rfl⟩ := Int.eq_ofNat_of_zero_le h00
  obtain ⟨x1, rfl⟩ := Int.eq_ofNat_of_zero_le h10
  obtain ⟨x2, rfl⟩ := Int.eq_ofNat_of_zero_le h20
  obtain ⟨x3, rfl⟩ := Int.eq_ofNat_of_zero_le h30
  have e1 : ((x1 : Int) * 256) = ((x1 * 2 ^ 8 : Nat) : Int) := by omega
  have e2 : ((x2 : Int) * 65536) = ((x2 * 2 ^ 16 : Nat) : Int) := by omega
  have e3 : ((x3 : Int) * 16777216) = ((x3 * 2 ^ 24 : Nat) : Int) := by omega
  rw [e1, e2, e3, or_shift x0 x1 8 (by omega) (by omega) (by omega), or_shift _ x2 16 (by omega) (by omega) (by omega), or_shift _ x3 24 (by omega) (by omega) (by omega)]
  unfold fromW
  omega
open Go.RowKit
structure Ob where
  tx : List UInt8
  dt : List UInt8
  lb : List Lbl
  rl : List Rel
def byv (b : UInt8) : Value := .int .u8 (b.toNat : Int)
theorem byv_le (b : UInt8) : (0 : Int) ≤ (b.toNat : Int) ∧ (b.toNat : Int) ≤ 255 := by have := b.toNat_lt; omega
/-- A slice whose cells read xs. -/
def RowOf (W : World) (v : Value) (n : Nat) (xs : List Value) : Prop := ∃ A cap, v = .slice A n cap ∧ n ≤ cap ∧ cap ≤ maxLen ∧ (0 < n → ∃ g off, A = some ⟨g, off, none⟩ ∧ g < W.heap.size ∧ ∀ j u, xs[j]? = some u → W.cell? ⟨g, off + j, none⟩ = some u)
theorem RowOf.below {W W' : World} {v : Value} {n : Nat} {xs : List Value} (h : RowOf W v n xs) (hb : Below W.heap.size W W') : RowOf W' v n xs := by
  obtain ⟨A, cap, h1, h2, h3, h4⟩ := h
  refine ⟨A, cap, h1, h2, h3, fun hn => ?_⟩
  obtain ⟨g, off, e, hg, hc⟩ := h4 hn
  exact ⟨g, off, e, Nat.lt_of_lt_of_le hg hb.size, fun j u hj => (hb.cell (p := ⟨g, off + j, none⟩) hg).trans (hc j u hj)⟩
theorem RowOf.lo {W W' : World} {B : Nat} {v : Value} {n : Nat} {xs : List Value} (h : RowOf W v n xs) (hB : W.heap.size ≤ B) (hb : Below B W W') (hs : W.heap.size ≤ W'.heap.size) : RowOf W' v n xs := by
  obtain ⟨A, cap, h1, h2, h3, h4⟩ := h
  refine ⟨A, cap, h1, h2, h3, fun hn => ?_⟩
  obtain ⟨g, off, e, hg, hc⟩ := h4 hn
  exact ⟨g, off, e, Nat.lt_of_lt_of_le hg hs, fun j u hj => (World.cell?_of_block (a := ⟨g, off + j, none⟩) (hb.block g (Nat.lt_of_lt_of_le hg hB))).trans (hc j u hj)⟩
theorem RowOf.keeps {W W' : World} {F : Nat → Prop} {v : Value} {n : Nat} {xs : List Value} (h : RowOf W v n xs) (hk : Keeps F W W') (hF : ∀ g, v.ownBlock = some g → ¬ F g) : RowOf W' v n xs := by
  obtain ⟨A, cap, h1, h2, h3, h4⟩ := h
  refine ⟨A, cap, h1, h2, h3, fun hn => ?_⟩
  obtain ⟨g, off, e, hg, hc⟩ := h4 hn
  refine ⟨g, off, e, Nat.lt_of_lt_of_le hg hk.size, fun j u hj => (hk.cell (p := ⟨g, off + j, none⟩) hg (hF g ?_)).trans (hc j u hj)⟩
  rw [h1, e]; rfl
theorem RowOf.own {W : World} {B size : Nat} {e : TypeId} {v : Value} {n : Nat} {xs : List Value} (h : W.ownsRow B e size v n xs) : RowOf W v n xs := by
  rcases h.2 with ⟨rfl, rfl⟩ | ⟨g, cap, cur, hv, _⟩
  · exact ⟨none, 0, rfl, by omega, by decide, fun h => by omega⟩
  · subst hv
    obtain ⟨_, h2, h3, h4, h5, _⟩ := own_parts h
    exact ⟨_, cap, rfl, h3, h4, fun _ => ⟨g, 0, rfl, h2, fun j u hj => by rw [Nat.zero_add]; exact h5 j u hj⟩⟩
def Bys (W : World) (v : Value) (bs : List UInt8) : Prop := RowOf W v bs.length (bs.map byv)
def Lbs (W : World) (v : Value) (xs : List Lbl) : Prop := RowOf W v xs.length (xs.flatMap Lbl.cells)
def Rls (W : World) (v : Value) (xs : List Rel) : Prop := RowOf W v xs.length (xs.flatMap Rel.cells)
/-- An object that came in. -/
structure ObAt (W : World) (v1 v2 v3 v4 : Value) (o : Ob) : Prop where
  tx : Bys W v1 o.tx
  dt : Bys W v2 o.dt
  lb : Lbs W v3 o.lb
  rl : Rls W v4 o.rl
theorem ObAt.below {W W' : World} {v1 v2 v3 v4 : Value} {o : Ob} (h : ObAt W v1 v2 v3 v4 o) (hb : Below W.heap.size W W') : ObAt W' v1 v2 v3 v4 o := ⟨h.tx.below hb, h.dt.below hb, h.lb.below hb, h.rl.below hb⟩
def Ob.sec (o : Ob) (s : Int) : List UInt8 := if s = 0 then o.tx else o.dt
/-- The word at a place. -/
def w4 (bs : List UInt8) (k : Nat) : Int := fromW ((bs.getD k 0).toNat : Int) ((bs.getD (k + 1) 0).toNat : Int) ((bs.getD (k + 2) 0).toNat : Int) ((bs.getD (k + 3) 0).toNat : Int)
theorem w4_lt (bs : List UInt8) (k : Nat) : ∃ v : Nat, w4 bs k = (v : Int) ∧ v < 4294967296 := by
  have h0 := byv_le (bs.getD k 0); have h1 := byv_le (bs.getD (k + 1) 0); have h2 := byv_le (bs.getD (k + 2) 0); have h3 := byv_le (bs.getD (k + 3) 0)
  unfold w4 fromW
  refine ⟨(bs.getD k 0).toNat + 256 * (bs.getD (k + 1) 0).toNat + 65536 * (bs.getD (k + 2) 0).toNat + 16777216 * (bs.getD (k + 3) 0).toNat, ?_, ?_⟩ <;> omega
theorem Bys.four {W : World} {v : Value} {bs : List UInt8} (h : Bys W v bs) {k : Nat} (hk : k + 4 ≤ bs.length) : ∃ g off cap, v = .slice (some ⟨g, off, none⟩) bs.length cap ∧ bs.length ≤ cap ∧ cap ≤ maxLen ∧ W.cell? ⟨g, off + k, none⟩ = some (.int .u8 ((bs.getD k 0).toNat : Int)) ∧ W.cell? ⟨g, off + (k + 1), none⟩ = some (.int .u8 ((bs.getD (k + 1) 0).toNat : Int)) ∧ W.cell? ⟨g, off + (k + 2), none⟩ = some (.int .u8 ((bs.getD (k + 2) 0).toNat : Int)) ∧ W.cell? ⟨g, off + (k + 3), none⟩ = some (.int .u8 ((bs.getD (k + 3) 0).toNat : Int)) := by
  obtain ⟨A, cap, rfl, h2, h3, h4⟩ := h
  obtain ⟨g, off, rfl, hg, hc⟩ := h4 (by omega)
  have hh : ∀ j, j < bs.length → W.cell? ⟨g, off + j, none⟩ = some (.int .u8 ((bs.getD j 0).toNat : Int)) := fun j hj => hc j _ (by rw [List.getElem?_map, List.getElem?_eq_getElem hj]; simp [byv, List.getD, hj])
  exact ⟨g, off, cap, rfl, h2, h3, hh _ (by omega), hh _ (by omega), hh _ (by omega), hh _ (by omega)⟩
theorem ret_u32t {z z' : Int} (h : z = z') : Ending.returned (.tuple #[.int .u32 z, .int .i64 0]) = .returned (.tuple #[.int .u32 z', .int .i64 0]) := by rw [h]
theorem ret_u32 {z z' : Int} (h : z = z') : Ending.returned (.int .u32 z) = .returned (.int .u32 z') := by rw [h]
end Go.Proofs.YteoglkofeogknaaGreatDoor
