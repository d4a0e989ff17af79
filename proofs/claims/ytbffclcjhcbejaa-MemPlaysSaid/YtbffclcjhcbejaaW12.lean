/- What Changed tells: gaps put one behind the other. No conditions. -/
import Derived.Test.YtbffclcjhcbejaaW11
namespace Go.Proofs.Ytbffclcjhcbejaa
open Go.RowKit
def flatG (gs : List (Int × Int)) : List Value := gs.flatMap fun p => [.int .i64 p.1, .int .i64 p.2]
theorem flatG_len (gs : List (Int × Int)) : (flatG gs).length = gs.length * 2 := by
  unfold flatG
  induction gs with
  | nil => rfl
  | cons p r ih => simp [List.flatMap_cons, ih]; omega
theorem flatG_append (a b : List (Int × Int)) : flatG (a ++ b) = flatG a ++ flatG b := by unfold flatG; rw [List.flatMap_append]
/-- An address more, joined to the last gap where it touches it. -/
def putG (gs : List (Int × Int)) (at_ : Int) : List (Int × Int) :=
  match gs.getLast? with
  | some p => if p.1 + p.2 = at_ then gs.dropLast ++ [(p.1, p.2 + 1)] else gs ++ [(at_, 1)]
  | none => [(at_, 1)]
theorem putG_nil (at_ : Int) : putG [] at_ = [(at_, 1)] := rfl
theorem putG_join (gs : List (Int × Int)) (f s at_ : Int) (h : f + s = at_) : putG (gs ++ [(f, s)]) at_ = gs ++ [(f, s + 1)] := by
  simp [putG, h]
theorem putG_new (gs : List (Int × Int)) (f s at_ : Int) (h : ¬ f + s = at_) : putG (gs ++ [(f, s)]) at_ = gs ++ [(f, s)] ++ [(at_, 1)] := by
  simp [putG, h]
/-- The first j bytes of an area, told behind what was told. -/
def areaG (a : Area) (gs : List (Int × Int)) : Nat → List (Int × Int)
  | 0 => gs
  | j + 1 => if a.xs.getD j 0 = a.ys.getD j 0 then areaG a gs j else putG (areaG a gs j) (a.r.fr + j)
/-- All of some areas. -/
def allG (ms : List Area) : List (Int × Int) := ms.foldl (fun gs a => areaG a gs a.xs.length) []
theorem allG_snoc (ms : List Area) (a : Area) : allG (ms ++ [a]) = areaG a (allG ms) a.xs.length := by simp [allG]
def GapOk (gs : List (Int × Int)) : Prop := ∀ p ∈ gs, 16 ≤ p.1 ∧ 1 ≤ p.2 ∧ p.1 + p.2 ≤ 4294967296
theorem GapOk.put {gs : List (Int × Int)} {at_ : Int} (h : GapOk gs) (h0 : 16 ≤ at_) (h1 : at_ + 1 ≤ 4294967296) : GapOk (putG gs at_) := by
  unfold putG
  split
  · rename_i p hp
    have hm := h p (List.mem_of_getLast? hp)
    split
    · rename_i he
      intro q hq
      rcases List.mem_append.1 hq with hq | hq
      · exact h q ((List.dropLast_sublist _).mem hq)
      · obtain rfl : q = (p.1, p.2 + 1) := by simpa using hq
        exact ⟨hm.1, by omega, by omega⟩
    · intro q hq
      rcases List.mem_append.1 hq with hq | hq
      · exact h q hq
      · obtain rfl : q = (at_, 1) := by simpa using hq
        exact ⟨h0, by omega, by omega⟩
  · intro q hq
    obtain rfl : q = (at_, 1) := by simpa using hq
    exact ⟨h0, by omega, by omega⟩
theorem putG_len (gs : List (Int × Int)) (at_ : Int) : (putG gs at_).length ≤ gs.length + 1 := by
  unfold putG
  split
  · rename_i p hp
    split
    · simp
    · simp
  · simp
theorem areaG_len (a : Area) (gs : List (Int × Int)) : ∀ j, (areaG a gs j).length ≤ gs.length + j
  | 0 => Nat.le_refl _
  | j + 1 => by
    unfold areaG
    have := areaG_len a gs j
    have h2 := putG_len (areaG a gs j) (a.r.fr + j)
    split <;> omega
theorem areaG_ok {a : Area} {gs : List (Int × Int)} (h : GapOk gs) (hr : a.r.Ok) : ∀ j : Nat, (j : Int) ≤ a.r.sz → GapOk (areaG a gs j)
  | 0, _ => h
  | j + 1, hj => by
    unfold areaG
    have h1 := areaG_ok h hr j (by omega)
    split
    · exact h1
    · exact h1.put (by have := hr.f0; omega) (by have := hr.fs; omega)
theorem areaG_same {a : Area} {gs : List (Int × Int)} (h : a.xs = a.ys) : ∀ j, areaG a gs j = gs
  | 0 => rfl
  | j + 1 => by unfold areaG; rw [if_pos (by rw [h]), areaG_same h j]
theorem allG_same {ms : List Area} (h : ∀ a ∈ ms, a.xs = a.ys) : allG ms = [] := by
  unfold allG
  have : ∀ (l : List Area) (gs : List (Int × Int)), (∀ a ∈ l, a.xs = a.ys) → l.foldl (fun gs a => areaG a gs a.xs.length) gs = gs := by
    intro l
    induction l with
    | nil => intro gs _; rfl
    | cons a r ih => intro gs hl; rw [List.foldl_cons, areaG_same (hl a (by simp)), ih gs (fun x hx => hl x (by simp [hx]))]
  exact this ms [] h
theorem gs_cases (gs : List (Int × Int)) : gs = [] ∨ ∃ g0 f s, gs = g0 ++ [(f, s)] := by
  rcases List.eq_nil_or_concat gs with h | ⟨g0, p, h⟩
  · exact Or.inl h
  · exact Or.inr ⟨g0, p.1, p.2, by rw [h]; simp⟩
end Go.Proofs.Ytbffclcjhcbejaa
