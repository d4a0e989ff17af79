/- How acts and ranges that came in lie. No conditions. -/
import Derived.Test.YtbffclcjhcbejaaM2
import Derived.Test.YtbffclcjhcbejaaLift
import Derived.Lib.SmallJoins
namespace Go.Proofs.Ytbffclcjhcbejaa
open Go.RowKit
structure Act' where
  kind : Int
  at_ : Int
  n : Int
  w : Int
  by_ : Value
def actArr (a : Act') : Array Value := #[.int .i64 a.kind, .int .u32 a.at_, .int .i64 a.n, .int .u32 a.w, a.by_]
def ACells (w : World) (g off : Nat) (as_ : List Act') : Prop := ∀ i (h : i < as_.length) (j : Nat) (u : Value), (actArr as_[i])[j]? = some u → w.cell? ⟨g, off + i * 5 + j, none⟩ = some u
/-- A slice of acts reads ms these. -/
def ASlice (w : World) (v : Value) (as_ : List Act') : Prop :=
  ∃ A cap, v = .slice A as_.length cap ∧ as_.length ≤ cap ∧ cap ≤ maxLen ∧ (∀ a ∈ as_, (0 ≤ a.at_ ∧ a.at_ ≤ 4294967295) ∧ 0 ≤ a.w ∧ a.w ≤ 4294967295) ∧ (as_ ≠ [] → ∃ g off, A = some ⟨g, off, none⟩ ∧ g < w.heap.size ∧ ACells w g off as_)
theorem markA_ranges (ms : List Area) : (ms.map markA).map (·.r) = ms.map (·.r) := by rw [List.map_map]; rfl
end Go.Proofs.Ytbffclcjhcbejaa
namespace Go.Proofs.Ytbffclcjhcbejaa
open Go.ChangeShapes Go.WideShapes Go.ChangeAt Go.RowKit Go.Joins
theorem own : ownKnob Try.prog.godebug = none := by kernel_rfl
theorem laidOut : laidOutB Try.prog = true := by kernel_rfl
theorem cells30 : Try.prog.cellsOf 30 = 5 := by kernel_rfl
theorem cells3 : Try.prog.cellsOf 3 = 1 := by kernel_rfl
theorem cells4 : Try.prog.cellsOf 4 = 1 := by kernel_rfl
theorem cells9 : Try.prog.cellsOf 9 = 1 := by kernel_rfl
section
variable {H : Type} {enc : TypeId × Value → H} {W : World}
theorem five_list {l : List Value} (h : l.length = 5) : ∃ a b c d e, l = [a, b, c, d, e] := by
  match l, h with
  | [a, b, c, d, e], _ => exact ⟨a, b, c, d, e, rfl⟩
/-- Five cells that read as a range. -/
theorem rng_of_trod {n : Nat} {cs : List Value} {y : DataW H × List MemPlace} {sp : Nat → Bool} {hd : Bool} (h : DataW.trod enc Try.prog W 0 sp hd n 30 cs = some y) : ∃ r : Rng, cs = (rngArr r).toList ∧ r.nm.size ≤ maxLen := by
  obtain ⟨xs, m, _, _, hl, hx, hf⟩ := DataW.trod_struct Try.underlying30 h
  rw [cells30] at hl
  obtain ⟨a, b, c, d, e, rfl⟩ := five_list hl
  have hxl : xs.length = 5 := by rw [hx]; rfl
  have f0 : DataW.trod enc Try.prog W 0 sp hd m 9 (([a, b, c, d, e].drop 0).take (Try.prog.cellsOf 9)) = xs[0]? := hf 0 _ rfl
  have f1 : DataW.trod enc Try.prog W 0 sp hd m 3 (([a, b, c, d, e].drop 1).take (Try.prog.cellsOf 3)) = xs[1]? := hf 1 _ rfl
  have f2 : DataW.trod enc Try.prog W 0 sp hd m 3 (([a, b, c, d, e].drop 2).take (Try.prog.cellsOf 3)) = xs[2]? := hf 2 _ rfl
  have f3 : DataW.trod enc Try.prog W 0 sp hd m 4 (([a, b, c, d, e].drop 3).take (Try.prog.cellsOf 4)) = xs[3]? := hf 3 _ rfl
  have f4 : DataW.trod enc Try.prog W 0 sp hd m 4 (([a, b, c, d, e].drop 4).take (Try.prog.cellsOf 4)) = xs[4]? := hf 4 _ rfl
  rw [List.getElem?_eq_getElem (by omega)] at f0 f1 f2 f3 f4
  rw [cells9] at f0
  rw [cells3] at f1 f2
  rw [cells4] at f3 f4
  obtain ⟨s, q0, _, hs⟩ := DataW.trod_string Try.underlying9 f0
  obtain ⟨x1, q1, _, _⟩ := DataW.trod_int Try.underlying3 f1
  obtain ⟨x2, q2, _, _⟩ := DataW.trod_int Try.underlying3 f2
  obtain ⟨x3, q3, _⟩ := DataW.trod_bool Try.underlying4 f3
  obtain ⟨x4, q4, _⟩ := DataW.trod_bool Try.underlying4 f4
  simp at q0 q1 q2 q3 q4
  subst q0 q1 q2 q3 q4
  exact ⟨⟨s, x1, x2, x3, x4⟩, rfl, hs⟩
theorem list_of_each {α : Type} {Q : Nat → α → Prop} : ∀ (n : Nat), (∀ i, i < n → ∃ r, Q i r) → ∃ rs : List α, rs.length = n ∧ ∀ i (h : i < rs.length), Q i rs[i]
  | 0, _ => ⟨[], rfl, fun i h => by simp at h⟩
  | n + 1, h => by
    obtain ⟨rs, hl, hq⟩ := list_of_each n (fun i hi => h i (by omega))
    obtain ⟨r, hr⟩ := h n (by omega)
    refine ⟨rs ++ [r], by simp [hl], fun i hi => ?_⟩
    by_cases c : i < rs.length
    · rw [List.getElem_append_left c]; exact hq i c
    · have : i = rs.length := by simp at hi; omega
      subst this
      simp
      rw [hl]
      exact hr
/-- The slice of ranges that came in. -/
theorem rslice_in {fuel : Nat} {v : Value} {x : DataW H × List MemPlace} (h : DataW.trod enc Try.prog W 0 (fun _ => true) true fuel 22 [v] = some x) : ∃ rs, RSlice W v rs := by
  rcases DataW.trod_slice Try.underlying22 h with ⟨hcs, _⟩ | ⟨a, len, cap, elems, rest, n, _, hcs, _, _, hl, hm, hlen, hel, _, _⟩
  · obtain rfl : v = .slice none 0 0 := by simpa using hcs
    exact ⟨[], none, 0, rfl, by simp, by decide, (fun r hr => by cases hr), fun h => absurd rfl h⟩
  · obtain rfl : v = .slice (some a) len cap := by simpa using hcs
    rw [cells30] at hel
    have each : ∀ i, i < len → ∃ r : Rng, W.cells? 0 (a.add (i * 5)) 5 = some (rngArr r).toList ∧ r.nm.size ≤ maxLen := by
      intro i hi
      have h1 := hel i hi
      rw [List.getElem?_eq_getElem (by omega)] at h1
      obtain ⟨cs, hc, ht⟩ := Option.bind_eq_some_iff.1 h1
      obtain ⟨r, rfl, hs⟩ := rng_of_trod ht
      exact ⟨r, hc, hs⟩
    obtain ⟨rs, hrl, hrs⟩ := list_of_each len each
    refine ⟨rs, some a, cap, by rw [hrl], by omega, hm, fun r hr => ?_, fun hne => ?_⟩
    · obtain ⟨i, hi, rfl⟩ := List.getElem_of_mem hr
      exact (hrs i hi).2
    · have hpos : 0 < rs.length := List.length_pos_iff.2 hne
      obtain ⟨b, off, spot⟩ := a
      have h00 := (World.cells?_some (hrs 0 hpos).1).2.2 0 (by decide)
      rw [Nat.zero_mul] at h00
      have hspot : spot = none := by simpa [Addr.add] using World.cell?_spot (h00.trans rfl)
      subst hspot
      refine ⟨b, off, rfl, cell_lt (a := ⟨b, off, none⟩) (h00.trans rfl), fun i hi j u hj => ?_⟩
      have hj5 : j < 5 := by
        rcases Nat.lt_or_ge j 5 with h | h
        · exact h
        · rw [Array.getElem?_eq_none (by simpa [rngArr] using h)] at hj; cases hj
      have h1 := (World.cells?_some (hrs i hi).1).2.2 j hj5
      rw [addr_add, addr_add] at h1
      rw [h1]
      simpa using hj
end
theorem u32_bd {x : Int} (h : (Lit.int .u32 x).wf = true) : 0 ≤ x ∧ x ≤ 4294967295 := by
  have := bounds_u32 h
  omega
theorem cells35 : Try.prog.cellsOf 35 = 5 := by kernel_rfl
theorem cells32 : Try.prog.cellsOf 32 = 1 := by kernel_rfl
theorem cells33 : Try.prog.cellsOf 33 = 1 := by kernel_rfl
section
variable {H : Type} {enc : TypeId × Value → H} {W : World}
/-- Five cells that read as an act. -/
theorem act_of_trod {n : Nat} {cs : List Value} {y : DataW H × List MemPlace} {sp : Nat → Bool} {hd : Bool} (h : DataW.trod enc Try.prog W 0 sp hd n 35 cs = some y) : ∃ a : Act', cs = (actArr a).toList ∧ (0 ≤ a.at_ ∧ a.at_ ≤ 4294967295) ∧ 0 ≤ a.w ∧ a.w ≤ 4294967295 := by
  obtain ⟨xs, m, _, _, hl, hx, hf⟩ := DataW.trod_struct Try.underlying35 h
  rw [cells35] at hl
  obtain ⟨a, b, c, d, e, rfl⟩ := five_list hl
  have hxl : xs.length = 5 := by rw [hx]; rfl
  have f0 : DataW.trod enc Try.prog W 0 sp hd m 3 (([a, b, c, d, e].drop 0).take (Try.prog.cellsOf 3)) = xs[0]? := hf 0 _ rfl
  have f1 : DataW.trod enc Try.prog W 0 sp hd m 32 (([a, b, c, d, e].drop 1).take (Try.prog.cellsOf 32)) = xs[1]? := hf 1 _ rfl
  have f2 : DataW.trod enc Try.prog W 0 sp hd m 3 (([a, b, c, d, e].drop 2).take (Try.prog.cellsOf 3)) = xs[2]? := hf 2 _ rfl
  have f3 : DataW.trod enc Try.prog W 0 sp hd m 32 (([a, b, c, d, e].drop 3).take (Try.prog.cellsOf 32)) = xs[3]? := hf 3 _ rfl
  rw [List.getElem?_eq_getElem (by omega)] at f0 f1 f2 f3
  rw [cells3] at f0 f2
  rw [cells32] at f1 f3
  obtain ⟨x0, q0, _, _⟩ := DataW.trod_int Try.underlying3 f0
  obtain ⟨x1, q1, _, b1⟩ := DataW.trod_int Try.underlying32 f1
  obtain ⟨x2, q2, _, _⟩ := DataW.trod_int Try.underlying3 f2
  obtain ⟨x3, q3, _, b3⟩ := DataW.trod_int Try.underlying32 f3
  simp at q0 q1 q2 q3
  subst q0 q1 q2 q3
  exact ⟨⟨x0, x1, x2, x3, e⟩, rfl, u32_bd b1, (u32_bd b3).1, (u32_bd b3).2⟩
end
end Go.Proofs.Ytbffclcjhcbejaa
