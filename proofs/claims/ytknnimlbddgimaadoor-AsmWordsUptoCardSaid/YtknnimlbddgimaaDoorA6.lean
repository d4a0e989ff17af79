/- Walks: asm.IsSymbol. Conditions: the program's own table is laid. -/
import Derived.Test.YtknnimlbddgimaaDoorA5
namespace Go.Proofs.YtknnimlbddgimaaDoor
open Go.RowKit
def chars (s : ByteArray) : List Int := s.data.toList.map fun b => (b.toNat : Int)
theorem chars_len (s : ByteArray) : (chars s).length = s.size := by rw [chars, List.length_map, size_data]
theorem chars_get (s : ByteArray) (k : Nat) (h : k < s.size) : (chars s)[k]? = some (s[k].toNat : Int) := by
  unfold chars
  rw [List.getElem?_map, List.getElem?_eq_getElem (by rw [size_data]; exact h)]
  rfl
def c0 (s : ByteArray) : Int := (chars s).headD 0
theorem c0_eq (s : ByteArray) (h : 0 < s.size) : (s[0].toNat : Int) = c0 s := by
  have := chars_get s 0 h
  unfold c0
  cases hc : chars s with
  | nil => rw [hc] at this; cases this
  | cons a r => rw [hc] at this; simpa using this.symm
/-- Is it 'r' and digits? -/
def regB (s : ByteArray) : Bool := c0 s == 114 && decide (1 < s.size) && ((chars s).drop 1).all digB
/-- What IsSymbol comes to. -/
def symA (s : ByteArray) : Bool :=
  decide (0 < s.size) && decide (s.size ≤ 63) && !digB (c0 s) && (chars s).all okC && !amongB (dirA ++ dirB) s && !regB s && !amongB opsL s
theorem all_step {l : List Int} {k : Nat} {c : Int} (h : (l.take k).all okC = true) (hc : l[k]? = some c) (ho : okC c = true) : (l.take (k + 1)).all okC = true := by
  obtain ⟨hk, rfl⟩ := List.getElem?_eq_some_iff.1 hc
  rw [List.take_succ_eq_append_getElem hk, List.all_append, h]
  simp [ho]
theorem all_not {l : List Int} {k : Nat} {c : Int} (hc : l[k]? = some c) (ho : okC c = false) : l.all okC = false := by
  rw [List.all_eq_false]
  exact ⟨c, List.mem_of_getElem? hc, by simp [ho]⟩
theorem dropWhile_nil {p : UInt8 → Bool} : ∀ {l : List UInt8}, l.dropWhile p = [] ↔ ∀ b ∈ l, p b = true
  | [] => by simp
  | a :: l => by
    rw [List.dropWhile_cons]
    cases h : p a with
    | true => simp [h, dropWhile_nil (l := l)]
    | false => simp [h]
theorem trim_nil (l cs : List UInt8) : Lib.trimS l cs = [] ↔ ∀ b ∈ l, cs.contains b = true := by
  unfold Lib.trimS Lib.trimLeftS
  rw [dropWhile_nil]
  constructor
  · intro h b hb
    by_cases hn : l.reverse.dropWhile (cs.contains ·) = []
    · rw [dropWhile_nil] at hn
      exact hn b (by simpa using hb)
    · exfalso
      have h1 := List.head_dropWhile_not (cs.contains ·) hn
      have h2 := h ((l.reverse.dropWhile (cs.contains ·)).head hn) (by unfold Lib.trimRightS; rw [List.mem_reverse]; exact List.head_mem hn)
      rw [h1] at h2
      cases h2
  · intro h b hb
    unfold Lib.trimRightS at hb
    rw [List.mem_reverse] at hb
    have := List.dropWhile_sublist (l := l.reverse) (cs.contains ·)
    exact h b (by simpa using this.mem hb)
theorem digits_contains (b : UInt8) : ([48, 49, 50, 51, 52, 53, 54, 55, 56, 57] : List UInt8).contains b = digB (b.toNat : Int) := by
  rw [Bool.eq_iff_iff]
  simp [digB, ← UInt8.toNat_inj]
  omega
theorem trim_digits (s : ByteArray) : (Lib.trimS (s.extract 1 s.size).data.toList [48, 49, 50, 51, 52, 53, 54, 55, 56, 57]).isEmpty = ((chars s).drop 1).all digB := by
  rw [Bool.eq_iff_iff, List.isEmpty_iff, trim_nil, List.all_eq_true]
  have e : (s.extract 1 s.size).data.toList = s.data.toList.drop 1 := by
    rw [Lib.extract_data, List.take_of_length_le]
    rw [List.length_drop, size_data]
    omega
  rw [e]
  unfold chars
  rw [← List.map_drop]
  simp only [digits_contains, List.forall_mem_map]
theorem OpsAt.below {w w' : World} (h : OpsAt w) (h0 : 0 < w.heap.size) (hb : Below w.heap.size w w') : OpsAt w' := fun j hj => (hb.cell (p := ⟨0, 0 + j, none⟩) h0).trans (h j hj)
theorem sym_false {s : ByteArray} {R : Bool} (hR : symA s = R) (h : s.size = 0 ∨ 63 < s.size ∨ digB (c0 s) = true ∨ (chars s).all okC = false ∨ amongB (dirA ++ dirB) s = true ∨ regB s = true) : R = false := by
  rw [← hR]
  unfold symA
  rcases h with h | h | h | h | h | h
  · simp [h]
  · have : decide (s.size ≤ 63) = false := by simp; omega
    simp [this]
  · simp [h]
  · simp [h]
  · simp [h]
  · simp [h]
theorem sym_last {s : ByteArray} {R : Bool} (hR : symA s = R) (h1 : 0 < s.size) (h2 : s.size ≤ 63) (h3 : digB (c0 s) = false) (h4 : (chars s).all okC = true) (h5 : amongB (dirA ++ dirB) s = false) (h6 : regB s = false) : R = !amongB opsL s := by
  rw [← hR]
  unfold symA
  simp [h1, h2, h3, h4, h5, h6]
end Go.Proofs.YtknnimlbddgimaaDoor
