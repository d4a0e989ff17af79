/- Plain: the bits of a word, one by one; the members of a set. No conditions. -/
import Derived.Test.YtlmoblmkhicoeaaGreatDoorP1
import Derived.Lib.TrailingZeros
set_option linter.unusedVariables false
set_option linter.unusedSimpArgs false
namespace Go.Proofs.YtlmoblmkhicoeaaGreatDoor
theorem and_pred_lt {w : Nat} (h : w ≠ 0) : w &&& (w - 1) < w := Nat.lt_of_le_of_lt Nat.and_le_right (by omega)
/-- The bits of a word, rising. -/
def bitsL (w : Nat) : List Nat := if h : w = 0 then [] else Lib.ctz 64 w :: bitsL (w &&& (w - 1))
termination_by w
decreasing_by exact and_pred_lt h
theorem bitsL_zero : bitsL 0 = [] := by unfold bitsL; simp
theorem bitsL_pos {w : Nat} (h : w ≠ 0) : bitsL w = Lib.ctz 64 w :: bitsL (w &&& (w - 1)) := by
  rw [bitsL]; simp [h]
theorem and_even (y : Nat) (h : 0 < y) : (2 * y) &&& (2 * y - 1) = 2 * (y &&& (y - 1)) := by
  apply Nat.eq_of_testBit_eq
  intro i
  cases i with
  | zero => simp [Nat.testBit_zero, Nat.testBit_and]
  | succ i =>
    rw [Nat.testBit_and, Nat.testBit_succ, Nat.testBit_succ, Nat.testBit_succ, show 2 * y / 2 = y by omega, show (2 * y - 1) / 2 = y - 1 by omega, show 2 * (y &&& (y - 1)) / 2 = y &&& (y - 1) by omega, Nat.testBit_and]
theorem and_odd (y : Nat) : (2 * y + 1) &&& (2 * y + 1 - 1) = 2 * y := by
  apply Nat.eq_of_testBit_eq
  intro i
  cases i with
  | zero => simp [Nat.testBit_zero, Nat.testBit_and]
  | succ i =>
    rw [Nat.testBit_and, Nat.testBit_succ, Nat.testBit_succ, Nat.testBit_succ, show (2 * y + 1) / 2 = y by omega, show (2 * y + 1 - 1) / 2 = y by omega, show 2 * y / 2 = y by omega, Bool.and_self]
theorem bitsL_even : ∀ y, (bitsL (2 * y)).length = (bitsL y).length := by
  intro y
  induction y using Nat.strongRecOn with
  | ind y ih =>
    rcases Nat.eq_zero_or_pos y with rfl | h
    · rfl
    · rw [bitsL_pos (by omega : 2 * y ≠ 0), bitsL_pos (by omega : y ≠ 0), and_even y h, List.length_cons, List.length_cons, ih _ (and_pred_lt (by omega))]
theorem bitsL_len : ∀ k x, x < 2 ^ k → (bitsL x).length ≤ k
  | 0, x, h => by
    have : x = 0 := by simpa using h
    rw [this, bitsL_zero]; simp
  | k + 1, x, h => by
    have hp : 2 ^ (k + 1) = 2 * 2 ^ k := by rw [Nat.pow_succ]; omega
    rcases Nat.mod_two_eq_zero_or_one x with h2 | h2
    · obtain ⟨y, rfl⟩ : ∃ y, x = 2 * y := ⟨x / 2, by omega⟩
      rw [bitsL_even]
      have := bitsL_len k y (by omega)
      omega
    · obtain ⟨y, rfl⟩ : ∃ y, x = 2 * y + 1 := ⟨x / 2, by omega⟩
      rw [bitsL_pos (by omega), and_odd, List.length_cons, bitsL_even]
      have := bitsL_len k y (by omega)
      omega
theorem ctz_bit {x : Nat} (h0 : x ≠ 0) (h : x < 2 ^ 64) : x.testBit (Lib.ctz 64 x) = true ∧ Lib.ctz 64 x < 64 := by
  have e : Lib.ctz 64 x = Lib.ctzFrom 64 x := by rw [Lib.ctz, if_neg h0]
  obtain ⟨m, hm, hk⟩ := Lib.ctzFrom_spec 64 x (by omega) h
  rw [e]
  refine ⟨?_, hk⟩
  generalize Lib.ctzFrom 64 x = k at hm hk
  rw [hm, Nat.testBit_eq_decide_div_mod_eq, Nat.mul_div_cancel_left _ (Nat.two_pow_pos k)]
  simp
theorem bitsL_bit : ∀ x, x < 2 ^ 64 → ∀ b ∈ bitsL x, x.testBit b = true := by
  intro x
  induction x using Nat.strongRecOn with
  | ind x ih =>
    intro hx b hb
    rcases Nat.eq_zero_or_pos x with rfl | h
    · rw [bitsL_zero] at hb; cases hb
    · have h0 : x ≠ 0 := by omega
      rw [bitsL_pos h0] at hb
      rcases List.mem_cons.1 hb with rfl | hb
      · exact (ctz_bit h0 hx).1
      · have := ih _ (and_pred_lt h0) (Nat.lt_trans (and_pred_lt h0) hx) b hb
        rw [Nat.testBit_and] at this
        exact (Bool.and_eq_true _ _ ▸ this).1
theorem bitsL_lt {x : Nat} (hx : x < 2 ^ 64) : ∀ b ∈ bitsL x, b < 64 := by
  intro b hb
  have h := bitsL_bit x hx b hb
  rcases Nat.lt_or_ge b 64 with h2 | h2
  · exact h2
  · have : x.testBit b = false := Nat.testBit_lt_two_pow (Nat.lt_of_lt_of_le hx (Nat.pow_le_pow_right (by decide) h2))
    rw [this] at h; cases h
/-- A word's members. -/
def memW (i w : Nat) : List Int := (bitsL w).map (fun b : Nat => ((i : Int) * 64 + (b : Int)))
/-- The members of the first N words. -/
def listW (ws : List Nat) (N : Nat) : List Int := (List.range N).flatMap (fun i => memW i (ws.getD i 0))
theorem listW_succ (ws : List Nat) (N : Nat) : listW ws (N + 1) = listW ws N ++ memW N (ws.getD N 0) := by
  rw [listW, List.range_succ, List.flatMap_append]; simp [listW]
theorem memW_pos {i w : Nat} (h : w ≠ 0) : memW i w = ((i : Int) * 64 + (Lib.ctz 64 w : Int)) :: memW i (w &&& (w - 1)) := by rw [memW, bitsL_pos h]; rfl
theorem memW_zero (i : Nat) : memW i 0 = [] := by rw [memW, bitsL_zero]; rfl
theorem memW_len {i w : Nat} (h : w < 2 ^ 64) : (memW i w).length ≤ 64 := by rw [memW, List.length_map]; exact bitsL_len 64 w h
theorem listW_len {ws : List Nat} (h : ∀ x ∈ ws, x < 2 ^ 64) : ∀ N, (listW ws N).length ≤ 64 * N
  | 0 => by simp [listW]
  | N + 1 => by
    rw [listW_succ, List.length_append]
    have h1 := listW_len h N
    have h2 : (memW N (ws.getD N 0)).length ≤ 64 := memW_len (by
      rcases Nat.lt_or_ge N ws.length with hl | hl
      · have e : ws.getD N 0 = ws[N] := by simp [hl]
        rw [e]; exact h _ (List.getElem_mem hl)
      · have e : ws.getD N 0 = 0 := by simp [hl]
        rw [e]; exact Nat.two_pow_pos 64)
    omega
end Go.Proofs.YtlmoblmkhicoeaaGreatDoor
