/- Walks: letter, digit (both texts'), asm.operation. Conditions: none beyond what the theorems state. -/
import Derived.Test.YtknnimlbddgimaaDoorA3
namespace Go.Proofs.YtknnimlbddgimaaDoor
open Go.RowKit
def letB (c : Int) : Bool := decide (97 ≤ c ∧ c ≤ 122 ∨ 65 ≤ c ∧ c ≤ 90)
def digB (c : Int) : Bool := decide (48 ≤ c ∧ c ≤ 57)
def letR (c : Int) : Bool := decide (97 ≤ c ∧ c ≤ 122 ∨ 65 ≤ c ∧ c ≤ 90 ∨ c = 95 ∨ c = 46 ∨ c = 36)
def okC (c : Int) : Bool := letR c || digB c
theorem digit_any (c : Int) (w : World) : Calls Tryd.prog 12 #[.int .u8 c] w fun e w' => e = .returned (.bool (digB c)) ∧ w = w' := by
  by_cases h1 : 48 ≤ c
  · go_enter Tryd.func12, Tryd.ntmps12
    go_wp2
    go_ret
    exact ⟨ret_bool (by simp [digB]; omega), rfl⟩
  · go_enter Tryd.func12, Tryd.ntmps12
    go_wp2
    go_ret
    exact ⟨ret_bool (by simp [digB]; omega), rfl⟩
theorem rdigit_any (c : Int) (w : World) : Calls Tryd.prog 20 #[.int .u8 c] w fun e w' => e = .returned (.bool (digB c)) ∧ w = w' := by
  by_cases h1 : 48 ≤ c
  · go_enter Tryd.func20, Tryd.ntmps20
    go_wp2
    go_ret
    exact ⟨ret_bool (by simp [digB]; omega), rfl⟩
  · go_enter Tryd.func20, Tryd.ntmps20
    go_wp2
    go_ret
    exact ⟨ret_bool (by simp [digB]; omega), rfl⟩
theorem letter_any (c : Int) (w : World) : Calls Tryd.prog 13 #[.int .u8 c] w fun e w' => e = .returned (.bool (letB c)) ∧ w = w' := by
  by_cases h1 : 97 ≤ c
  · by_cases h2 : c ≤ 122
    · go_enter Tryd.func13, Tryd.ntmps13
      go_wp2
      go_ret
      exact ⟨ret_bool (by rw [Bool.eq_iff_iff]; simp [letB]; omega), rfl⟩
    · go_enter Tryd.func13, Tryd.ntmps13
      go_wp2
      go_ret
      exact ⟨ret_bool (by rw [Bool.eq_iff_iff]; simp [letB]; omega), rfl⟩
  · by_cases h2 : 65 ≤ c
    · go_enter Tryd.func13, Tryd.ntmps13
      go_wp2
      go_ret
      exact ⟨ret_bool (by rw [Bool.eq_iff_iff]; simp [letB]; omega), rfl⟩
    · go_enter Tryd.func13, Tryd.ntmps13
      go_wp2
      go_ret
      exact ⟨ret_bool (by rw [Bool.eq_iff_iff]; simp [letB]; omega), rfl⟩
set_option maxHeartbeats 1000000 in
theorem rletter_any (c : Int) (w : World) : Calls Tryd.prog 17 #[.int .u8 c] w fun e w' => e = .returned (.bool (letR c)) ∧ w = w' := by
  by_cases h1 : 97 ≤ c ∧ c ≤ 122
  · obtain ⟨h1, h2⟩ := h1
    go_enter Tryd.func17, Tryd.ntmps17
    go_wp2
    go_ret
    exact ⟨ret_bool (by simp [letR]; omega), rfl⟩
  by_cases h2 : 65 ≤ c ∧ c ≤ 90
  · obtain ⟨h2, h3⟩ := h2
    go_enter Tryd.func17, Tryd.ntmps17
    go_wp2
    go_ret
    exact ⟨ret_bool (by simp [letR]; omega), rfl⟩
  by_cases h3 : c = 95
  · subst h3
    go_enter Tryd.func17, Tryd.ntmps17
    go_wp2
    go_ret
    exact ⟨ret_bool (by simp [letR]), rfl⟩
  by_cases h4 : c = 46
  · subst h4
    go_enter Tryd.func17, Tryd.ntmps17
    go_wp2
    go_ret
    exact ⟨ret_bool (by simp [letR]), rfl⟩
  by_cases h5 : c = 36
  · subst h5
    go_enter Tryd.func17, Tryd.ntmps17
    go_wp2
    go_ret
    exact ⟨ret_bool (by simp [letR]), rfl⟩
  have g1 : (c == 95) = false := by simp [h3]
  have g2 : (c == 46) = false := by simp [h4]
  have g3 : (c == 36) = false := by simp [h5]
  have hf : letR c = false := by simp [letR]; omega
  have HF := Lib.hid hf
  clear hf h3 h4 h5
  by_cases h6 : 97 ≤ c
  · have h7 : ¬ c ≤ 122 := by omega
    clear h1 h2
    go_enter Tryd.func17, Tryd.ntmps17
    go_wp2
    go_ret
    exact ⟨ret_bool (by first | (rw [HF.out]; done) | (rw [HF.out]; rfl) | (rw [HF.out]; simp; done) | (rw [HF.out]; simp; omega)), rfl⟩
  · by_cases h7 : 65 ≤ c
    · have h8 : ¬ c ≤ 90 := by omega
      clear h1 h2
      go_enter Tryd.func17, Tryd.ntmps17
      go_wp2
      go_ret
      exact ⟨ret_bool (by first | (rw [HF.out]; done) | (rw [HF.out]; rfl) | (rw [HF.out]; simp; done) | (rw [HF.out]; simp; omega)), rfl⟩
    · clear h1 h2
      go_enter Tryd.func17, Tryd.ntmps17
      go_wp2
      go_ret
      exact ⟨ret_bool (by first | (rw [HF.out]; done) | (rw [HF.out]; rfl) | (rw [HF.out]; simp; done) | (rw [HF.out]; simp; omega)), rfl⟩
theorem eq_of_toList {a b : ByteArray} (h : a.toList = b.toList) : a = b := by
  rw [Lib.toList_data, Lib.toList_data] at h
  apply ByteArray.ext
  exact Array.toList_inj.1 h
theorem among_iff (ss : List ByteArray) (s : ByteArray) : amongB ss s = true ↔ s ∈ ss := by
  unfold amongB
  rw [List.any_eq_true]
  constructor
  · rintro ⟨x, hx, he⟩
    have : x = s := eq_of_toList (by simpa using he)
    exact this ▸ hx
  · intro h
    exact ⟨s, h, by simp⟩
theorem contains_among (ss : List ByteArray) (s : ByteArray) : Lib.containsS ss s = amongB ss s := by
  rw [Bool.eq_iff_iff, Lib.containsS_iff, among_iff]
end Go.Proofs.YtknnimlbddgimaaDoor
