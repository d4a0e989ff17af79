/- Walks: base.In, letter, digit; the words that are no symbols; asm.operation. Conditions: the table is laid. -/
import Derived.Test.YteoglkofeogknaaGreatDoorShelf
import Derived.WalkKit
import Derived.WalkSpells
import Derived.WalkLawsBesides
import Derived.Lib.Hide
import Derived.Laws.OwnMore
import Derived.Laws.Externs
import Derived.Deep.QuietTactic
import Derived.BigQuiet
import Derived.Deep.Draws
set_option linter.unusedVariables false
set_option linter.unusedSimpArgs false
namespace Go.Proofs.YteoglkofeogknaaGreatDoor
open Go.RowKit
theorem size_data (s : ByteArray) : s.data.toList.length = s.size := Array.length_toList
/-- Is a text among some? -/
def amongB (ss : List ByteArray) (s : ByteArray) : Bool := ss.any fun x => x.toList == s.toList
theorem among_hit {ss : List ByteArray} {s x : ByteArray} {k : Nat} (h : ss[k]? = some x) (he : (x.toList == s.toList) = true) : amongB ss s = true := by
  unfold amongB
  rw [List.any_eq_true]
  exact ⟨x, List.mem_of_getElem? h, he⟩
theorem among_none {ss : List ByteArray} {s : ByteArray} {k : Nat} (hk : ss.length ≤ k) (h : amongB (ss.take k) s = false) : amongB ss s = false := by
  rwa [List.take_of_length_le hk] at h
theorem among_miss {ss : List ByteArray} {s x : ByteArray} {k : Nat} (hx : ss[k]? = some x) (h : amongB (ss.take k) s = false) (he : (x.toList == s.toList) = false) : amongB (ss.take (k + 1)) s = false := by
  obtain ⟨hk, rfl⟩ := List.getElem?_eq_some_iff.1 hx
  unfold amongB at h ⊢
  rw [List.take_succ_eq_append_getElem hk, List.any_append, h]
  simp [he]
theorem ret_bool {a b : Bool} (h : a = b) : Ending.returned (.bool a) = .returned (.bool b) := by rw [h]
def letB (c : Int) : Bool := decide (97 ≤ c ∧ c ≤ 122 ∨ 65 ≤ c ∧ c ≤ 90)
def digB (c : Int) : Bool := decide (48 ≤ c ∧ c ≤ 57)
def letR (c : Int) : Bool := decide (97 ≤ c ∧ c ≤ 122 ∨ 65 ≤ c ∧ c ≤ 90 ∨ c = 95 ∨ c = 46 ∨ c = 36)
def okC (c : Int) : Bool := letR c || digB c
theorem digit_any (c : Int) (w : World) : Calls Tryz.prog 57 #[.int .u8 c] w fun e w' => e = .returned (.bool (digB c)) ∧ w = w' := by
  by_cases h1 : 48 ≤ c
  · go_enter Tryz.func57, Tryz.ntmps57
    go_wp2
    go_ret
    exact ⟨ret_bool (by simp [digB]; omega), rfl⟩
  · go_enter Tryz.func57, Tryz.ntmps57
    go_wp2
    go_ret
    exact ⟨ret_bool (by simp [digB]; omega), rfl⟩
theorem letter_any (c : Int) (w : World) : Calls Tryz.prog 58 #[.int .u8 c] w fun e w' => e = .returned (.bool (letB c)) ∧ w = w' := by
  by_cases h1 : 97 ≤ c
  · by_cases h2 : c ≤ 122
    · go_enter Tryz.func58, Tryz.ntmps58
      go_wp2
      go_ret
      exact ⟨ret_bool (by rw [Bool.eq_iff_iff]; simp [letB]; omega), rfl⟩
    · go_enter Tryz.func58, Tryz.ntmps58
      go_wp2
      go_ret
      exact ⟨ret_bool (by rw [Bool.eq_iff_iff]; simp [letB]; omega), rfl⟩
  · by_cases h2 : 65 ≤ c
    · go_enter Tryz.func58, Tryz.ntmps58
      go_wp2
      go_ret
      exact ⟨ret_bool (by rw [Bool.eq_iff_iff]; simp [letB]; omega), rfl⟩
    · go_enter Tryz.func58, Tryz.ntmps58
      go_wp2
      go_ret
      exact ⟨ret_bool (by rw [Bool.eq_iff_iff]; simp [letB]; omega), rfl⟩
theorem eq_of_toList {a b : ByteArray} (h : a.toList = b.toList) : a = b := by
  rw [Lib.toList_data, Lib.toList_data] at h
  apply ByteArray.ext
  exact Array.toList_inj.1 h
theorem among_iff (ss : List ByteArray) (s : ByteArray) : amongB ss s = true ↔ s ∈ ss := by
  unfold amongB
  rw [List.any_eq_true]
  constructor
  · rintro ⟨x, hx, he⟩
    have : x = s := eq_of_toList (by simpa using he)
    exact this ▸ hx
  · intro h
    exact ⟨s, h, by simp⟩
theorem contains_among (ss : List ByteArray) (s : ByteArray) : Lib.containsS ss s = amongB ss s := by
  rw [Bool.eq_iff_iff, Lib.containsS_iff, among_iff]
open Go.RowKit
def opsL : List ByteArray := [⟨#[97, 100, 100]⟩, ⟨#[115, 117, 98]⟩, ⟨#[109, 117, 108]⟩, ⟨#[100, 105, 118]⟩, ⟨#[100, 105, 118, 117]⟩, ⟨#[114, 101, 109]⟩, ⟨#[114, 101, 109, 117]⟩, ⟨#[97, 110, 100]⟩, ⟨#[111, 114]⟩, ⟨#[120, 111, 114]⟩, ⟨#[115, 104, 108]⟩, ⟨#[115, 104, 114]⟩, ⟨#[115, 104, 114, 117]⟩, ⟨#[108, 116]⟩, ⟨#[108, 116, 117]⟩, ⟨#[101, 113]⟩, ⟨#[110, 101]⟩, ⟨#[97, 100, 100, 105]⟩, ⟨#[97, 110, 100, 105]⟩, ⟨#[111, 114, 105]⟩, ⟨#[120, 111, 114, 105]⟩, ⟨#[115, 104, 108, 105]⟩, ⟨#[115, 104, 114, 105]⟩, ⟨#[115, 104, 114, 117, 105]⟩, ⟨#[108, 105]⟩, ⟨#[108, 117, 105]⟩, ⟨#[101, 120, 116]⟩, ⟨#[108, 119]⟩, ⟨#[108, 104]⟩, ⟨#[108, 98]⟩, ⟨#[115, 119]⟩, ⟨#[115, 104]⟩, ⟨#[115, 98]⟩, ⟨#[98, 122]⟩, ⟨#[98, 110, 122]⟩, ⟨#[98, 108, 117]⟩, ⟨#[106, 117, 109, 112]⟩, ⟨#[99, 97, 108, 108]⟩, ⟨#[114, 101, 103]⟩, ⟨#[99, 97, 108, 108, 114]⟩, ⟨#[115, 121, 115]⟩, ⟨#[116, 114, 97, 112]⟩]
def dirA : List ByteArray := [⟨#[46, 116, 101, 120, 116]⟩, ⟨#[46, 100, 97, 116, 97]⟩, ⟨#[46, 103, 108, 111, 98, 97, 108]⟩, ⟨#[46, 97, 108, 105, 103, 110]⟩, ⟨#[46, 119, 111, 114, 100]⟩, ⟨#[46, 98, 121, 116, 101]⟩, ⟨#[46, 115, 112, 97, 99, 101]⟩]
def dirB : List ByteArray := [⟨#[108, 97]⟩, ⟨#[99, 111, 110, 115, 116]⟩, ⟨#[104, 105, 103, 104]⟩, ⟨#[108, 111, 119]⟩]
theorem among_words (s : ByteArray) : amongB (opsL ++ dirB ++ dirA) s = (amongB (dirA ++ dirB) s || amongB opsL s) := by
  unfold amongB
  simp only [List.any_append]
  generalize opsL.any _ = a
  generalize dirA.any _ = b
  generalize dirB.any _ = c
  cases a <;> cases b <;> cases c <;> rfl
theorem row_cells (w : World) (ss : List ByteArray) : ∀ i s, ss[i]? = some s → (w.alloc (.cells (ss.map Value.string).toArray 9)).cell? ⟨w.heap.size, 0 + i, none⟩ = some (.string s) := by
  intro i s h
  rw [Nat.zero_add, World.cell?_alloc_at _ _ _ _ rfl]
  simp [h]
theorem row_cells' (w : World) (ss : List ByteArray) : ∀ j, j < ss.length → (w.alloc (.cells (ss.map Value.string).toArray 9)).cell? ⟨w.heap.size, 0 + j, none⟩ = some (.string (ss.getD j ByteArray.empty)) := by
  intro j hj
  rw [Nat.zero_add, World.cell?_alloc_at _ _ _ _ rfl]
  simp [hj]
theorem dirs_any (s : ByteArray) (w : World) :
    Calls Tryz.prog 59 #[.slice (some ⟨w.heap.size, 0, none⟩) 11 11, .string s] (w.alloc (.cells #[.string ⟨#[46, 116, 101, 120, 116]⟩, .string ⟨#[46, 100, 97, 116, 97]⟩, .string ⟨#[46, 103, 108, 111, 98, 97, 108]⟩, .string ⟨#[46, 97, 108, 105, 103, 110]⟩, .string ⟨#[46, 119, 111, 114, 100]⟩, .string ⟨#[46, 98, 121, 116, 101]⟩, .string ⟨#[46, 115, 112, 97, 99, 101]⟩, .string ⟨#[108, 97]⟩, .string ⟨#[99, 111, 110, 115, 116]⟩, .string ⟨#[104, 105, 103, 104]⟩, .string ⟨#[108, 111, 119]⟩] 9)) fun e w' => e = .returned (.bool (amongB (dirA ++ dirB) s)) ∧ w.alloc (.cells #[.string ⟨#[46, 116, 101, 120, 116]⟩, .string ⟨#[46, 100, 97, 116, 97]⟩, .string ⟨#[46, 103, 108, 111, 98, 97, 108]⟩, .string ⟨#[46, 97, 108, 105, 103, 110]⟩, .string ⟨#[46, 119, 111, 114, 100]⟩, .string ⟨#[46, 98, 121, 116, 101]⟩, .string ⟨#[46, 115, 112, 97, 99, 101]⟩, .string ⟨#[108, 97]⟩, .string ⟨#[99, 111, 110, 115, 116]⟩, .string ⟨#[104, 105, 103, 104]⟩, .string ⟨#[108, 111, 119]⟩] 9) = w' := by
  have h := Tryz.slices_Contains_string w.heap.size 0 11 11 (dirA ++ dirB) s (w.alloc (.cells ((dirA ++ dirB).map Value.string).toArray 9)) (by decide) (by decide) (row_cells' w _)
  refine h.mono ?_
  rintro e w' ⟨rfl, rfl⟩
  exact ⟨ret_bool (by rw [contains_among]; rfl), rfl⟩
/-- The program's own table of operations. -/
def OpsAt (w : World) : Prop := ∀ j, j < opsL.length → w.cell? ⟨0, 0 + j, none⟩ = some (.string (opsL.getD j ByteArray.empty))
theorem operation_any (s : ByteArray) (w : World) (h : OpsAt w) : Calls Tryz.prog 61 #[.string s] w fun e w' => e = .returned (.bool (amongB opsL s)) ∧ w = w' := by
  have hc := Tryz.slices_Contains_string 0 0 42 42 opsL s w (by decide) (by decide) h
  have ht : opsL.take 42 = opsL := rfl
  rw [ht, contains_among] at hc
  have HC := Lib.hid hc
  clear hc ht h
  go_enter Tryz.func61, Tryz.ntmps61
  go_wp2_with fail
  refine HC.out.mono ?_
  rintro e w' ⟨rfl, rfl⟩
  go_wp2_with fail
  go_ret
  exact ⟨rfl, rfl⟩
open Go.RowKit
def chars (s : ByteArray) : List Int := s.data.toList.map fun b => (b.toNat : Int)
theorem chars_len (s : ByteArray) : (chars s).length = s.size := by rw [chars, List.length_map, size_data]
theorem chars_get (s : ByteArray) (k : Nat) (h : k < s.size) : (chars s)[k]? = some (s[k].toNat : Int) := by
  unfold chars
  rw [List.getElem?_map, List.getElem?_eq_getElem (by rw [size_data]; exact h)]
  rfl
def c0 (s : ByteArray) : Int := (chars s).headD 0
theorem c0_eq (s : ByteArray) (h : 0 < s.size) : (s[0].toNat : Int) = c0 s := by
  have := chars_get s 0 h
  unfold c0
  cases hc : chars s with
  | nil => rw [hc] at this; cases this
  | cons a r => rw [hc] at this; simpa using this.symm
/-- Is it 'r' and digits? -/
def regB (s : ByteArray) : Bool := c0 s == 114 && decide (1 < s.size) && ((chars s).drop 1).all digB
/-- What IsSymbol comes to. -/
def symA (s : ByteArray) : Bool :=
  decide (0 < s.size) && decide (s.size ≤ 63) && !digB (c0 s) && (chars s).all okC && !amongB (dirA ++ dirB) s && !regB s && !amongB opsL s
theorem all_step {l : List Int} {k : Nat} {c : Int} (h : (l.take k).all okC = true) (hc : l[k]? = some c) (ho : okC c = true) : (l.take (k + 1)).all okC = true := by
  obtain ⟨hk, rfl⟩ := List.getElem?_eq_some_iff.1 hc
  rw [List.take_succ_eq_append_getElem hk, List.all_append, h]
  simp [ho]
theorem all_not {l : List Int} {k : Nat} {c : Int} (hc : l[k]? = some c) (ho : okC c = false) : l.all okC = false := by
  rw [List.all_eq_false]
  exact ⟨c, List.mem_of_getElem? hc, by simp [ho]⟩
theorem dropWhile_nil {p : UInt8 → Bool} : ∀ {l : List UInt8}, l.dropWhile p = [] ↔ ∀ b ∈ l, p b = true
  | [] => by simp
  | a :: l => by
    rw [List.dropWhile_cons]
    cases h : p a with
    | true => simp [h, dropWhile_nil (l := l)]
    | false => simp [h]
theorem trim_nil (l cs : List UInt8) : Lib.trimS l cs = [] ↔ ∀ b ∈ l, cs.contains b = true := by
  unfold Lib.trimS Lib.trimLeftS
  rw [dropWhile_nil]
  constructor
  · intro h b hb
    by_cases hn : l.reverse.dropWhile (cs.contains ·) = []
    · rw [dropWhile_nil] at hn
      exact hn b (by simpa using hb)
    · exfalso
      have h1 := List.head_dropWhile_not (cs.contains ·) hn
      have h2 := h ((l.reverse.dropWhile (cs.contains ·)).head hn) (by unfold Lib.trimRightS; rw [List.mem_reverse]; exact List.head_mem hn)
      rw [h1] at h2
      cases h2
  · intro h b hb
    unfold Lib.trimRightS at hb
    rw [List.mem_reverse] at hb
    have := List.dropWhile_sublist (l := l.reverse) (cs.contains ·)
    exact h b (by simpa using this.mem hb)
theorem digits_contains (b : UInt8) : ([48, 49, 50, 51, 52, 53, 54, 55, 56, 57] : List UInt8).contains b = digB (b.toNat : Int) := by
  rw [Bool.eq_iff_iff]
  simp [digB, ← UInt8.toNat_inj]
  omega
theorem trim_digits (s : ByteArray) : (Lib.trimS (s.extract 1 s.size).data.toList [48, 49, 50, 51, 52, 53, 54, 55, 56, 57]).isEmpty = ((chars s).drop 1).all digB := by
  rw [Bool.eq_iff_iff, List.isEmpty_iff, trim_nil, List.all_eq_true]
  have e : (s.extract 1 s.size).data.toList = s.data.toList.drop 1 := by
    rw [Lib.extract_data, List.take_of_length_le]
    rw [List.length_drop, size_data]
    omega
  rw [e]
  unfold chars
  rw [← List.map_drop]
  simp only [digits_contains, List.forall_mem_map]
theorem OpsAt.below {w w' : World} (h : OpsAt w) (h0 : 0 < w.heap.size) (hb : Below w.heap.size w w') : OpsAt w' := fun j hj => (hb.cell (p := ⟨0, 0 + j, none⟩) h0).trans (h j hj)
theorem sym_false {s : ByteArray} {R : Bool} (hR : symA s = R) (h : s.size = 0 ∨ 63 < s.size ∨ digB (c0 s) = true ∨ (chars s).all okC = false ∨ amongB (dirA ++ dirB) s = true ∨ regB s = true) : R = false := by
  rw [← hR]
  unfold symA
  rcases h with h | h | h | h | h | h
  · simp [h]
  · have : decide (s.size ≤ 63) = false := by simp; omega
    simp [this]
  · simp [h]
  · simp [h]
  · simp [h]
  · simp [h]
theorem sym_last {s : ByteArray} {R : Bool} (hR : symA s = R) (h1 : 0 < s.size) (h2 : s.size ≤ 63) (h3 : digB (c0 s) = false) (h4 : (chars s).all okC = true) (h5 : amongB (dirA ++ dirB) s = false) (h6 : regB s = false) : R = !amongB opsL s := by
  rw [← hR]
  unfold symA
  simp [h1, h2, h3, h4, h5, h6]
end Go.Proofs.YteoglkofeogknaaGreatDoor
