/- The words that are no symbols. No conditions. -/
import Derived.Test.YtknnimlbddgimaaDoorA4
namespace Go.Proofs.YtknnimlbddgimaaDoor
open Go.RowKit
def opsL : List ByteArray := [⟨#[97, 100, 100]⟩, ⟨#[115, 117, 98]⟩, ⟨#[109, 117, 108]⟩, ⟨#[100, 105, 118]⟩, ⟨#[100, 105, 118, 117]⟩, ⟨#[114, 101, 109]⟩, ⟨#[114, 101, 109, 117]⟩, ⟨#[97, 110, 100]⟩, ⟨#[111, 114]⟩, ⟨#[120, 111, 114]⟩, ⟨#[115, 104, 108]⟩, ⟨#[115, 104, 114]⟩, ⟨#[115, 104, 114, 117]⟩, ⟨#[108, 116]⟩, ⟨#[108, 116, 117]⟩, ⟨#[101, 113]⟩, ⟨#[110, 101]⟩, ⟨#[97, 100, 100, 105]⟩, ⟨#[97, 110, 100, 105]⟩, ⟨#[111, 114, 105]⟩, ⟨#[120, 111, 114, 105]⟩, ⟨#[115, 104, 108, 105]⟩, ⟨#[115, 104, 114, 105]⟩, ⟨#[115, 104, 114, 117, 105]⟩, ⟨#[108, 105]⟩, ⟨#[108, 117, 105]⟩, ⟨#[101, 120, 116]⟩, ⟨#[108, 119]⟩, ⟨#[108, 104]⟩, ⟨#[108, 98]⟩, ⟨#[115, 119]⟩, ⟨#[115, 104]⟩, ⟨#[115, 98]⟩, ⟨#[98, 122]⟩, ⟨#[98, 110, 122]⟩, ⟨#[98, 108, 117]⟩, ⟨#[106, 117, 109, 112]⟩, ⟨#[99, 97, 108, 108]⟩, ⟨#[114, 101, 103]⟩, ⟨#[99, 97, 108, 108, 114]⟩, ⟨#[115, 121, 115]⟩, ⟨#[116, 114, 97, 112]⟩]
def dirA : List ByteArray := [⟨#[46, 116, 101, 120, 116]⟩, ⟨#[46, 100, 97, 116, 97]⟩, ⟨#[46, 103, 108, 111, 98, 97, 108]⟩, ⟨#[46, 97, 108, 105, 103, 110]⟩, ⟨#[46, 119, 111, 114, 100]⟩, ⟨#[46, 98, 121, 116, 101]⟩, ⟨#[46, 115, 112, 97, 99, 101]⟩]
def dirB : List ByteArray := [⟨#[108, 97]⟩, ⟨#[99, 111, 110, 115, 116]⟩, ⟨#[104, 105, 103, 104]⟩, ⟨#[108, 111, 119]⟩]
theorem among_words (s : ByteArray) : amongB (opsL ++ dirB ++ dirA) s = (amongB (dirA ++ dirB) s || amongB opsL s) := by
  unfold amongB
  simp only [List.any_append]
  generalize opsL.any _ = a
  generalize dirA.any _ = b
  generalize dirB.any _ = c
  cases a <;> cases b <;> cases c <;> rfl
theorem row_cells (w : World) (ss : List ByteArray) : ∀ i s, ss[i]? = some s → (w.alloc (.cells (ss.map Value.string).toArray 9)).cell? ⟨w.heap.size, 0 + i, none⟩ = some (.string s) := by
  intro i s h
  rw [Nat.zero_add, World.cell?_alloc_at _ _ _ _ rfl]
  simp [h]
theorem row_cells' (w : World) (ss : List ByteArray) : ∀ j, j < ss.length → (w.alloc (.cells (ss.map Value.string).toArray 9)).cell? ⟨w.heap.size, 0 + j, none⟩ = some (.string (ss.getD j ByteArray.empty)) := by
  intro j hj
  rw [Nat.zero_add, World.cell?_alloc_at _ _ _ _ rfl]
  simp [hj]
theorem dirs_any (s : ByteArray) (w : World) :
    Calls Tryd.prog 14 #[.slice (some ⟨w.heap.size, 0, none⟩) 11 11, .string s] (w.alloc (.cells #[.string ⟨#[46, 116, 101, 120, 116]⟩, .string ⟨#[46, 100, 97, 116, 97]⟩, .string ⟨#[46, 103, 108, 111, 98, 97, 108]⟩, .string ⟨#[46, 97, 108, 105, 103, 110]⟩, .string ⟨#[46, 119, 111, 114, 100]⟩, .string ⟨#[46, 98, 121, 116, 101]⟩, .string ⟨#[46, 115, 112, 97, 99, 101]⟩, .string ⟨#[108, 97]⟩, .string ⟨#[99, 111, 110, 115, 116]⟩, .string ⟨#[104, 105, 103, 104]⟩, .string ⟨#[108, 111, 119]⟩] 9)) fun e w' => e = .returned (.bool (amongB (dirA ++ dirB) s)) ∧ w.alloc (.cells #[.string ⟨#[46, 116, 101, 120, 116]⟩, .string ⟨#[46, 100, 97, 116, 97]⟩, .string ⟨#[46, 103, 108, 111, 98, 97, 108]⟩, .string ⟨#[46, 97, 108, 105, 103, 110]⟩, .string ⟨#[46, 119, 111, 114, 100]⟩, .string ⟨#[46, 98, 121, 116, 101]⟩, .string ⟨#[46, 115, 112, 97, 99, 101]⟩, .string ⟨#[108, 97]⟩, .string ⟨#[99, 111, 110, 115, 116]⟩, .string ⟨#[104, 105, 103, 104]⟩, .string ⟨#[108, 111, 119]⟩] 9) = w' := by
  have h := Tryd.slices_Contains_string w.heap.size 0 11 11 (dirA ++ dirB) s (w.alloc (.cells ((dirA ++ dirB).map Value.string).toArray 9)) (by decide) (by decide) (row_cells' w _)
  refine h.mono ?_
  rintro e w' ⟨rfl, rfl⟩
  exact ⟨ret_bool (by rw [contains_among]; rfl), rfl⟩
theorem words_any (w : World) : Calls Tryd.prog 19 #[] w fun e w' => e = .returned (.slice (some ⟨w.heap.size, 0, none⟩) 53 53) ∧ w.alloc (.cells ((opsL ++ dirB ++ dirA).map Value.string).toArray 9) = w' := by
  go_enter Tryd.func19, Tryd.ntmps19
  go_wp2
  go_ret
  exact ⟨rfl, rfl⟩
theorem inWords_any (s : ByteArray) (w : World) :
    Calls Tryd.prog 18 #[.slice (some ⟨w.heap.size, 0, none⟩) 53 53, .string s] (w.alloc (.cells ((opsL ++ dirB ++ dirA).map Value.string).toArray 9)) fun e w' => e = .returned (.bool (amongB (opsL ++ dirB ++ dirA) s)) ∧ w.alloc (.cells ((opsL ++ dirB ++ dirA).map Value.string).toArray 9) = w' :=
  in_any w.heap.size 0 53 (opsL ++ dirB ++ dirA) s _ (by decide) (by decide) (row_cells w _)
/-- The program's own table of operations. -/
def OpsAt (w : World) : Prop := ∀ j, j < opsL.length → w.cell? ⟨0, 0 + j, none⟩ = some (.string (opsL.getD j ByteArray.empty))
theorem operation_any (s : ByteArray) (w : World) (h : OpsAt w) : Calls Tryd.prog 16 #[.string s] w fun e w' => e = .returned (.bool (amongB opsL s)) ∧ w = w' := by
  have hc := Tryd.slices_Contains_string 0 0 42 42 opsL s w (by decide) (by decide) h
  have ht : opsL.take 42 = opsL := rfl
  rw [ht, contains_among] at hc
  have HC := Lib.hid hc
  clear hc ht h
  go_enter Tryd.func16, Tryd.ntmps16
  go_wp2_with fail
  refine HC.out.mono ?_
  rintro e w' ⟨rfl, rfl⟩
  go_wp2_with fail
  go_ret
  exact ⟨rfl, rfl⟩
end Go.Proofs.YtknnimlbddgimaaDoor
