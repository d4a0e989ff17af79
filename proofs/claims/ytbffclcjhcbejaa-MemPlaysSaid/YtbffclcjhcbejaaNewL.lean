/- What New's statement makes: an area more over noughts. No conditions. -/
import Derived.Test.YtbffclcjhcbejaaPush
import Derived.Test.YtbffclcjhcbejaaLate
namespace Go.Proofs.Ytbffclcjhcbejaa
open Go.RowKit
/-- The world in which New's row of pointers grows: the range's box, two rows of noughts, the area, the one new pointer. -/
def newW (wr : World) (r : Rng) (z n s : Nat) : World :=
  ((((wr.alloc (.cells #[.string r.nm, .int .i64 r.fr, .int .i64 (z : Int), .bool r.wr, .bool r.ex] 30)).alloc (.cells (madeCells #[.int .u8 0] z) 5)).alloc (.cells (madeCells #[.int .u8 0] z) 5)).alloc
    (.cells #[.string r.nm, .int .i64 r.fr, .int .i64 (z : Int), .bool r.wr, .bool r.ex, .slice (some ⟨wr.heap.size + n, 0, none⟩) z z, .slice (some ⟨wr.heap.size + s, 0, none⟩) z z] 67)).alloc (.cells #[.pointer (some ⟨wr.heap.size + 3, 0, none⟩)] 63)
def newA (wr : World) (r : Rng) (z n s : Nat) : Area :=
  ⟨r, wr.heap.size + 3, .slice (some ⟨wr.heap.size + n, 0, none⟩) z z, .slice (some ⟨wr.heap.size + s, 0, none⟩) z z, List.replicate z 0, List.replicate z 0⟩
theorem newW_below (wr : World) (r : Rng) (z n s : Nat) : Below wr.heap.size wr (newW wr r z n s) :=
  (((((Below.refl _ wr).alloc (Nat.le_refl _) _).alloc (by simp) _).alloc (by simp; omega) _).alloc (by simp; omega) _).alloc (by simp; omega) _
theorem made_list (z : Nat) : (madeCells #[Value.int .u8 0] z).toList = List.replicate z (Value.int .u8 0) := by
  apply List.ext_getElem?
  intro i
  by_cases h : i < z
  · simp [madeCells, h, Nat.mod_one]
  · rw [List.getElem?_eq_none (by rw [Array.length_toList, size_madeCells]; omega), List.getElem?_eq_none (by simp; omega)]
theorem blk_at {w : World} {n : Nat} (hn : n = w.heap.size) (t : TypeId) (cs : Array Value) : Blk (w.alloc (.cells cs t)) n t cs := by subst hn; exact Blk.new w t cs
theorem newW_row (wr : World) (r : Rng) (z n s k : Nat) (hk : k = 1 ∨ k = 2) : Blk (newW wr r z n s) (wr.heap.size + k) 5 (madeCells #[.int .u8 0] z) := by
  unfold newW
  rcases hk with rfl | rfl
  · exact ((((blk_at (by simp) 5 _).alloc _).alloc _).alloc _)
  · exact (((blk_at (by simp) 5 _).alloc _).alloc _)
theorem newW_brow (wr : World) (r : Rng) (z n s k : Nat) (hk : k = 1 ∨ k = 2) (hz : z ≤ 16777216) : BRow (newW wr r z n s) (.slice (some ⟨wr.heap.size + k, 0, none⟩) z z) (List.replicate z 0) := by
  refine ⟨_, z, by rw [List.length_replicate], by rw [List.length_replicate]; exact Nat.le_refl _, by unfold maxLen; omega, fun _ => ⟨_, _, rfl, newW_row wr r z n s k hk, ?_, ?_⟩⟩
  · rw [← Array.length_toList, made_list, List.length_replicate]
  · rw [made_list, List.length_replicate, List.take_of_length_le (by simp), List.map_replicate]
theorem newA_at (wr : World) (r : Rng) (z n s : Nat) (hn : n = 1 ∧ s = 2 ∨ n = 2 ∧ s = 1) (hok : r.Ok) (hz : r.sz = z) : AreaAt (newW wr r z n s) (newA wr r z n s) where
  blk := by
    unfold newW newA
    dsimp only
    rw [hz]
    exact (blk_at (by simp) 67 _).alloc _
  now := newW_brow wr r z n s n (by omega) (by have := hok.s1; omega)
  was := newW_brow wr r z n s s (by omega) (by have := hok.s1; omega)
  lx := by simp [newA, hz]
  ly := by simp [newA, hz]
  bx := fun x hx => by have := (List.mem_replicate.1 hx).2; omega
  bY := fun x hx => by have := (List.mem_replicate.1 hx).2; omega
  ok := hok
theorem newA_rows (wr : World) (r : Rng) (z n s : Nat) (hn : n = 1 ∧ s = 2 ∨ n = 2 ∧ s = 1) : (∀ g ∈ (newA wr r z n s).rows, wr.heap.size ≤ g) ∧ (newA wr r z n s).rows.Nodup := by
  unfold Area.rows newA rowBlk
  dsimp only
  split
  · simp
  · simp [Value.ownBlock]
    omega
end Go.Proofs.Ytbffclcjhcbejaa
