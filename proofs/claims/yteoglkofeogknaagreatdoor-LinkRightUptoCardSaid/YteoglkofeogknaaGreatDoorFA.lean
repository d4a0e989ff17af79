/- Walks: part, section, word.From, at; what fits says. Conditions: what each states. -/
import Derived.Test.YteoglkofeogknaaGreatDoorSF
import Derived.Test.YteoglkofeogknaaGreatDoorIB
set_option linter.unusedVariables false
set_option linter.unusedSimpArgs false
namespace Go.Proofs.YteoglkofeogknaaGreatDoor
open Go.RowKit
set_option maxHeartbeats 1000000 in
theorem part_any (v1 v2 v3 v4 : Value) (s : Int) (w : World) : Calls Tryz.prog 37 #[.agg #[v1, v2, v3, v4], .int .i64 s] w fun e w' => e = .returned (if s = 0 then v1 else v2) ∧ Below w.heap.size w w' := by
  by_cases h : s = 0
  · subst h
    go_enter Tryz.func37, Tryz.ntmps37
    go_wp2
    go_ret
    exact ⟨rfl, (Below.refl _ _).alloc (Nat.le_refl _) _⟩
  · rw [if_neg h]
    go_enter Tryz.func37, Tryz.ntmps37
    go_wp2
    go_ret
    exact ⟨rfl, (Below.refl _ _).alloc (Nat.le_refl _) _⟩
set_option maxHeartbeats 1000000 in
theorem from_any (g off cap : Nat) (b0 b1 b2 b3 : Int) (w : World) (hc0 : w.cell? ⟨g, off, none⟩ = some (.int .u8 b0)) (hc1 : w.cell? ⟨g, off + 1, none⟩ = some (.int .u8 b1)) (hc2 : w.cell? ⟨g, off + 2, none⟩ = some (.int .u8 b2)) (hc3 : w.cell? ⟨g, off + 3, none⟩ = some (.int .u8 b3))
    (h0 : 0 ≤ b0 ∧ b0 ≤ 255) (h1 : 0 ≤ b1 ∧ b1 ≤ 255) (h2 : 0 ≤ b2 ∧ b2 ≤ 255) (h3 : 0 ≤ b3 ∧ b3 ≤ 255) :
    Calls Tryz.prog 33 #[.slice (some ⟨g, off, none⟩) 4 cap] w
      fun e w' => e = .returned (.tuple #[.int .u32 (fromW b0 b1 b2 b3), .int .i64 0]) ∧ Below w.heap.size w w' := by
  obtain ⟨h00, h01⟩ := h0
  obtain ⟨h10, h11⟩ := h1
  obtain ⟨h20, h21⟩ := h2
  obtain ⟨h30, h31⟩ := h3
  go_enter Tryz.func33, Tryz.ntmps33
  go_wp2
  go_quiet (fail)
  go_wp2
  go_ret2
  exact ⟨congrArg (fun z : Int => Ending.returned (.tuple #[.int .u32 z, .int .i64 0])) (or4 b0 b1 b2 b3 h00 h01 h10 h11 h20 h21 h30 h31), below_dN (Below.refl _ _) _⟩
set_option maxHeartbeats 1000000 in
theorem at_any (bs : List UInt8) (v : Value) (k : Nat) (w : World) (h : Bys w v bs) (hk : k + 4 ≤ bs.length) :
    Calls Tryz.prog 62 #[v, .int .i64 k] w fun e w' => e = .returned (.int .u32 (w4 bs k)) ∧ Below w.heap.size w w' := by
  obtain ⟨g, off, cap, rfl, h2, h3, c0, c1, c2, c3⟩ := h.four hk
  have HF := Lib.hid (from_any g (off + k) (cap - k) _ _ _ _ w c0 c1 c2 c3 (byv_le _) (byv_le _) (byv_le _) (byv_le _))
  clear h c0 c1 c2 c3
  obtain ⟨N, hN⟩ : ∃ N, bs.length = N := ⟨_, rfl⟩
  rw [hN] at hk h2 ⊢
  clear hN
  unfold maxLen at h3
  have e1 : IntKind.i64.wrap ((k : Int) + 4) = ((k + 4 : Nat) : Int) := by rw [IntWalk.i64_in _ (by omega)]; omega
  go_enter Tryz.func62, Tryz.ntmps62
  go_wp2_with fail
  refine HF.out.mono ?_
  rintro e w' ⟨rfl, hb⟩
  go_wp2_with fail
  go_ret
  exact ⟨rfl, hb⟩
theorem sum4 (b0 b1 b2 b3 : Int) (h0 : 0 ≤ b0 ∧ b0 ≤ 255) (h1 : 0 ≤ b1 ∧ b1 ≤ 255) (h2 : 0 ≤ b2 ∧ b2 ≤ 255) (h3 : 0 ≤ b3 ∧ b3 ≤ 255) : b0 + b1 * 256 + b2 * 65536 + b3 * 16777216 = fromW b0 b1 b2 b3 := by unfold fromW; omega
open Go.RowKit
/-- Is a relocation out of shape, where its section has so many bytes? -/
def relBad (tl : Nat) (r : Rel) : Bool := decide (r.sec < 0) || decide (1 < r.sec) || decide (r.at_ < 0) || (r.at_.tmod 4 != 0) || decide ((tl : Int) - 4 < r.at_) || decide (r.add < 0) || decide (65535 < r.add) || !symA r.nm
/-- Does a relocation's kind fit the word that stands there? -/
def fitK (sec kd op imm er w : Int) : Bool :=
  if kd = 1 then w == 0 else if er ≠ 0 ∨ sec ≠ 0 ∨ imm ≠ 0 then false else if kd = 2 then op == 26 else if kd = 3 then op == 20 else if kd = 4 then (op == 37 || op == 38) else if kd = 5 then (op == 34 || op == 35 || op == 36) else false
section
variable {w1 W W' : World} {n1 p q : Nat} {v1 v2 v3 v4 : Value} {sec at_ kd add : Int} {nm : ByteArray}
theorem sf_step (h : W.cell? ⟨p, 0, none⟩ = some v1 ∧ W.cell? ⟨p, 1, none⟩ = some v2 ∧ W.cell? ⟨p, 2, none⟩ = some v3 ∧ W.cell? ⟨p, 3, none⟩ = some v4 ∧ W.cell? ⟨q, 0, none⟩ = some (.int .i64 sec) ∧ W.cell? ⟨q, 1, none⟩ = some (.int .i64 at_) ∧ W.cell? ⟨q, 2, none⟩ = some (.int .i64 kd) ∧ W.cell? ⟨q, 3, none⟩ = some (.int .i64 add) ∧ W.cell? ⟨q, 4, none⟩ = some (.string nm) ∧ Below n1 w1 W ∧ n1 ≤ W.heap.size) (hb : Below W.heap.size W W') :
    W'.cell? ⟨p, 0, none⟩ = some v1 ∧ W'.cell? ⟨p, 1, none⟩ = some v2 ∧ W'.cell? ⟨p, 2, none⟩ = some v3 ∧ W'.cell? ⟨p, 3, none⟩ = some v4 ∧ W'.cell? ⟨q, 0, none⟩ = some (.int .i64 sec) ∧ W'.cell? ⟨q, 1, none⟩ = some (.int .i64 at_) ∧ W'.cell? ⟨q, 2, none⟩ = some (.int .i64 kd) ∧ W'.cell? ⟨q, 3, none⟩ = some (.int .i64 add) ∧ W'.cell? ⟨q, 4, none⟩ = some (.string nm) ∧ Below n1 w1 W' ∧ n1 ≤ W'.heap.size := by
  obtain ⟨a0, a1, a2, a3, b0, b1, b2, b3, b4, h1, h2⟩ := h
  have hk : ∀ {a : Addr} {v : Value}, W.cell? a = some v → W'.cell? a = some v := fun h => (hb.cell (cell_lt h)).trans h
  exact ⟨hk a0, hk a1, hk a2, hk a3, hk b0, hk b1, hk b2, hk b3, hk b4, h1.trans (hb.mono h2), Nat.le_trans h2 hb.size⟩
theorem sf_drew (h : W.cell? ⟨p, 0, none⟩ = some v1 ∧ W.cell? ⟨p, 1, none⟩ = some v2 ∧ W.cell? ⟨p, 2, none⟩ = some v3 ∧ W.cell? ⟨p, 3, none⟩ = some v4 ∧ W.cell? ⟨q, 0, none⟩ = some (.int .i64 sec) ∧ W.cell? ⟨q, 1, none⟩ = some (.int .i64 at_) ∧ W.cell? ⟨q, 2, none⟩ = some (.int .i64 kd) ∧ W.cell? ⟨q, 3, none⟩ = some (.int .i64 add) ∧ W.cell? ⟨q, 4, none⟩ = some (.string nm) ∧ Below n1 w1 W ∧ n1 ≤ W.heap.size) : W.drew.cell? ⟨p, 0, none⟩ = some v1 ∧ W.drew.cell? ⟨p, 1, none⟩ = some v2 ∧ W.drew.cell? ⟨p, 2, none⟩ = some v3 ∧ W.drew.cell? ⟨p, 3, none⟩ = some v4 ∧ W.drew.cell? ⟨q, 0, none⟩ = some (.int .i64 sec) ∧ W.drew.cell? ⟨q, 1, none⟩ = some (.int .i64 at_) ∧ W.drew.cell? ⟨q, 2, none⟩ = some (.int .i64 kd) ∧ W.drew.cell? ⟨q, 3, none⟩ = some (.int .i64 add) ∧ W.drew.cell? ⟨q, 4, none⟩ = some (.string nm) ∧ Below n1 w1 W.drew ∧ n1 ≤ W.drew.heap.size := ⟨h.1, h.2.1, h.2.2.1, h.2.2.2.1, h.2.2.2.2.1, h.2.2.2.2.2.1, h.2.2.2.2.2.2.1, h.2.2.2.2.2.2.2.1, h.2.2.2.2.2.2.2.2.1, h.2.2.2.2.2.2.2.2.2.1.drew, h.2.2.2.2.2.2.2.2.2.2⟩
theorem sf_nw {w : World} {nw : Nat} (hn : w.heap.size = nw) (h : W.cell? ⟨p, 0, none⟩ = some v1 ∧ W.cell? ⟨p, 1, none⟩ = some v2 ∧ W.cell? ⟨p, 2, none⟩ = some v3 ∧ W.cell? ⟨p, 3, none⟩ = some v4 ∧ W.cell? ⟨q, 0, none⟩ = some (.int .i64 sec) ∧ W.cell? ⟨q, 1, none⟩ = some (.int .i64 at_) ∧ W.cell? ⟨q, 2, none⟩ = some (.int .i64 kd) ∧ W.cell? ⟨q, 3, none⟩ = some (.int .i64 add) ∧ W.cell? ⟨q, 4, none⟩ = some (.string nm) ∧ Below nw w W ∧ nw ≤ W.heap.size) : Below w.heap.size w W ∧ w.heap.size ≤ W.heap.size := by subst hn; exact h.2.2.2.2.2.2.2.2.2
theorem symW (hs : nm.size ≤ maxLen) (ho : OpsAt w1) (h0 : 0 < w1.heap.size) (hn : n1 = w1.heap.size) (h : W.cell? ⟨p, 0, none⟩ = some v1 ∧ W.cell? ⟨p, 1, none⟩ = some v2 ∧ W.cell? ⟨p, 2, none⟩ = some v3 ∧ W.cell? ⟨p, 3, none⟩ = some v4 ∧ W.cell? ⟨q, 0, none⟩ = some (.int .i64 sec) ∧ W.cell? ⟨q, 1, none⟩ = some (.int .i64 at_) ∧ W.cell? ⟨q, 2, none⟩ = some (.int .i64 kd) ∧ W.cell? ⟨q, 3, none⟩ = some (.int .i64 add) ∧ W.cell? ⟨q, 4, none⟩ = some (.string nm) ∧ Below n1 w1 W ∧ n1 ≤ W.heap.size) :
    Calls Tryz.prog 36 #[.string nm] W fun e w' => e = .returned (.bool (symA nm)) ∧ Below W.heap.size W w' := by
  obtain ⟨a0, a1, a2, a3, b0, b1, b2, b3, b4, h1, h2⟩ := h
  subst hn
  exact sym_any nm W hs (ho.below h0 h1) (Nat.lt_of_lt_of_le h0 h2)
theorem fresh2 (w : World) (v1 v2 v3 v4 : Value) (sec at_ kd add : Int) (nm : ByteArray) (t1 t2 : Nat) : ((w.alloc (.cells #[v1, v2, v3, v4] t1)).alloc (.cells #[.int .i64 sec, .int .i64 at_, .int .i64 kd, .int .i64 add, .string nm] t2)).cell? ⟨w.heap.size, 0, none⟩ = some v1 ∧ ((w.alloc (.cells #[v1, v2, v3, v4] t1)).alloc (.cells #[.int .i64 sec, .int .i64 at_, .int .i64 kd, .int .i64 add, .string nm] t2)).cell? ⟨w.heap.size, 1, none⟩ = some v2 ∧ ((w.alloc (.cells #[v1, v2, v3, v4] t1)).alloc (.cells #[.int .i64 sec, .int .i64 at_, .int .i64 kd, .int .i64 add, .string nm] t2)).cell? ⟨w.heap.size, 2, none⟩ = some v3 ∧ ((w.alloc (.cells #[v1, v2, v3, v4] t1)).alloc (.cells #[.int .i64 sec, .int .i64 at_, .int .i64 kd, .int .i64 add, .string nm] t2)).cell? ⟨w.heap.size, 3, none⟩ = some v4 ∧ ((w.alloc (.cells #[v1, v2, v3, v4] t1)).alloc (.cells #[.int .i64 sec, .int .i64 at_, .int .i64 kd, .int .i64 add, .string nm] t2)).cell? ⟨w.heap.size + 1, 0, none⟩ = some (.int .i64 sec) ∧ ((w.alloc (.cells #[v1, v2, v3, v4] t1)).alloc (.cells #[.int .i64 sec, .int .i64 at_, .int .i64 kd, .int .i64 add, .string nm] t2)).cell? ⟨w.heap.size + 1, 1, none⟩ = some (.int .i64 at_) ∧ ((w.alloc (.cells #[v1, v2, v3, v4] t1)).alloc (.cells #[.int .i64 sec, .int .i64 at_, .int .i64 kd, .int .i64 add, .string nm] t2)).cell? ⟨w.heap.size + 1, 2, none⟩ = some (.int .i64 kd) ∧ ((w.alloc (.cells #[v1, v2, v3, v4] t1)).alloc (.cells #[.int .i64 sec, .int .i64 at_, .int .i64 kd, .int .i64 add, .string nm] t2)).cell? ⟨w.heap.size + 1, 3, none⟩ = some (.int .i64 add) ∧ ((w.alloc (.cells #[v1, v2, v3, v4] t1)).alloc (.cells #[.int .i64 sec, .int .i64 at_, .int .i64 kd, .int .i64 add, .string nm] t2)).cell? ⟨w.heap.size + 1, 4, none⟩ = some (.string nm) ∧ Below w.heap.size w ((w.alloc (.cells #[v1, v2, v3, v4] t1)).alloc (.cells #[.int .i64 sec, .int .i64 at_, .int .i64 kd, .int .i64 add, .string nm] t2)) ∧ w.heap.size ≤ ((w.alloc (.cells #[v1, v2, v3, v4] t1)).alloc (.cells #[.int .i64 sec, .int .i64 at_, .int .i64 kd, .int .i64 add, .string nm] t2)).heap.size := by
  refine ⟨?_, ?_, ?_, ?_, ?_, ?_, ?_, ?_, ?_, ((Below.refl _ _).alloc (Nat.le_refl _) _).alloc (by simp) _, by simp; omega⟩ <;> first | exact (World.cell?_alloc_some _ _ _ (by rw [(Blk.new w t1 #[v1, v2, v3, v4]).cell]; rfl)).trans (by rw [(Blk.new w t1 #[v1, v2, v3, v4]).cell]; rfl) | (rw [(blk_at (w := w.alloc (.cells #[v1, v2, v3, v4] t1)) (n := w.heap.size + 1) (by simp) t2 #[.int .i64 sec, .int .i64 at_, .int .i64 kd, .int .i64 add, .string nm]).cell]; rfl)
end
end Go.Proofs.YteoglkofeogknaaGreatDoor
