/- Plain law: masks of words, Encode's word as a sum. Conditions: what each states. -/
import Derived.Test.YteoglkofeogknaaGreatDoorDC
import Derived.Laws.BitsLemmas
set_option linter.unusedVariables false
set_option linter.unusedSimpArgs false
namespace Go.Proofs.YteoglkofeogknaaGreatDoor
open Go.RowKit
theorem mask_u32 (a k : Nat) (ha : a < 4294967296) (hk : k ≤ 31) : bits .and .u32 (a : Int) ((2 ^ k - 1 : Nat) : Int) = ((a % 2 ^ k : Nat) : Int) := by
  have h2 : 2 ^ k ≤ 2 ^ 31 := Nat.pow_le_pow_right (by decide) hk
  have h3 : a % 2 ^ k < 2 ^ k := Nat.mod_lt _ (Nat.pow_pos (by decide))
  have e : (BitVec.ofInt 32 (a : Int) &&& BitVec.ofInt 32 ((2 ^ k - 1 : Nat) : Int)).toNat = a % 2 ^ k := by
    simp only [BitVec.toNat_and, BitVec.ofInt_natCast, BitVec.toNat_ofNat]
    rw [Nat.mod_eq_of_lt (show a < 2 ^ 32 by omega), Nat.mod_eq_of_lt (show 2 ^ k - 1 < 2 ^ 32 by omega), Nat.and_two_pow_sub_one_eq_mod]
  show IntKind.u32.wrap ((BitVec.ofInt 32 (a : Int) &&& BitVec.ofInt 32 ((2 ^ k - 1 : Nat) : Int)).toNat : Int) = _
  rw [e, IntKind.wrap_u32]
  omega
theorem mask_i64 (a k : Nat) (ha : a < 4294967296) (hk : k ≤ 31) : bits .and .i64 (a : Int) ((2 ^ k - 1 : Nat) : Int) = ((a % 2 ^ k : Nat) : Int) := by
  have h2 : 2 ^ k ≤ 2 ^ 31 := Nat.pow_le_pow_right (by decide) hk
  have h3 : a % 2 ^ k < 2 ^ k := Nat.mod_lt _ (Nat.pow_pos (by decide))
  have e : (BitVec.ofInt 64 (a : Int) &&& BitVec.ofInt 64 ((2 ^ k - 1 : Nat) : Int)).toNat = a % 2 ^ k := by
    simp only [BitVec.toNat_and, BitVec.ofInt_natCast, BitVec.toNat_ofNat]
    rw [Nat.mod_eq_of_lt (show a < 2 ^ 64 by omega), Nat.mod_eq_of_lt (show 2 ^ k - 1 < 2 ^ 64 by omega), Nat.and_two_pow_sub_one_eq_mod]
  show IntKind.i64.wrap ((BitVec.ofInt 64 (a : Int) &&& BitVec.ofInt 64 ((2 ^ k - 1 : Nat) : Int)).toNat : Int) = _
  rw [e]
  exact IntWalk.i64_in _ (by omega)
open Go.RowKit
theorem or_nat (a b : Nat) (ha : a < 4294967296) (hb : b < 4294967296) : bits .or .u32 (a : Int) (b : Int) = ((a ||| b : Nat) : Int) := by
  have h : a ||| b < 2 ^ 32 := Nat.or_lt_two_pow (by omega) (by omega)
  have e : (BitVec.ofInt 32 (a : Int) ||| BitVec.ofInt 32 (b : Int)).toNat = a ||| b := by
    simp only [BitVec.toNat_or, BitVec.ofInt_natCast, BitVec.toNat_ofNat]
    rw [Nat.mod_eq_of_lt (by omega), Nat.mod_eq_of_lt (by omega)]
  show IntKind.u32.wrap ((BitVec.ofInt 32 (a : Int) ||| BitVec.ofInt 32 (b : Int)).toNat : Int) = _
  rw [e, IntKind.wrap_u32]
  omega
/-- A part above and a part below a bit. -/
theorem or_parts (y k x : Nat) (hx : x < 2 ^ k) (hy : y * 2 ^ k < 4294967296) (hx2 : x < 4294967296) : bits .or .u32 ((y * 2 ^ k : Nat) : Int) (x : Int) = ((y * 2 ^ k + x : Nat) : Int) := by
  rw [or_nat _ _ hy hx2, ← Nat.shiftLeft_eq, ← Nat.shiftLeft_add_eq_or_of_lt hx]
theorem headW_sum (o d a b : Nat) (ho : o ≤ 42) (hd : d ≤ 15) (ha : a ≤ 15) (hb : b ≤ 15) : headW o d a b = ((o * 16777216 + d * 1048576 + a * 65536 + b * 4096 : Nat) : Int) := by
  unfold headW
  have e1 : bits .or .u32 ((o : Int) * 16777216) ((d : Int) * 1048576) = ((o * 16777216 + d * 1048576 : Nat) : Int) := by
    have := or_parts o 24 (d * 1048576) (by omega) (by omega) (by omega)
    simpa using this
  have e2 : bits .or .u32 ((o * 16777216 + d * 1048576 : Nat) : Int) ((a : Int) * 65536) = ((o * 16777216 + d * 1048576 + a * 65536 : Nat) : Int) := by
    have := or_parts (o * 16 + d) 20 (a * 65536) (by omega) (by omega) (by omega)
    have e : (o * 16 + d) * 2 ^ 20 = o * 16777216 + d * 1048576 := by omega
    rw [e] at this
    simpa using this
  have e3 : bits .or .u32 ((o * 16777216 + d * 1048576 + a * 65536 : Nat) : Int) ((b : Int) * 4096) = ((o * 16777216 + d * 1048576 + a * 65536 + b * 4096 : Nat) : Int) := by
    have := or_parts (o * 256 + d * 16 + a) 16 (b * 4096) (by omega) (by omega) (by omega)
    have e : (o * 256 + d * 16 + a) * 2 ^ 16 = o * 16777216 + d * 1048576 + a * 65536 := by omega
    rw [e] at this
    simpa using this
  rw [e1, e2, e3]
open Go.RowKit
theorem encW_sum16 (o d a : Nat) (i : Int) (ho : o ≤ 42) (hd : d ≤ 15) (ha : a ≤ 15) : encW 16 o d a 0 i = (o : Int) * 16777216 + (d : Int) * 1048576 + (a : Int) * 65536 + i % 65536 := by
  rw [encW_16, headW_sum o d a 0 ho hd ha (by omega)]
  obtain ⟨j, hj⟩ : ∃ j : Nat, i % 4294967296 = (j : Int) := ⟨(i % 4294967296).toNat, by omega⟩
  have hj2 : j < 4294967296 := by omega
  have hm := mask_u32 j 16 hj2 (by omega)
  have hm2 : bits .and .u32 (j : Int) 65535 = ((j % 65536 : Nat) : Int) := hm
  rw [hj, hm2]
  have := or_parts (o * 256 + d * 16 + a) 16 (j % 65536) (by omega) (by omega) (by omega)
  have e : (o * 256 + d * 16 + a) * 2 ^ 16 = o * 16777216 + d * 1048576 + a * 65536 + 0 * 4096 := by omega
  rw [e] at this
  rw [this]
  omega
theorem encW_sum24 (o : Nat) (i : Int) (ho : o ≤ 42) : encW 24 o 0 0 0 i = (o : Int) * 16777216 + i % 16777216 := by
  rw [encW_24, headW_sum o 0 0 0 ho (by omega) (by omega) (by omega)]
  obtain ⟨j, hj⟩ : ∃ j : Nat, i % 4294967296 = (j : Int) := ⟨(i % 4294967296).toNat, by omega⟩
  have hj2 : j < 4294967296 := by omega
  have hm := mask_u32 j 24 hj2 (by omega)
  have hm2 : bits .and .u32 (j : Int) 16777215 = ((j % 16777216 : Nat) : Int) := hm
  rw [hj, hm2]
  have := or_parts o 24 (j % 16777216) (by omega) (by omega) (by omega)
  have e : o * 2 ^ 24 = o * 16777216 + 0 * 1048576 + 0 * 65536 + 0 * 4096 := by omega
  rw [e] at this
  rw [this]
  omega
end Go.Proofs.YteoglkofeogknaaGreatDoor
