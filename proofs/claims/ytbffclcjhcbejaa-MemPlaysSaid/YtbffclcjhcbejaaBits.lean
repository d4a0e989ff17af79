/- Bits of words of 32: 'or' of parts that lie apart is their sum. No conditions. -/
import Derived.WalkKit
import Derived.Laws.BitsLemmas
namespace Go.Proofs.Ytbffclcjhcbejaa
theorem bits_or_u32_nat (a b : Nat) (ha : a < 4294967296) (hb : b < 4294967296) : bits .or .u32 (a : Int) (b : Int) = ((a ||| b : Nat) : Int) := by
  have h : a ||| b < 2 ^ 32 := Nat.or_lt_two_pow (by omega) (by omega)
  have e : (BitVec.ofInt 32 (a : Int) ||| BitVec.ofInt 32 (b : Int)).toNat = a ||| b := by
    simp only [BitVec.toNat_or, BitVec.ofInt_natCast, BitVec.toNat_ofNat]
    rw [Nat.mod_eq_of_lt (by omega), Nat.mod_eq_of_lt (by omega)]
  show IntKind.u32.wrap ((BitVec.ofInt 32 (a : Int) ||| BitVec.ofInt 32 (b : Int)).toNat : Int) = _
  rw [e, IntKind.wrap_u32]
  omega
theorem or_shift (x y k : Nat) (hx : x < 2 ^ k) (hx2 : x < 4294967296) (hy : y * 2 ^ k < 4294967296) : bits .or .u32 (x : Int) ((y * 2 ^ k : Nat) : Int) = ((x + y * 2 ^ k : Nat) : Int) := by
  rw [bits_or_u32_nat _ _ hx2 hy, Nat.or_comm, ← Nat.shiftLeft_eq, ← Nat.shiftLeft_add_eq_or_of_lt hx, Nat.add_comm]
/-- Four bytes as a word, the lowest first. -/
def fromW (b0 b1 b2 b3 : Int) : Int := b0 + 256 * b1 + 65536 * b2 + 16777216 * b3
theorem or4 (b0 b1 b2 b3 : Int) (h00 : 0 ≤ b0) (h01 : b0 ≤ 255) (h10 : 0 ≤ b1) (h11 : b1 ≤ 255) (h20 : 0 ≤ b2) (h21 : b2 ≤ 255) (h30 : 0 ≤ b3) (h31 : b3 ≤ 255) :
    bits .or .u32 (bits .or .u32 (bits .or .u32 b0 (b1 * 256)) (b2 * 65536)) (b3 * 16777216) = fromW b0 b1 b2 b3 := by
  obtain ⟨x0, rfl⟩ := Int.eq_ofNat_of_zero_le h00
  obtain ⟨x1, rfl⟩ := Int.eq_ofNat_of_zero_le h10
  obtain ⟨x2, rfl⟩ := Int.eq_ofNat_of_zero_le h20
  obtain ⟨x3, rfl⟩ := Int.eq_ofNat_of_zero_le h30
  have e1 : ((x1 : Int) * 256) = ((x1 * 2 ^ 8 : Nat) : Int) := by omega
  have e2 : ((x2 : Int) * 65536) = ((x2 * 2 ^ 16 : Nat) : Int) := by omega
  have e3 : ((x3 : Int) * 16777216) = ((x3 * 2 ^ 24 : Nat) : Int) := by omega
  rw [e1, e2, e3, or_shift x0 x1 8 (by omega) (by omega) (by omega), or_shift _ x2 16 (by omega) (by omega) (by omega), or_shift _ x3 24 (by omega) (by omega) (by omega)]
  unfold fromW
  omega
end Go.Proofs.Ytbffclcjhcbejaa
