/- Bits kept and turned: plain Lean. -/
import Derived.Test.YtfieiigefllekaaGreatDoorZAdB
import Derived.Test.YtfieiigefllekaaGreatDoorJF
namespace Go.Proofs.YtfieiigefllekaaGreatDoor

theorem and_low (x : Int) (k : Nat) (h0 : 0 ≤ x) (h1 : x < 18446744073709551616) (hk : k ≤ 64) : bits .and .u64 x (2 ^ k - 1) = x % 2 ^ k := by
  obtain ⟨a, rfl⟩ : ∃ a : Nat, x = a := ⟨x.toNat, by omega⟩
  have hp : 2 ^ k ≤ 18446744073709551616 := (Nat.pow_le_pow_right (by omega) hk : 2 ^ k ≤ 2 ^ 64)
  have hq : 0 < 2 ^ k := Nat.two_pow_pos k
  have e : (2 : Int) ^ k - 1 = ((2 ^ k - 1 : Nat) : Int) := by
    rw [Int.natCast_sub (by omega), Int.natCast_pow]
    rfl
  have e1 : (BitVec.ofInt 64 (a : Int)).toNat = a := by
    rw [BitVec.ofInt_natCast, BitVec.toNat_ofNat]; exact Nat.mod_eq_of_lt (by omega)
  have e2 : (BitVec.ofInt 64 ((2 ^ k - 1 : Nat) : Int)).toNat = 2 ^ k - 1 := by
    rw [BitVec.ofInt_natCast, BitVec.toNat_ofNat]; exact Nat.mod_eq_of_lt (by omega)
  rw [e]
  show IntKind.u64.wrap ((BitVec.ofInt 64 (a : Int) &&& BitVec.ofInt 64 ((2 ^ k - 1 : Nat) : Int)).toNat : Int) = _
  rw [BitVec.toNat_and, e1, e2, Nat.and_two_pow_sub_one_eq_mod, show ∀ n, IntKind.u64.wrap n = n % 18446744073709551616 from fun n => by simp [IntKind.wrap, IntKind.signed, IntKind.bits]]
  have : a % 2 ^ k ≤ a := Nat.mod_le _ _
  rw [show ((2 : Int) ^ k) = ((2 ^ k : Nat) : Int) by rw [Int.natCast_pow]; rfl, ← Int.natCast_emod]
  omega
theorem xor_max64 (x : Int) (h0 : 0 ≤ x) (h1 : x < 18446744073709551616) : bits .xor .u64 IntKind.u64.max x = 18446744073709551615 - x := by
  obtain ⟨a, rfl⟩ : ∃ a : Nat, x = a := ⟨x.toNat, by omega⟩
  have e1 : (BitVec.ofInt 64 (a : Int)).toNat = a := by
    rw [BitVec.ofInt_natCast, BitVec.toNat_ofNat]; exact Nat.mod_eq_of_lt (by omega)
  show IntKind.u64.wrap ((BitVec.ofInt 64 IntKind.u64.max ^^^ BitVec.ofInt 64 (a : Int)).toNat : Int) = _
  rw [show BitVec.ofInt 64 IntKind.u64.max = BitVec.allOnes 64 from by decide, BitVec.allOnes_xor, BitVec.toNat_not, e1, show ∀ n, IntKind.u64.wrap n = n % 18446744073709551616 from fun n => by simp [IntKind.wrap, IntKind.signed, IntKind.bits]]
  omega
/-- A number above 2^k's, and one below it: in either order. -/
theorem or_top (k : Nat) (c y : Int) (hc : 0 ≤ c) (hy : 0 ≤ y) (hk : y < 2 ^ k) (hb : c * 2 ^ k < 18446744073709551616) (hyb : y < 18446744073709551616) : bits .or .u64 (c * 2 ^ k) y = c * 2 ^ k + y := or_u64 k c y hc hy hk hb hyb
end Go.Proofs.YtfieiigefllekaaGreatDoor
