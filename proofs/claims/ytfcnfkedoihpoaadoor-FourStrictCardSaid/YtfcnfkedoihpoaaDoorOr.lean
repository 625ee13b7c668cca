/- Bytes put together by shifts: plain Lean. -/
import Derived.Laws.Bits64b
import Derived.Test.YtfcnfkedoihpoaaDoorProg
namespace Go.Proofs.YtfcnfkedoihpoaaDoor

theorem bits_or_u32_nat (a b : Nat) (ha : a < 4294967296) (hb : b < 4294967296) :
    bits .or .u32 (a : Int) (b : Int) = ((a ||| b : Nat) : Int) := by
  have hx : a ||| b < 2 ^ 32 := Nat.or_lt_two_pow (by omega) (by omega)
  have h1 : (BitVec.ofInt 32 (a : Int)).toNat = a := by
    rw [BitVec.ofInt_natCast, BitVec.toNat_ofNat]; exact Nat.mod_eq_of_lt (by omega)
  have h2 : (BitVec.ofInt 32 (b : Int)).toNat = b := by
    rw [BitVec.ofInt_natCast, BitVec.toNat_ofNat]; exact Nat.mod_eq_of_lt (by omega)
  show IntKind.u32.wrap ((BitVec.ofInt 32 (a : Int) ||| BitVec.ofInt 32 (b : Int)).toNat : Int) = _
  rw [BitVec.toNat_or, h1, h2, show ∀ n, IntKind.u32.wrap n = n % 4294967296 from fun n => by simp [IntKind.wrap, IntKind.signed, IntKind.bits]]
  omega
theorem or_mul (k x y : Nat) (h : y < 2 ^ k) : x * 2 ^ k ||| y = x * 2 ^ k + y := by
  rw [Nat.mul_comm, Nat.two_pow_add_eq_or_of_lt h]
/-- A number and another below it, put together. -/
theorem or_u32 (k : Nat) (x y : Int) (hx : 0 ≤ x) (hy : 0 ≤ y) (hk : y < 2 ^ k) (hb : x * 2 ^ k < 4294967296) (hyb : y < 4294967296) : bits .or .u32 (x * 2 ^ k) y = x * 2 ^ k + y := by
  obtain ⟨a, rfl⟩ : ∃ a : Nat, x = a := ⟨x.toNat, by omega⟩
  obtain ⟨b, rfl⟩ : ∃ b : Nat, y = b := ⟨y.toNat, by omega⟩
  have hk' : b < 2 ^ k := by
    rw [show (2 : Int) ^ k = ((2 ^ k : Nat) : Int) by simp] at hk
    omega
  have e : (a : Int) * 2 ^ k = ((a * 2 ^ k : Nat) : Int) := by simp only [Int.natCast_mul, Int.natCast_pow]; rfl
  rw [e] at hb
  have hb' : a * 2 ^ k < 4294967296 := by omega
  rw [e, bits_or_u32_nat _ _ hb' (by omega), or_mul k a b hk']
  rw [Int.natCast_add]
theorem or_u64 (k : Nat) (x y : Int) (hx : 0 ≤ x) (hy : 0 ≤ y) (hk : y < 2 ^ k) (hb : x * 2 ^ k < 18446744073709551616) (hyb : y < 18446744073709551616) : bits .or .u64 (x * 2 ^ k) y = x * 2 ^ k + y := by
  obtain ⟨a, rfl⟩ : ∃ a : Nat, x = a := ⟨x.toNat, by omega⟩
  obtain ⟨b, rfl⟩ : ∃ b : Nat, y = b := ⟨y.toNat, by omega⟩
  have hk' : b < 2 ^ k := by
    rw [show (2 : Int) ^ k = ((2 ^ k : Nat) : Int) by simp] at hk
    omega
  have e : (a : Int) * 2 ^ k = ((a * 2 ^ k : Nat) : Int) := by simp only [Int.natCast_mul, Int.natCast_pow]; rfl
  rw [e] at hb
  have hb' : a * 2 ^ k < 18446744073709551616 := by omega
  rw [e, bits_or_u64_nat _ _ hb' (by omega), or_mul k a b hk']
  rw [Int.natCast_add]
end Go.Proofs.YtfcnfkedoihpoaaDoor
