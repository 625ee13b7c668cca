/- Bits struck from a number: plain Lean. -/
import Derived.Laws.Bits64b
import Derived.Test.YtfieiigefllekaaGreatDoorProg
namespace Go.Proofs.YtfieiigefllekaaGreatDoor

theorem bv_strike (x y : BitVec 64) : (x &&& ~~~y).toNat = x.toNat - (x.toNat &&& y.toNat) := by
  have h1 : x = (x &&& y) + (x &&& ~~~y) := by
    rw [BitVec.add_eq_or_of_and_eq_zero]
    · ext i
      simp
      cases x[i] <;> cases y[i] <;> rfl
    · ext i
      simp
      cases x[i] <;> cases y[i] <;> simp
  have h2 := congrArg BitVec.toNat h1
  rw [BitVec.toNat_add, BitVec.toNat_and] at h2
  have h3 : x.toNat &&& y.toNat ≤ x.toNat := Nat.and_le_left
  have h4 := x.isLt
  have h5 := (x &&& ~~~y).isLt
  omega
theorem strike_u64 (a b : Nat) (ha : a < 18446744073709551616) (hb : b < 18446744073709551616) : bits .andNot .u64 (a : Int) (b : Int) = ((a - (a &&& b) : Nat) : Int) := by
  have h1 : (BitVec.ofInt 64 (a : Int)).toNat = a := by
    rw [BitVec.ofInt_natCast, BitVec.toNat_ofNat]; exact Nat.mod_eq_of_lt (by omega)
  have h2 : (BitVec.ofInt 64 (b : Int)).toNat = b := by
    rw [BitVec.ofInt_natCast, BitVec.toNat_ofNat]; exact Nat.mod_eq_of_lt (by omega)
  show IntKind.u64.wrap ((BitVec.ofInt 64 (a : Int) &&& ~~~BitVec.ofInt 64 (b : Int)).toNat : Int) = _
  rw [bv_strike, h1, h2, show ∀ n, IntKind.u64.wrap n = n % 18446744073709551616 from fun n => by simp [IntKind.wrap, IntKind.signed, IntKind.bits]]
  omega
/-- The lowest bits struck. -/
theorem strike_low (x : Int) (k : Nat) (h0 : 0 ≤ x) (h1 : x < 18446744073709551616) (hk : k ≤ 64) : bits .andNot .u64 x (2 ^ k - 1) = x - x % 2 ^ k := by
  obtain ⟨a, rfl⟩ : ∃ a : Nat, x = a := ⟨x.toNat, by omega⟩
  have hp : 2 ^ k ≤ 18446744073709551616 := (Nat.pow_le_pow_right (by omega) hk : 2 ^ k ≤ 2 ^ 64)
  have hq : 0 < 2 ^ k := Nat.two_pow_pos k
  have e : (2 : Int) ^ k - 1 = ((2 ^ k - 1 : Nat) : Int) := by
    rw [Int.natCast_sub (by omega), Int.natCast_pow]
    rfl
  rw [e, strike_u64 _ _ (by omega) (by omega), Nat.and_two_pow_sub_one_eq_mod]
  have : a % 2 ^ k ≤ a := Nat.mod_le _ _
  rw [Int.natCast_sub this, Int.natCast_emod, Int.natCast_pow]
  rfl
theorem and_pow (a i : Nat) : a &&& 2 ^ i = if a.testBit i = true then 2 ^ i else 0 := by
  apply Nat.eq_of_testBit_eq
  intro j
  rw [Nat.testBit_and, Nat.testBit_two_pow]
  by_cases h : a.testBit i = true
  · rw [if_pos h, Nat.testBit_two_pow]
    by_cases hij : i = j
    · subst hij
      simp [h]
    · simp [hij]
  · rw [if_neg h, Nat.zero_testBit]
    by_cases hij : i = j
    · subst hij
      simpa using h
    · simp [hij]
/-- The bit 25 struck. -/
theorem strike_25 (x : Int) (h0 : 0 ≤ x) (h1 : x < 4294967296) : bits .andNot .u64 x 33554432 = x - (if x / 33554432 % 2 = 1 then 33554432 else 0) := by
  obtain ⟨a, rfl⟩ : ∃ a : Nat, x = a := ⟨x.toNat, by omega⟩
  have e := strike_u64 a 33554432 (by omega) (by omega)
  rw [show (33554432 : Nat) = 2 ^ 25 from rfl, and_pow, Nat.testBit_eq_decide_div_mod_eq] at e
  rw [show ((33554432 : Int)) = ((2 ^ 25 : Nat) : Int) from rfl, e]
  by_cases h : a / 33554432 % 2 = 1
  · have h' : decide (a / 2 ^ 25 % 2 = 1) = true := decide_eq_true h
    rw [if_pos h', if_pos (by omega)]
    omega
  · have h' : ¬ decide (a / 2 ^ 25 % 2 = 1) = true := fun hh => h (of_decide_eq_true hh)
    rw [if_neg h', if_neg (by omega)]
    omega
/-- All bits turned. -/
theorem xor_max32 (x : Int) (h0 : 0 ≤ x) (h1 : x < 4294967296) : bits .xor .u32 IntKind.u32.max x = 4294967295 - x := by
  obtain ⟨a, rfl⟩ : ∃ a : Nat, x = a := ⟨x.toNat, by omega⟩
  have e1 : (BitVec.ofInt 32 (a : Int)).toNat = a := by
    rw [BitVec.ofInt_natCast, BitVec.toNat_ofNat]; exact Nat.mod_eq_of_lt (by omega)
  show IntKind.u32.wrap ((BitVec.ofInt 32 IntKind.u32.max ^^^ BitVec.ofInt 32 (a : Int)).toNat : Int) = _
  rw [show BitVec.ofInt 32 IntKind.u32.max = BitVec.allOnes 32 from by decide, BitVec.allOnes_xor, BitVec.toNat_not, e1, show ∀ n, IntKind.u32.wrap n = n % 4294967296 from fun n => by simp [IntKind.wrap, IntKind.signed, IntKind.bits]]
  omega
end Go.Proofs.YtfieiigefllekaaGreatDoor
