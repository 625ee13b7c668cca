/- Decimal numbers: plain Lean. -/
import Derived.Test.YtfcnfkedoihpoaaDoorNumP
import Derived.Lib.AtoiAllCases
namespace Go.Proofs.YtfcnfkedoihpoaaDoor
open Go.RowKit Go.Proofs.YtfcnfkedoihpoaaDoorW.PrintWords

/-- Digits, added up. -/
def accD : Int → List Int → Int
  | n, [] => n
  | n, r :: rs => accD (10 * n + (r - 48)) rs
def decV (l : List UInt8) : Int := accD 0 (intsOf l)
theorem accD_mono : ∀ (l : List Int) (n : Int), 0 ≤ n → l.all isDig = true → n ≤ accD n l
  | [], n, _, _ => Int.le_refl _
  | r :: rs, n, h0, h => by
    rw [List.all_cons, Bool.and_eq_true] at h
    have hr : 48 ≤ r ∧ r ≤ 57 := by have := h.1; simp [isDig] at this; exact this
    have := accD_mono rs (10 * n + (r - 48)) (by omega) h.2
    unfold accD
    omega
/-- A decimal number of at most another: digits, no nought ahead. -/
def plainD (l : List UInt8) : Bool := digitsL l && !(decide (1 < l.length) && l.head? == some 48)
def decOk (l : List UInt8) (most : Int) : Bool := plainD l && decide (decV l ≤ most)
def decN (l : List UInt8) (most : Int) : Int := if decOk l most = true then decV l else 0
theorem isDig_iff (r : Int) : isDig r = true ↔ 48 ≤ r ∧ r ≤ 57 := by simp [isDig]
theorem okD_ten (r : Int) : okD 10 r = isDig r := by
  rw [Bool.eq_iff_iff]
  simp only [okD, isDig, Bool.and_eq_true, decide_eq_true_eq]
  have := hexV_cases r
  omega
theorem accD_small (l : List Int) : ∀ n : Int, 0 ≤ n → l.all isDig = true → accD n l < (n + 1) * 10 ^ l.length := by
  induction l with
  | nil => intro n h0 _; simp [accD]; omega
  | cons r rs ih =>
    intro n h0 h
    rw [List.all_cons, Bool.and_eq_true] at h
    have hr := (isDig_iff r).1 h.1
    have := ih (10 * n + (r - 48)) (by omega) h.2
    unfold accD
    have h2 : (10 * n + (r - 48) + 1) * 10 ^ rs.length ≤ (10 * n + 10) * 10 ^ rs.length := Int.mul_le_mul_of_nonneg_right (by omega) (Int.le_of_lt (Int.pow_pos (by decide)))
    rw [List.length_cons, Int.pow_succ]
    rw [show (n + 1) * (10 ^ rs.length * 10) = (10 * n + 10) * 10 ^ rs.length by rw [show (10 * n + 10 : Int) = (n + 1) * 10 by omega, Int.mul_assoc, Int.mul_comm (10 ^ rs.length) 10]]
    omega

theorem parse_digits : ∀ (l : List UInt8) (acc : Nat), acc < 18446744073709551616 → (intsOf l).all isDig = true →
    (accD acc (intsOf l) < 18446744073709551616 → ∃ u : Nat, Lib.parseUint10 acc l = .ok u ∧ (u : Int) = accD acc (intsOf l)) ∧ (18446744073709551616 ≤ accD acc (intsOf l) → Lib.parseUint10 acc l = .range)
  | [], acc, ha, _ => ⟨fun _ => ⟨acc, rfl, rfl⟩, fun h => by
      exfalso
      have : accD (acc : Int) (intsOf []) = acc := rfl
      omega⟩
  | c :: r, acc, ha, h => by
    rw [show intsOf (c :: r) = (c.toNat : Int) :: intsOf r from rfl, List.all_cons, Bool.and_eq_true] at h
    have hc := (isDig_iff _).1 h.1
    have e : accD (acc : Int) (intsOf (c :: r)) = accD ((acc * 10 + (c.toNat - 48) : Nat) : Int) (intsOf r) := by
      rw [show intsOf (c :: r) = (c.toNat : Int) :: intsOf r from rfl, accD]
      congr 1
      omega
    have hm := accD_mono (intsOf r) ((acc * 10 + (c.toNat - 48) : Nat) : Int) (by omega) h.2
    rw [e, Lib.parseUint10, if_pos ⟨by omega, by omega⟩]
    by_cases h1 : 1844674407370955162 ≤ acc
    · rw [if_pos h1]
      exact ⟨fun _ => by omega, fun _ => rfl⟩
    · rw [if_neg h1]
      by_cases h2 : 18446744073709551616 ≤ acc * 10 + (c.toNat - 48)
      · rw [if_pos h2]
        exact ⟨fun _ => by omega, fun _ => rfl⟩
      · rw [if_neg h2]
        exact parse_digits r _ (by omega) h.2
theorem atoi_digits (l : List UInt8) (h : digitsL l = true) : (decV l ≤ 9223372036854775807 → Lib.atoiAll l = .ok (decV l)) ∧ (9223372036854775807 < decV l → Lib.atoiAll l = .range) := by
  rw [digitsL, Bool.and_eq_true] at h
  rcases l with _ | ⟨c, r⟩
  · simp at h
  · have hc := h.2
    rw [show intsOf (c :: r) = (c.toNat : Int) :: intsOf r from rfl, List.all_cons, Bool.and_eq_true] at hc
    have hc1 := (isDig_iff _).1 hc.1
    rw [Lib.atoiAll_plain c r (by omega) (by omega), Lib.parseMag, if_neg (by simp)]
    have := parse_digits (c :: r) 0 (by omega) h.2
    rw [show accD ((0 : Nat) : Int) (intsOf (c :: r)) = decV (c :: r) from rfl] at this
    constructor
    · intro hv
      obtain ⟨u, hu, hu2⟩ := this.1 (by omega)
      rw [hu, Lib.signless, if_neg (by omega), hu2]
    · intro hv
      rcases Int.lt_or_le (decV (c :: r)) 18446744073709551616 with hl | hl
      · obtain ⟨u, hu, hu2⟩ := this.1 hl
        rw [hu, Lib.signless, if_pos (by omega)]
      · rw [this.2 hl]
        rfl
theorem decV_nonneg (l : List UInt8) (h : digitsL l = true) : 0 ≤ decV l := by
  rw [digitsL, Bool.and_eq_true] at h
  exact accD_mono _ 0 (Int.le_refl _) h.2
end Go.Proofs.YtfcnfkedoihpoaaDoor
