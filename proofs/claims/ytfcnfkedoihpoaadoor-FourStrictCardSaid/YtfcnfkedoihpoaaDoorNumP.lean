/- Numbers as they are read, and texts split at bytes: plain Lean. -/
import Derived.Test.YtfcnfkedoihpoaaDoorVal
import Derived.Test.YtfcnfkedoihpoaaDoorRn
import Derived.Test.YtfcnfkedoihpoaaDoorDec
namespace Go.Proofs.YtfcnfkedoihpoaaDoor
open Go.RowKit Go.Proofs.YtfcnfkedoihpoaaDoorW.PrintWords

/-! ### Runes and bytes -/
theorem rnF_ascii (s : ByteArray) (h : ∀ b ∈ s.data.toList, b.toNat < 128) : ∀ f p, s.size ≤ p + f → rnF s f p = intsOf (s.data.toList.drop p)
  | 0, p, hf => by
    rw [List.drop_of_length_le (by simp; omega)]
    rfl
  | f + 1, p, hf => by
    unfold rnF
    split
    · rename_i hp
      have hb : (s[p]'hp).toNat < 128 := h _ (by
        have := List.getElem_mem (l := s.data.toList) (n := p) (by simpa using hp)
        exact this)
      rw [decode_ascii s p hp hb, rnF_ascii s h f (p + 1) (by omega), drop_byte s p hp]
      rfl
    · rw [List.drop_of_length_le (by simp; omega)]
      rfl
theorem rn_ascii (s : ByteArray) (h : ∀ b ∈ s.data.toList, b.toNat < 128) : rn s = intsOf s.data.toList := by
  rw [rn, rnF_ascii s h s.size 0 (by omega), List.drop_zero]
theorem rnF_low (s : ByteArray) : ∀ f p, s.size ≤ p + f → (∀ x ∈ rnF s f p, x < 128) → ∀ b ∈ s.data.toList.drop p, b.toNat < 128
  | 0, p, hf, _ => by
    rw [List.drop_of_length_le (by simp; omega)]
    simp
  | f + 1, p, hf, h => by
    unfold rnF at h
    split at h
    · rename_i hp
      have hb : (s[p]'hp).toNat < 128 := by
        rcases Nat.lt_or_ge (s[p]'hp).toNat 128 with hb | hb
        · exact hb
        · have h1 := (decode_high s p hp hb).1
          have h2 := h _ (List.mem_cons_self)
          omega
      rw [decode_ascii s p hp hb] at h
      have ih := rnF_low s f (p + 1) (by omega) (fun x hx => h x (List.mem_cons_of_mem _ hx))
      rw [drop_byte s p hp]
      intro b hm
      rcases List.mem_cons.1 hm with rfl | hm
      · exact hb
      · exact ih b hm
    · rw [List.drop_of_length_le (by simp; omega)]
      simp
/-- Where all code points are ASCII all bytes are. -/
theorem rn_low (s : ByteArray) (h : ∀ x ∈ rn s, x < 128) : ∀ b ∈ s.data.toList, b.toNat < 128 := by
  have := rnF_low s s.size 0 (by omega) h
  rwa [List.drop_zero] at this
/-- A test that no code point beyond ASCII meets may be asked of the bytes. -/
theorem rn_all (s : ByteArray) (p : Int → Bool) (hp : ∀ x, 128 ≤ x → p x = false) : (rn s).all p = (intsOf s.data.toList).all p := by
  by_cases h : ∀ b ∈ s.data.toList, b.toNat < 128
  · rw [rn_ascii s h]
  · have h1 : (rn s).all p = false := by
      rw [Bool.eq_false_iff]
      intro ha
      apply h
      refine rn_low s (fun x hx => ?_)
      rcases Int.lt_or_le x 128 with hx' | hx'
      · exact hx'
      · have := List.all_eq_true.1 ha x hx
        rw [hp x hx'] at this
        cases this
    have h2 : (intsOf s.data.toList).all p = false := by
      rw [Bool.eq_false_iff]
      intro ha
      apply h
      intro b hb
      rcases Nat.lt_or_ge b.toNat 128 with hx' | hx'
      · exact hx'
      · have := List.all_eq_true.1 ha (b.toNat : Int) (List.mem_map.2 ⟨b, hb, rfl⟩)
        rw [hp _ (by omega)] at this
        cases this
    rw [h1, h2]

/-! ### A number -/
/-- Digits to a base, added up, to 2^40 at most. -/
def accN (b : Int) : Int → List Int → Option Int
  | n, [] => some n
  | n, r :: rs => if hexV r < 0 ∨ b ≤ hexV r then none else accN b (min (n * b + hexV r) 1099511627776) rs
def okD (b r : Int) : Bool := decide (0 ≤ hexV r) && decide (hexV r < b)
theorem okD_high (b x : Int) (h : 128 ≤ x) : okD b x = false := by
  have : hexV x = -1 := by unfold hexV; split <;> (try split) <;> (try split) <;> omega
  simp [okD, this]
theorem accN_none (b : Int) : ∀ (l : List Int) (n : Int), l.all (okD b) = false → accN b n l = none
  | [], _, h => by simp at h
  | r :: rs, n, h => by
    unfold accN
    split
    · rfl
    · rename_i hr
      refine accN_none b rs _ ?_
      rw [List.all_cons] at h
      have : okD b r = true := by simp [okD]; omega
      rwa [this, Bool.true_and] at h
theorem accN_some (b : Int) : ∀ (l : List Int) (n : Int), l.all (okD b) = true → ∃ m, accN b n l = some m
  | [], n, _ => ⟨n, rfl⟩
  | r :: rs, n, h => by
    unfold accN
    rw [List.all_cons, Bool.and_eq_true] at h
    have hr : ¬ (hexV r < 0 ∨ b ≤ hexV r) := by
      have := h.1
      simp [okD] at this
      omega
    rw [if_neg hr]
    exact accN_some b rs _ h.2
theorem accN_bytes (b n : Int) (s : ByteArray) : accN b n (rn s) = accN b n (intsOf s.data.toList) := by
  by_cases h : ∀ x ∈ s.data.toList, x.toNat < 128
  · rw [rn_ascii s h]
  · have e := rn_all s (okD b) (okD_high b)
    have h2 : (intsOf s.data.toList).all (okD b) = false := by
      rw [Bool.eq_false_iff]
      intro ha
      apply h
      intro c hc
      rcases Nat.lt_or_ge c.toNat 128 with hx' | hx'
      · exact hx'
      · have := List.all_eq_true.1 ha (c.toNat : Int) (List.mem_map.2 ⟨c, hc, rfl⟩)
        rw [okD_high b _ (by omega)] at this
        cases this
    rw [accN_none b _ n (e.trans h2), accN_none b _ n h2]
theorem accN_bd (b : Int) (hb : 0 ≤ b) : ∀ (l : List Int) (n m : Int), 0 ≤ n → n ≤ 1099511627776 → accN b n l = some m → 0 ≤ m ∧ m ≤ 1099511627776
  | [], n, m, h0, h1, h => by
    obtain rfl := Option.some.inj h
    exact ⟨h0, h1⟩
  | r :: rs, n, m, h0, h1, h => by
    unfold accN at h
    split at h
    · cases h
    · rename_i hr
      have h2 : 0 ≤ n * b := Int.mul_nonneg h0 hb
      exact accN_bd b hb rs _ m (by omega) (by omega) h
/-- A number's base, and its digits. -/
def baseL : List UInt8 → Int × List UInt8
  | 48 :: c :: r => if c = 120 ∨ c = 88 then (16, r) else (8, c :: r)
  | l => (10, l)
def parseL (l : List UInt8) : Option Int := if l = [] then none else accN (baseL l).1 0 (intsOf (baseL l).2)
def digitsL (l : List UInt8) : Bool := !l.isEmpty && (intsOf l).all isDig
theorem isDig_high (x : Int) (h : 128 ≤ x) : isDig x = false := by simp [isDig]; omega

/-! ### A text, split -/
def splitL (p : UInt8 → Bool) : List UInt8 → List (List UInt8)
  | [] => [[]]
  | c :: r => if p c = true then [] :: splitL p r else match splitL p r with
    | [] => [[c]]
    | h :: t => (c :: h) :: t
theorem splitL_ne (p : UInt8 → Bool) : ∀ l, splitL p l ≠ []
  | [] => by simp [splitL]
  | c :: r => by
    unfold splitL
    split
    · simp
    · split <;> simp
/-- The first part is longer by something ahead. -/
def glue (x : List UInt8) : List (List UInt8) → List (List UInt8)
  | [] => [x]
  | h :: t => (x ++ h) :: t
theorem glue_nil (l : List (List UInt8)) (h : l ≠ []) : glue [] l = l := by
  rcases l with _ | ⟨a, l⟩
  · exact absurd rfl h
  · rfl
theorem split_at (p : UInt8 → Bool) (x r : List UInt8) (c : UInt8) (h : p c = true) : glue x (splitL p (c :: r)) = x :: splitL p r := by
  rw [splitL, if_pos h]
  simp [glue]
theorem split_on (p : UInt8 → Bool) (x r : List UInt8) (c : UInt8) (h : p c = false) : glue x (splitL p (c :: r)) = glue (x ++ [c]) (splitL p r) := by
  rw [splitL, if_neg (by rw [h]; decide)]
  rcases hs : splitL p r with _ | ⟨a, t⟩
  · exact absurd hs (splitL_ne p r)
  · simp [glue]
end Go.Proofs.YtfcnfkedoihpoaaDoor
