/- The model's decoding of UTF-8, case by case: plain Lean, of no program. -/
import Derived.Test.YtcillbkedocooaaRn
namespace Go.Proofs.Ytcillbkedocooaa
open Go

theorem get_byte (s : ByteArray) (j : Nat) (h : j < s.size) : s.get! j = s[j]'h := by
  have := get_at s j h
  simpa using this

theorem deco_none (s : ByteArray) (i : Nat) (hi : i < s.size) (h : (128 ≤ (s[i]'hi).toNat ∧ (s[i]'hi).toNat < 192) ∨ 248 ≤ (s[i]'hi).toNat) : Utf8.decode s i = (65533, 1) := by
  unfold Utf8.decode
  simp only [Nat.add_zero, get_byte s i hi]
  generalize (s[i]'hi).toNat = b at h
  simp only [Bool.and_eq_true, beq_iff_eq, Utf8.runeError]
  rw [if_neg (by omega), if_neg (by omega), if_neg (by omega), if_neg (by omega)]

theorem deco2 (s : ByteArray) (i : Nat) (h1 : i + 1 < s.size) (hb : 192 ≤ (s[i]'(by omega)).toNat) (hb' : (s[i]'(by omega)).toNat < 224) (hc : 128 ≤ (s[i+1]'h1).toNat) (hc' : (s[i+1]'h1).toNat < 192) :
    Utf8.decode s i = if ((s[i]'(by omega)).toNat - 192) * 64 + (s[i+1]'h1).toNat - 128 < 128 then (65533, 1) else (((s[i]'(by omega)).toNat - 192) * 64 + (s[i+1]'h1).toNat - 128, 2) := by
  unfold Utf8.decode
  simp only [Nat.add_zero, get_byte s i (by omega), get_byte s (i + 1) h1]
  generalize (s[i]'(by omega)).toNat = b at hb hb'
  generalize (s[i+1]'h1).toNat = c at hc hc'
  simp only [Bool.and_eq_true, beq_iff_eq, decide_eq_true_eq, Utf8.runeError]
  rw [if_neg (by omega), if_pos (by omega)]
  have e : b % 32 * 64 + c % 64 = (b - 192) * 64 + c - 128 := by omega
  rw [e]
  by_cases h : (b - 192) * 64 + c - 128 < 128
  · rw [if_pos h, if_neg (by omega)]
  · rw [if_neg h, if_pos (by omega)]
theorem deco2_bad (s : ByteArray) (i : Nat) (hi : i < s.size) (hb : 192 ≤ (s[i]'hi).toNat) (hb' : (s[i]'hi).toNat < 224) (hc : ∀ h1 : i + 1 < s.size, (s[i+1]'h1).toNat < 128 ∨ 192 ≤ (s[i+1]'h1).toNat) :
    Utf8.decode s i = (65533, 1) := by
  unfold Utf8.decode
  simp only [Nat.add_zero, get_byte s i hi]
  generalize (s[i]'hi).toNat = b at hb hb'
  simp only [Bool.and_eq_true, beq_iff_eq, decide_eq_true_eq, Utf8.runeError]
  have : ¬ (b / 32 = 6 ∧ i + 1 < s.size ∧ (s.get! (i + 1)).toNat / 64 = 2) := by
    rintro ⟨_, h1, h2⟩
    have := hc h1
    rw [get_byte s (i + 1) h1] at h2
    omega
  rw [if_neg (by omega), if_neg this, if_neg (by omega), if_neg (by omega)]

theorem deco3 (s : ByteArray) (i : Nat) (h2 : i + 2 < s.size) (hb : 224 ≤ (s[i]'(by omega)).toNat) (hb' : (s[i]'(by omega)).toNat < 240) (hc : 128 ≤ (s[i+1]'(by omega)).toNat) (hc' : (s[i+1]'(by omega)).toNat < 192)
    (hd : 128 ≤ (s[i+2]'h2).toNat) (hd' : (s[i+2]'h2).toNat < 192) (v : Nat) (hv : v = (((s[i]'(by omega)).toNat - 224) * 64 + (s[i+1]'(by omega)).toNat - 128) * 64 + (s[i+2]'h2).toNat - 128) :
    Utf8.decode s i = if v < 2048 ∨ ¬ (v < 55296 ∨ 57343 < v) then (65533, 1) else (v, 3) := by
  unfold Utf8.decode
  simp only [Nat.add_zero, get_byte s i (by omega), get_byte s (i + 1) (by omega), get_byte s (i + 2) h2]
  generalize (s[i]'(by omega)).toNat = b at hb hb' hv
  generalize (s[i+1]'(by omega)).toNat = c at hc hc' hv
  generalize (s[i+2]'h2).toNat = d at hd hd' hv
  simp only [Bool.and_eq_true, beq_iff_eq, decide_eq_true_eq, Utf8.runeError]
  rw [if_neg (by omega), if_neg (by omega), if_pos (by omega)]
  have e : b % 16 * 4096 + c % 64 * 64 + d % 64 = v := by omega
  rw [e]
  simp only [Utf8.valid, Bool.or_eq_true, Bool.and_eq_true, decide_eq_true_eq]
  by_cases h : v < 2048 ∨ ¬ (v < 55296 ∨ 57343 < v)
  · rw [if_pos h, if_neg (by omega)]
  · rw [if_neg h, if_pos (by omega)]
theorem deco3_bad (s : ByteArray) (i : Nat) (hi : i < s.size) (hb : 224 ≤ (s[i]'hi).toNat) (hb' : (s[i]'hi).toNat < 240)
    (hc : (∀ h1 : i + 1 < s.size, (s[i+1]'h1).toNat < 128 ∨ 192 ≤ (s[i+1]'h1).toNat) ∨ ∀ h2 : i + 2 < s.size, (s[i+2]'h2).toNat < 128 ∨ 192 ≤ (s[i+2]'h2).toNat) :
    Utf8.decode s i = (65533, 1) := by
  unfold Utf8.decode
  simp only [Nat.add_zero, get_byte s i hi]
  generalize (s[i]'hi).toNat = b at hb hb'
  simp only [Bool.and_eq_true, beq_iff_eq, decide_eq_true_eq, Utf8.runeError]
  have : ¬ ((b / 16 = 14 ∧ i + 1 < s.size ∧ (s.get! (i + 1)).toNat / 64 = 2) ∧ i + 2 < s.size ∧ (s.get! (i + 2)).toNat / 64 = 2) := by
    rintro ⟨⟨_, h1, h2⟩, h3, h4⟩
    rw [get_byte s (i + 1) h1] at h2
    rw [get_byte s (i + 2) h3] at h4
    rcases hc with hc | hc
    · have := hc h1; omega
    · have := hc h3; omega
  rw [if_neg (by omega), if_neg (by omega), if_neg this, if_neg (by omega)]

theorem deco4 (s : ByteArray) (i : Nat) (h3 : i + 3 < s.size) (hb : 240 ≤ (s[i]'(by omega)).toNat) (hb' : (s[i]'(by omega)).toNat < 248) (hc : 128 ≤ (s[i+1]'(by omega)).toNat) (hc' : (s[i+1]'(by omega)).toNat < 192)
    (hd : 128 ≤ (s[i+2]'(by omega)).toNat) (hd' : (s[i+2]'(by omega)).toNat < 192) (he : 128 ≤ (s[i+3]'h3).toNat) (he' : (s[i+3]'h3).toNat < 192)
    (v : Nat) (hv : v = ((((s[i]'(by omega)).toNat - 240) * 64 + (s[i+1]'(by omega)).toNat - 128) * 64 + (s[i+2]'(by omega)).toNat - 128) * 64 + (s[i+3]'h3).toNat - 128) :
    Utf8.decode s i = if v < 65536 ∨ 1114111 < v then (65533, 1) else (v, 4) := by
  unfold Utf8.decode
  simp only [Nat.add_zero, get_byte s i (by omega), get_byte s (i + 1) (by omega), get_byte s (i + 2) (by omega), get_byte s (i + 3) h3]
  generalize (s[i]'(by omega)).toNat = b at hb hb' hv
  generalize (s[i+1]'(by omega)).toNat = c at hc hc' hv
  generalize (s[i+2]'(by omega)).toNat = d at hd hd' hv
  generalize (s[i+3]'h3).toNat = e at he he' hv
  simp only [Bool.and_eq_true, beq_iff_eq, decide_eq_true_eq, Utf8.runeError]
  rw [if_neg (by omega), if_neg (by omega), if_neg (by omega), if_pos (by omega)]
  have e : b % 8 * 262144 + c % 64 * 4096 + d % 64 * 64 + e % 64 = v := by omega
  rw [e]
  simp only [Utf8.valid, Bool.or_eq_true, Bool.and_eq_true, decide_eq_true_eq]
  by_cases h : v < 65536 ∨ 1114111 < v
  · rw [if_pos h, if_neg (by omega)]
  · rw [if_neg h, if_pos (by omega)]
theorem deco4_bad (s : ByteArray) (i : Nat) (hi : i < s.size) (hb : 240 ≤ (s[i]'hi).toNat) (hb' : (s[i]'hi).toNat < 248)
    (hc : (∀ h1 : i + 1 < s.size, (s[i+1]'h1).toNat < 128 ∨ 192 ≤ (s[i+1]'h1).toNat) ∨ (∀ h2 : i + 2 < s.size, (s[i+2]'h2).toNat < 128 ∨ 192 ≤ (s[i+2]'h2).toNat) ∨ ∀ h3 : i + 3 < s.size, (s[i+3]'h3).toNat < 128 ∨ 192 ≤ (s[i+3]'h3).toNat) :
    Utf8.decode s i = (65533, 1) := by
  unfold Utf8.decode
  simp only [Nat.add_zero, get_byte s i hi]
  generalize (s[i]'hi).toNat = b at hb hb'
  simp only [Bool.and_eq_true, beq_iff_eq, decide_eq_true_eq, Utf8.runeError]
  have : ¬ (((b / 8 = 30 ∧ i + 1 < s.size ∧ (s.get! (i + 1)).toNat / 64 = 2) ∧ i + 2 < s.size ∧ (s.get! (i + 2)).toNat / 64 = 2) ∧ i + 3 < s.size ∧ (s.get! (i + 3)).toNat / 64 = 2) := by
    rintro ⟨⟨⟨_, h1, h2⟩, h3, h4⟩, h5, h6⟩
    rw [get_byte s (i + 1) h1] at h2
    rw [get_byte s (i + 2) h3] at h4
    rw [get_byte s (i + 3) h5] at h6
    rcases hc with hc | hc | hc
    · have := hc h1; omega
    · have := hc h3; omega
    · have := hc h5; omega
  rw [if_neg (by omega), if_neg (by omega), if_neg (by omega), if_neg this]
end Go.Proofs.Ytcillbkedocooaa
