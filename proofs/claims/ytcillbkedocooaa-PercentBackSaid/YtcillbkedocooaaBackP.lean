/- What is encoded, decoded: plain Lean, of no program beyond the words of the walks. -/
import Derived.Test.YtcillbkedocooaaEnc
import Derived.Test.YtcillbkedocooaaRight
import Derived.Test.YtcillbkedocooaaRef2
namespace Go.Proofs.Ytcillbkedocooaa
open Go.RowKit Go.Proofs.YtcillbkedocooaaW.PrintWords

theorem rnF_ascii (s : ByteArray) (h : ∀ b ∈ s.data.toList, b.toNat < 128) : ∀ f p, s.size ≤ p + f → rnF s f p = intsOf (s.data.toList.drop p)
  | 0, p, hf => by
    rw [List.drop_of_length_le (by simp; omega)]
    rfl
  | f + 1, p, hf => by
    unfold rnF
    split
    · rename_i hp
      have hb : (s[p]'hp).toNat < 128 := h _ (by
        have := List.getElem_mem (l := s.data.toList) (n := p) (by simpa using hp)
        exact this)
      rw [decode_ascii s p hp hb, rnF_ascii s h f (p + 1) (by omega), drop_byte s p hp]
      rfl
    · rw [List.drop_of_length_le (by simp; omega)]
      rfl
/-- Of ASCII alone each byte is a code point. -/
theorem rn_ascii (s : ByteArray) (h : ∀ b ∈ s.data.toList, b.toNat < 128) : rn s = intsOf s.data.toList := by
  rw [rn, rnF_ascii s h s.size 0 (by omega), List.drop_zero]

theorem rnF_byte (s : ByteArray) (x : Int) (h0 : 0 ≤ x) (hx : x < 128) (h : ∀ b ∈ s.data.toList, (b.toNat : Int) ≠ x) : ∀ f p, x ∉ rnF s f p
  | 0, _ => by simp [rnF]
  | f + 1, p => by
    unfold rnF
    split
    · rename_i hp
      intro hm
      rcases List.mem_cons.1 hm with e | hm
      · by_cases hb : (s[p]'hp).toNat < 128
        · rw [decode_ascii s p hp hb] at e
          exact h _ (List.getElem_mem (l := s.data.toList) (n := p) (by simpa using hp)) e.symm
        · have := (decode_high s p hp (by omega)).1
          omega
      · exact rnF_byte s x h0 hx h f _ hm
    · simp
theorem rn_byte (s : ByteArray) (x : Int) (h0 : 0 ≤ x) (hx : x < 128) (h : ∀ b ∈ s.data.toList, (b.toNat : Int) ≠ x) : x ∉ rn s := rnF_byte s x h0 hx h _ _

/-- A byte that stands in what is encoded. -/
def Good (s : Int) (b : UInt8) : Prop := 32 ≤ b.toNat ∧ b.toNat ≤ 126 ∧ inSet s (b.toNat : Int) = false
theorem good_lits : ∀ s : Fin 6, ∀ n : Fin 16, inSet (s.val : Int) 37 = false ∧ inSet (s.val : Int) ((hexD (n.val : Int)).toNat : Int) = false ∧ 32 ≤ (hexD (n.val : Int)).toNat ∧ (hexD (n.val : Int)).toNat ≤ 126 := by decide +kernel
theorem hexV_hexD : ∀ n : Fin 16, hexV ((hexD (n.val : Int)).toNat : Int) = (n.val : Int) ∧ (hexD (n.val : Int) == 37) = false := by decide +kernel
theorem hexD_good (s n : Int) (hs : 0 ≤ s) (hs5 : s ≤ 5) (hn : 0 ≤ n) (hn' : n < 16) : Good s (hexD n) := by
  have := good_lits ⟨s.toNat, by omega⟩ ⟨n.toNat, by omega⟩
  simp only [Int.toNat_of_nonneg hs, Int.toNat_of_nonneg hn] at this
  exact ⟨this.2.2.1, this.2.2.2, this.2.1⟩
theorem pct_good (s : Int) (hs : 0 ≤ s) (hs5 : s ≤ 5) : Good s 37 := by
  have := good_lits ⟨s.toNat, by omega⟩ 0
  simp only [Int.toNat_of_nonneg hs] at this
  exact ⟨by decide, by decide, this.1⟩
theorem hexD_val (n : Int) (hn : 0 ≤ n) (hn' : n < 16) : hexV ((hexD n).toNat : Int) = n ∧ (hexD n == 37) = false := by
  have := hexV_hexD ⟨n.toNat, by omega⟩
  simp only [Int.toNat_of_nonneg hn] at this
  exact this
theorem byteL_good (s c : Int) (hs : 0 ≤ s) (hs5 : s ≤ 5) (hc : 0 ≤ c) (hc' : c ≤ 255) : ∀ b ∈ byteL c, Good s b := by
  intro b hb
  simp only [byteL, List.mem_cons, List.not_mem_nil, or_false] at hb
  rcases hb with rfl | rfl | rfl
  · exact pct_good s hs hs5
  · exact hexD_good s _ hs hs5 (by omega) (by omega)
  · exact hexD_good s _ hs hs5 (by omega) (by omega)
theorem inSet_out (s r : Int) (hs5 : s ≤ 5) (h : inSet s r = false) : 32 ≤ r ∧ r ≤ 126 := by
  simp only [inSet, if_neg (show ¬ 5 < s by omega), Bool.or_eq_false_iff, decide_eq_false_iff_not] at h
  omega
theorem encodeRune_ascii (r : Int) (h0 : 0 ≤ r) (h1 : r ≤ 127) : Lib.encodeRune r = [UInt8.ofNat r.toNat] := by
  rw [Lib.encodeRune, Lib.encodeRuneZ_one h0 h1]
  rfl
theorem encOne_good (s r : Int) (hs : 0 ≤ s) (hs5 : s ≤ 5) : ∀ b ∈ encOne s r, Good s b := by
  intro b hb
  unfold encOne at hb
  split at hb
  · obtain ⟨x, _, hx⟩ := List.mem_flatMap.1 hb
    have := x.toNat_lt
    exact byteL_good s _ hs hs5 (by omega) (by omega) b hx
  · rename_i hin
    have hin' : inSet s r = false := by simpa using hin
    have hr := inSet_out s r hs5 hin'
    rw [encodeRune_ascii r (by omega) (by omega)] at hb
    obtain rfl : b = UInt8.ofNat r.toNat := by simpa using hb
    have e : (UInt8.ofNat r.toNat).toNat = r.toNat := by simp; omega
    refine ⟨by omega, by omega, ?_⟩
    rw [e, Int.toNat_of_nonneg (by omega)]
    exact hin'
theorem encL_good (s : Int) (hs : 0 ≤ s) (hs5 : s ≤ 5) (l : List Int) : ∀ b ∈ encL s l, Good s b := by
  intro b hb
  obtain ⟨r, _, hr⟩ := List.mem_flatMap.1 hb
  exact encOne_good s r hs hs5 b hr
theorem encOf_list (s : Int) (t : ByteArray) : (encOf s t).data.toList = encL s (rn t) := by simp [encOf]
/-- What is encoded is ASCII. -/
theorem rn_encOf (s : Int) (hs : 0 ≤ s) (hs5 : s ≤ 5) (t : ByteArray) : rn (encOf s t) = intsOf (encL s (rn t)) := by
  rw [rn_ascii (encOf s t) (by rw [encOf_list]; intro b hb; have := (encL_good s hs hs5 _ b hb).2.1; omega), encOf_list]
/-- It has none of the set. -/
theorem encOf_none (s : Int) (hs : 0 ≤ s) (hs5 : s ≤ 5) (t : ByteArray) : ∀ x ∈ rn (encOf s t), inSet s x = false := by
  rw [rn_encOf s hs hs5]
  intro x hx
  obtain ⟨b, hb, rfl⟩ := List.mem_map.1 hx
  exact (encL_good s hs hs5 _ b hb).2.2
/-- Encoded again nothing is changed. -/
theorem encOf_again (s : Int) (hs : 0 ≤ s) (hs5 : s ≤ 5) (t : ByteArray) : encOf s (encOf s t) = encOf s t := by
  have h : ∀ l : List UInt8, (∀ b ∈ l, Good s b) → encL s (intsOf l) = l := by
    intro l
    induction l with
    | nil => intro _; rfl
    | cons b l ih =>
      intro hg
      have h1 := hg b (by simp)
      have h2 := ih (fun x hx => hg x (by simp [hx]))
      show encOne s (b.toNat : Int) ++ encL s (intsOf l) = b :: l
      rw [h2, encOne, if_neg (by rw [h1.2.2]; decide), encodeRune_ascii _ (by omega) (by have := h1.2.1; omega)]
      simp
  rw [encOf, rn_encOf s hs hs5, h _ (encL_good s hs hs5 _), encOf]

theorem three_byteL (c : Int) (hc : 0 ≤ c) (hc' : c ≤ 255) (rest : List UInt8) : threeL (byteL c ++ rest) = true ∧ valL (byteL c ++ rest) = c := by
  have a := hexD_val (c / 16) (by omega) (by omega)
  have b := hexD_val (c % 16) (by omega) (by omega)
  constructor
  · simp only [byteL, List.cons_append, List.nil_append, threeL, a.1, b.1]
    simp
    omega
  · simp only [byteL, List.cons_append, List.nil_append, valL, a.1, b.1]
    omega
theorem decL_bytes (bs rest : List UInt8) : decL (bs.flatMap (fun b => byteL (b.toNat : Int)) ++ rest) = bs ++ decL rest := by
  induction bs with
  | nil => rfl
  | cons b bs ih =>
    have hb := b.toNat_lt
    have h := three_byteL (b.toNat : Int) (by omega) (by omega) (bs.flatMap (fun b => byteL (b.toNat : Int)) ++ rest)
    rw [List.flatMap_cons, List.append_assoc, decL_three _ h.1, h.2]
    rw [show (byteL (b.toNat : Int) ++ (bs.flatMap (fun b => byteL (b.toNat : Int)) ++ rest)).drop 3 = bs.flatMap (fun b => byteL (b.toNat : Int)) ++ rest from rfl, ih]
    simp
theorem not_three (c : UInt8) (r : List UInt8) (h : (c == 37) = false) : threeL (c :: r) = false := by
  rcases r with _ | ⟨b, _ | ⟨d, r⟩⟩
  · rfl
  · rfl
  · simp [threeL, h]
theorem right_cons (c : UInt8) (r : List UInt8) (h : (c == 37) = false) : rightL (c :: r) = rightL r := by
  rw [rightL, h]
  rfl
theorem right_bytes (bs rest : List UInt8) : rightL (bs.flatMap (fun b => byteL (b.toNat : Int)) ++ rest) = rightL rest := by
  induction bs with
  | nil => rfl
  | cons b bs ih =>
    have hb := b.toNat_lt
    have h := three_byteL (b.toNat : Int) (by omega) (by omega) (bs.flatMap (fun b => byteL (b.toNat : Int)) ++ rest)
    have a := hexD_val ((b.toNat : Int) / 16) (by omega) (by omega)
    have c := hexD_val ((b.toNat : Int) % 16) (by omega) (by omega)
    rw [List.flatMap_cons, List.append_assoc, ← ih]
    show rightL (37 :: _) = _
    rw [rightL]
    have h3 : threeL (37 :: ([hexD ((b.toNat : Int) / 16), hexD ((b.toNat : Int) % 16)] ++ (bs.flatMap (fun b => byteL (b.toNat : Int)) ++ rest))) = true := h.1
    rw [show ([hexD ((b.toNat : Int) / 16), hexD ((b.toNat : Int) % 16)].append (bs.flatMap (fun b => byteL (b.toNat : Int)) ++ rest)) = [hexD ((b.toNat : Int) / 16), hexD ((b.toNat : Int) % 16)] ++ (bs.flatMap (fun b => byteL (b.toNat : Int)) ++ rest) from rfl, h3]
    simp only [Bool.not_true, Bool.and_false, Bool.false_eq_true, if_false, List.cons_append, List.nil_append]
    rw [right_cons _ _ a.2, right_cons _ _ c.2]
theorem ofNat_ne (r : Int) (h0 : 0 ≤ r) (h1 : r ≤ 127) (h : r ≠ 37) : (UInt8.ofNat r.toNat == 37) = false := by
  rw [beq_eq_false_iff_ne]
  intro e
  have := congrArg UInt8.toNat e
  simp at this
  omega
/-- Decoded it is the text of the code points. -/
theorem decL_enc (s : Int) (hs5 : s ≤ 5) (l : List Int) (h : (37 : Int) ∉ l) : decL (encL s l) = textL l := by
  induction l with
  | nil => rfl
  | cons r l ih =>
    have ih' := ih (fun hm => h (by simp [hm]))
    show decL (encOne s r ++ encL s l) = Lib.encodeRune r ++ textL l
    unfold encOne
    split
    · rw [decL_bytes, ih']
    · rename_i hin
      have hr := inSet_out s r hs5 (by simpa using hin)
      have hne : r ≠ 37 := fun e => h (by simp [e])
      rw [encodeRune_ascii r (by omega) (by omega)]
      show decL (UInt8.ofNat r.toNat :: encL s l) = UInt8.ofNat r.toNat :: textL l
      rw [decL_not _ _ (not_three _ _ (ofNat_ne r (by omega) (by omega) hne)), ih']
theorem right_enc (s : Int) (hs5 : s ≤ 5) (l : List Int) (h : (37 : Int) ∉ l) : rightL (encL s l) = true := by
  induction l with
  | nil => rfl
  | cons r l ih =>
    have ih' := ih (fun hm => h (by simp [hm]))
    show rightL (encOne s r ++ encL s l) = true
    unfold encOne
    split
    · rw [right_bytes, ih']
    · rename_i hin
      have hr := inSet_out s r hs5 (by simpa using hin)
      have hne : r ≠ 37 := fun e => h (by simp [e])
      rw [encodeRune_ascii r (by omega) (by omega)]
      show rightL (UInt8.ofNat r.toNat :: encL s l) = true
      rw [right_cons _ _ (ofNat_ne r (by omega) (by omega) hne), ih']
end Go.Proofs.Ytcillbkedocooaa
