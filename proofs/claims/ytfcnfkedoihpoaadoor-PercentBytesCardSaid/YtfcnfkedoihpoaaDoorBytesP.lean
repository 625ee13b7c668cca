/- Bytes, each by %, are decoded as they are, with small letters, too; which set has what another has: plain Lean. -/
import Derived.Test.YtfcnfkedoihpoaaDoorEnc
import Derived.Test.YtfcnfkedoihpoaaDoorRight
import Derived.Lib.Case
namespace Go.Proofs.YtfcnfkedoihpoaaDoor
open Go.RowKit Go.Proofs.YtfcnfkedoihpoaaDoorW.PrintWords

theorem hexD_both : ∀ n : Fin 16, (hexV ((hexD (n.val : Int)).toNat : Int) = (n.val : Int) ∧ (hexD (n.val : Int) == 37) = false ∧ (hexD (n.val : Int)).toNat < 128) ∧ hexV ((Lib.lowerB (hexD (n.val : Int))).toNat : Int) = (n.val : Int) := by decide +kernel
theorem hexD_val' (n : Int) (hn : 0 ≤ n) (hn' : n < 16) : (hexV ((hexD n).toNat : Int) = n ∧ (hexD n == 37) = false ∧ (hexD n).toNat < 128) ∧ hexV ((Lib.lowerB (hexD n)).toNat : Int) = n := by
  have := hexD_both ⟨n.toNat, by omega⟩
  simp only [Int.toNat_of_nonneg hn] at this
  exact this
/-- Bytes, each by %. -/
def pctL (l : List UInt8) : List UInt8 := l.flatMap fun b => byteL (b.toNat : Int)
def pctS (l : List UInt8) : List UInt8 := l.flatMap fun b => (byteL (b.toNat : Int)).map Lib.lowerB
theorem pctL_snoc (l : List UInt8) (b : UInt8) : pctL (l ++ [b]) = pctL l ++ byteL (b.toNat : Int) := by simp [pctL]
theorem pctL_ascii (l : List UInt8) : ∀ b ∈ pctL l, b.toNat < 128 := by
  intro b hb
  obtain ⟨c, _, hc⟩ := List.mem_flatMap.1 hb
  have hl := c.toNat_lt
  have h1 := hexD_val' ((c.toNat : Int) / 16) (by omega) (by omega)
  have h2 := hexD_val' ((c.toNat : Int) % 16) (by omega) (by omega)
  simp only [byteL, List.mem_cons, List.not_mem_nil, or_false] at hc
  rcases hc with rfl | rfl | rfl
  · decide
  · exact h1.1.2.2
  · exact h2.1.2.2
theorem pct_small (l : List UInt8) : Lib.toLowerA (pctL l) = pctS l := by
  induction l with
  | nil => rfl
  | cons b l ih =>
    rw [show pctL (b :: l) = byteL (b.toNat : Int) ++ pctL l from rfl, show pctS (b :: l) = (byteL (b.toNat : Int)).map Lib.lowerB ++ pctS l from rfl, ← ih, Lib.toLowerA, List.map_append]
    rfl
theorem three_of (a b : UInt8) (r : List UInt8) (c : Int) (h0 : 0 ≤ c) (h1 : c ≤ 255) (ha : hexV (a.toNat : Int) = c / 16) (hb : hexV (b.toNat : Int) = c % 16) : threeL (37 :: a :: b :: r) = true ∧ valL (37 :: a :: b :: r) = c := by
  constructor
  · rw [threeL, ha, hb]
    simp
    omega
  · rw [valL, ha, hb]
    omega
theorem dec_of (f : UInt8 → List UInt8) (hf : ∀ b, ∃ x y, f b = [37, x, y] ∧ hexV (x.toNat : Int) = (b.toNat : Int) / 16 ∧ hexV (y.toNat : Int) = (b.toNat : Int) % 16) (l : List UInt8) : decL (l.flatMap f) = l := by
  induction l with
  | nil => rfl
  | cons b l ih =>
    have hb := b.toNat_lt
    obtain ⟨x, y, e, hx, hy⟩ := hf b
    have h := three_of x y (l.flatMap f) (b.toNat : Int) (by omega) (by omega) hx hy
    rw [List.flatMap_cons, e, show [37, x, y] ++ l.flatMap f = 37 :: x :: y :: l.flatMap f from rfl, decL_three _ h.1, h.2]
    rw [show (37 :: x :: y :: l.flatMap f).drop 3 = l.flatMap f from rfl, ih]
    simp
theorem dec_pct (l : List UInt8) : decL (pctL l) = l := dec_of _ (fun b => by
  have hb := b.toNat_lt
  exact ⟨_, _, rfl, (hexD_val' _ (by omega) (by omega)).1.1, (hexD_val' _ (by omega) (by omega)).1.1⟩) l
theorem dec_small (l : List UInt8) : decL (pctS l) = l := dec_of _ (fun b => by
  have hb := b.toNat_lt
  exact ⟨_, _, rfl, (hexD_val' _ (by omega) (by omega)).2, (hexD_val' _ (by omega) (by omega)).2⟩) l
theorem right_pct (l : List UInt8) : rightL (pctL l) = true := by
  induction l with
  | nil => rfl
  | cons b l ih =>
    have hb := b.toNat_lt
    have h1 := hexD_val' ((b.toNat : Int) / 16) (by omega) (by omega)
    have h2 := hexD_val' ((b.toNat : Int) % 16) (by omega) (by omega)
    have h := three_of _ _ (pctL l) (b.toNat : Int) (by omega) (by omega) h1.1.1 h2.1.1
    rw [show pctL (b :: l) = 37 :: hexD ((b.toNat : Int) / 16) :: hexD ((b.toNat : Int) % 16) :: pctL l from rfl, rightL, h.1]
    simp only [Bool.not_true, Bool.and_false, Bool.false_eq_true, if_false]
    rw [rightL, h1.1.2.1]
    simp only [Bool.false_and, Bool.false_eq_true, if_false]
    rw [rightL, h2.1.2.1]
    simpa using ih
theorem pctL_length (l : List UInt8) : (pctL l).length = 3 * l.length := bytesL_length l

/-! ### The sets -/
theorem in_mid : ∀ k : Fin 95, (inSet 4 ((k.val : Int) + 32) = true → inSet 5 ((k.val : Int) + 32) = true) ∧ (inSet 2 ((k.val : Int) + 32) = true → inSet 4 ((k.val : Int) + 32) = true ∧ inSet 3 ((k.val : Int) + 32) = true) ∧ inSet 0 ((k.val : Int) + 32) = false := by decide +kernel
theorem in_out (s r : Int) (hs : s ≤ 5) (h : r < 32 ∨ 126 < r) : inSet s r = true := by
  rw [inSet, if_neg (by omega)]
  rcases h with h | h
  · rw [show decide (r < 32) = true by simpa using h]
    rfl
  · rw [show decide (126 < r) = true by simpa using h]
    simp
theorem in_facts (r : Int) : (inSet 4 r = true → inSet 5 r = true) ∧ (inSet 2 r = true → inSet 4 r = true ∧ inSet 3 r = true) ∧ inSet 6 r = false ∧ ∀ s, s ≤ 5 → inSet 0 r = true → inSet s r = true := by
  by_cases h : r < 32 ∨ 126 < r
  · exact ⟨fun _ => in_out _ _ (by omega) h, fun _ => ⟨in_out _ _ (by omega) h, in_out _ _ (by omega) h⟩, by rw [inSet, if_pos (by omega)], fun s hs _ => in_out s r hs h⟩
  · have := in_mid ⟨(r - 32).toNat, by omega⟩
    simp only [Int.toNat_of_nonneg (show 0 ≤ r - 32 by omega), Int.sub_add_cancel] at this
    exact ⟨this.1, this.2.1, by rw [inSet, if_pos (by omega)], fun s hs h0 => by rw [this.2.2] at h0; cases h0⟩
end Go.Proofs.YtfcnfkedoihpoaaDoor
