/- An address, written in one to four parts to any of three bases, is read: plain Lean. -/
import Derived.Test.YtfcnfkedoihpoaaDoorJF
namespace Go.Proofs.YtfcnfkedoihpoaaDoor
open Go.RowKit Go.Proofs.YtfcnfkedoihpoaaDoorW.PrintWords

def pfxL : Nat → List UInt8
  | 0 => []
  | 1 => [48]
  | _ => [48, 120]
def baseN : Nat → Nat
  | 0 => 10
  | 1 => 8
  | _ => 16
/-- A part, written. -/
def wpart (b x : Nat) : List UInt8 := pfxL b ++ digB (baseN b) x
theorem parse_wpart (b x : Nat) (hb : b < 3) (hx : x < 4294967296) : parseL (wpart b x) = some (x : Int) := by
  have hb' : b = 0 ∨ b = 1 ∨ b = 2 := by omega
  have e : min (x : Int) 1099511627776 = x := by omega
  rcases hb' with rfl | rfl | rfl
  · show parseL (digB 10 x) = _
    rw [parse_dec, e]
  · show parseL (48 :: digB 8 x) = _
    rw [parse_oct, e]
  · show parseL (48 :: 120 :: digB 16 x) = _
    rw [parse_hex x 120 (.inl rfl), e]
theorem wpart_dot (b x : Nat) (hb : b < 3) : ∀ c ∈ wpart b x, c ≠ 46 := by
  have hb' : b = 0 ∨ b = 1 ∨ b = 2 := by omega
  intro c hc
  rcases List.mem_append.1 hc with hc | hc
  · rcases hb' with rfl | rfl | rfl
    · simp [pfxL] at hc
    · simp [pfxL] at hc
      subst hc
      decide
    · simp [pfxL] at hc
      rcases hc with rfl | rfl <;> decide
  · refine digB_dot (baseN b) ?_ ?_ x c hc
    all_goals rcases hb' with rfl | rfl | rfl <;> decide
theorem wpart_ne (b x : Nat) : wpart b x ≠ [] := by
  intro h
  exact digB_ne (baseN b) x (List.append_eq_nil_iff.1 h).2
/-- Parts with a point behind each. -/
def preS : List (List UInt8) → List UInt8
  | [] => []
  | p :: ps => p ++ 46 :: preS ps
theorem preS_snoc (p : List UInt8) : ∀ L : List (List UInt8), preS (L ++ [p]) = preS L ++ (p ++ [46])
  | [] => by simp [preS]
  | q :: L => by
    rw [List.cons_append, preS, preS_snoc p L, preS]
    simp
theorem split_pre (r : List UInt8) : ∀ L : List (List UInt8), (∀ p ∈ L, ∀ c ∈ p, c ≠ 46) → splitL (isAt ⟨#[46]⟩) (preS L ++ r) = L ++ splitL (isAt ⟨#[46]⟩) r
  | [], _ => rfl
  | p :: L, h => by
    rw [preS, List.append_assoc, List.cons_append, split_join p _ (h p (by simp)), split_pre r L (fun q hq => h q (by simp [hq]))]
    rfl
theorem four_pre (L : List (List UInt8)) (p : List UInt8) (h : ∀ q ∈ L, ∀ c ∈ q, c ≠ 46) (hp : ∀ c ∈ p, c ≠ 46) (hne : p ≠ []) :
    fourL (preS L ++ p) = fourP (L ++ [p]) ∧ fourL (preS L ++ p ++ [46]) = fourP (L ++ [p]) := by
  constructor
  · have e : (L ++ [p]).getD ((L ++ [p]).length - 1) [] = p := by
      rw [show (L ++ [p]).length - 1 = L.length by simp, getD_snoc]
    rw [fourL, split_pre p L h, split_none p hp, partsF_last _ (by rw [e]; exact hne)]
  · rw [fourL, List.append_assoc, split_pre _ L h, split_join p [] hp, show splitL (isAt ⟨#[46]⟩) [] = [[]] from rfl, show L ++ [p, []] = (L ++ [p]) ++ [[]] by simp, partsF_snoc _ (by simp)]

/-- What is written behind j of k parts, and what is left. -/
def ShortAt (n k j : Nat) (s : List UInt8) (rest : Nat) : Prop :=
  (j < k ∧ rest = n % 256 ^ (4 - j) ∧ ∃ L : List (List UInt8), L.length = j ∧ s = preS L ∧ (∀ p ∈ L, ∀ c ∈ p, c ≠ 46) ∧ ∀ T, sumF k 0 0 (L ++ T) = sumF k j ((n / 256 ^ (4 - j) * 256 ^ (4 - j) : Nat) : Int) T) ∨
    (j = k ∧ fourL s = some (n : Int) ∧ fourL (s ++ [46]) = some (n : Int))
theorem short_start (n k : Nat) (hn : n < 4294967296) (hk : 1 ≤ k) : ShortAt n k 0 [] n := by
  refine .inl ⟨by omega, ?_, [], rfl, rfl, by simp, fun T => ?_⟩
  · show n = n % 4294967296
    omega
  · show sumF k 0 0 T = sumF k 0 ((n / 4294967296 * 4294967296 : Nat) : Int) T
    rw [Nat.div_eq_of_lt hn]
    rfl
theorem short_mid (n k j b : Nat) (s : List UInt8) (rest : Nat) (hk : k ≤ 4) (hb : b < 3) (hj : j + 1 < k) (h : ShortAt n k j s rest) :
    ShortAt n k (j + 1) (s ++ (wpart b (rest / 256 ^ (3 - j)) ++ [46])) (rest - rest / 256 ^ (3 - j) * 256 ^ (3 - j)) := by
  rcases h with ⟨_, hr, L, hL, hs, hd, hT⟩ | ⟨h, _⟩
  · have hj3 : j = 0 ∨ j = 1 ∨ j = 2 := by omega
    have hx : rest / 256 ^ (3 - j) < 256 := by
      rcases hj3 with rfl | rfl | rfl
      all_goals
        simp only [Nat.reduceSub, Nat.reducePow] at hr ⊢
        omega
    refine .inl ⟨hj, ?_, L ++ [wpart b (rest / 256 ^ (3 - j))], by simp [hL], ?_, ?_, fun T => ?_⟩
    · rcases hj3 with rfl | rfl | rfl
      all_goals
        simp only [Nat.reduceSub, Nat.reducePow, Nat.reduceAdd] at hr ⊢
        omega
    · rw [preS_snoc, hs]
    · intro p hp
      rcases List.mem_append.1 hp with hp | hp
      · exact hd p hp
      · rw [List.mem_singleton.1 hp]
        exact wpart_dot b _ hb
    · rw [List.append_assoc, hT, List.singleton_append, sumF, parse_wpart b _ hb (by omega)]
      simp only []
      rw [if_neg (by omega), if_neg (by omega)]
      congr 1
      rcases hj3 with rfl | rfl | rfl
      all_goals
        simp only [Nat.reduceSub, Nat.reducePow, Nat.reduceAdd, Int.reducePow] at hr ⊢
        omega
  · omega
theorem short_last (n k b : Nat) (s : List UInt8) (rest : Nat) (hn : n < 4294967296) (hk : k ≤ 4) (hk1 : 1 ≤ k) (hb : b < 3) (h : ShortAt n k (k - 1) s rest) :
    ShortAt n k k (s ++ wpart b rest) rest := by
  rcases h with ⟨_, hr, L, hL, hs, hd, hT⟩ | ⟨h, _⟩
  · have hf := four_pre L (wpart b rest) hd (wpart_dot b _ hb) (wpart_ne b rest)
    have hp : fourP (L ++ [wpart b rest]) = some (n : Int) := by
      rw [fourP, if_neg (by simp; omega), show (L ++ [wpart b rest]).length = k by simp [hL]; omega, hT, sumF]
      have hk4 : k = 1 ∨ k = 2 ∨ k = 3 ∨ k = 4 := by omega
      rcases hk4 with rfl | rfl | rfl | rfl
      all_goals
        simp only [Nat.reduceSub, Nat.reducePow] at hr
        rw [parse_wpart b _ hb (by omega)]
        simp only [Nat.reduceSub, Nat.reducePow, Nat.reduceAdd, if_true, Int.reducePow]
        rw [if_neg (by omega), sumF]
        congr 1
        omega
    rw [hs]
    exact .inr ⟨rfl, by rw [hf.1, hp], by rw [hf.2, hp]⟩
  · omega
theorem short_end (n k : Nat) (s : List UInt8) (rest : Nat) (h : ShortAt n k k s rest) : fourL s = some (n : Int) ∧ fourL (s ++ [46]) = some (n : Int) := by
  rcases h with ⟨h, _⟩ | ⟨_, h⟩
  · omega
  · exact h
end Go.Proofs.YtfcnfkedoihpoaaDoor
