/- Texts that the claim's row leans on, joined by wip/pack.py: PfP TrP AdB Or AdB2 Rn WWords Iter WLast Kit WApart WFoot WKept WShare WN WMore Base Six1 Pf1 Pf2 Pf3 Pf4 OrI Val -/
import Derived.Test.YtplehdcnnaamkaaGreatDoorProg
import Derived.Laws.Bits64b
import Derived.Laws.RangeString
import Derived.Laws.RangeAny
import Derived.Lib.OthersKept
import Derived.Below
import Derived.Deep.Draws
import Derived.Deep.AppendLies
import Derived.Maps.AppendAt
import Derived.OwnWalk
import Derived.Laws.BytesArg
import Derived.Laws.MakeOwn
import Derived.Laws.OwnMore
import Derived.Deep.OwnRows
import Derived.Tactics
import Derived.Lib.ConvBytes
import Derived.Laws.Slices
import Derived.WalkKit
import Derived.KernelRfl
import Derived.RowKit3
import Derived.Deep.LoopGhost
import Derived.Deep.QuietTactic
import Derived.BigQuiet
import Derived.WideLaws
import Derived.Deep.DeepCutAuto
import Derived.Deep.CutBlock
import Derived.Deep.RegionHeld3
import Derived.Laws.Rows
import Derived.Lib.AppendStr
import Derived.ArgAppend
import Derived.Laws.IdiomCopy
import Derived.RowKit
import Derived.OrdersHeld
import Derived.Laws.BitsLemmas
import Derived.Lib.RuneBytes
import Derived.BigCall
import Derived.Lib.Hide
import Derived.LoopTactic
import Derived.Outline
import Derived.RegionTactic
import Derived.ChangeAlike
import Derived.StillTailTactics
import Derived.Deep.RegionLaw
import Derived.Deep.RegionWith
import Derived.Deep.DeepFit
import Derived.WalkLawsBesides
import Derived.WalkSpells
import Derived.BigRegion
/- Prefixes: bits, masks; plain Lean. -/
namespace Go.Proofs.YtplehdcnnaamkaaGreatDoor

/-- A number without the bits behind a length: its halves. -/
def mHi (hi : Int) (n : Nat) : Int := if n < 64 then hi - hi % 2 ^ (64 - n) else hi
def mLo (lo : Int) (n : Nat) : Int := if n < 64 then 0 else lo - lo % 2 ^ (128 - n)
/-- Is it a prefix? -/
def rightP (hi lo n : Int) : Bool := decide (0 ≤ n ∧ n ≤ 128) && (mHi hi n.toNat == hi && mLo lo n.toNat == lo)
/-- The bit j of a number, from the lowest on. -/
def tb (x : Int) (j : Nat) : Int := x / 2 ^ j % 2
/-- The bit i of a wide number, from the highest on. -/
def pBit (hi lo : Int) (i : Nat) : Int := if i < 64 then tb hi (63 - i) else tb lo (127 - i)
/-- Does a prefix have an address? -/
def hasP (hi lo n a b : Int) : Bool := rightP hi lo n && (mHi a n.toNat == hi && mLo b n.toNat == lo)

theorem tb_nat (a j : Nat) : tb (a : Int) j = if a.testBit j = true then 1 else 0 := by
  have e : tb (a : Int) j = ((a / 2 ^ j % 2 : Nat) : Int) := by
    rw [tb, Int.natCast_emod, Int.natCast_ediv, Int.natCast_pow]
    rfl
  rw [e, Nat.testBit_eq_decide_div_mod_eq]
  by_cases h : a / 2 ^ j % 2 = 1
  · rw [if_pos (decide_eq_true h), h]
    rfl
  · rw [if_neg (fun hh => h (of_decide_eq_true hh)), show a / 2 ^ j % 2 = 0 by omega]
    rfl
theorem tb_01 (x : Int) (j : Nat) : tb x j = 0 ∨ tb x j = 1 := by
  rw [tb]
  omega
theorem tb_mask (x : Int) (k j : Nat) (h0 : 0 ≤ x) : tb (x - x % 2 ^ k) j = if k ≤ j then tb x j else 0 := by
  obtain ⟨a, rfl⟩ : ∃ a : Nat, x = a := ⟨x.toNat, by omega⟩
  have e : (a : Int) - (a : Int) % 2 ^ k = ((2 ^ k * (a / 2 ^ k) : Nat) : Int) := by
    have h1 := Int.mul_ediv_add_emod (a : Int) (2 ^ k)
    rw [Int.natCast_mul, Int.natCast_ediv, Int.natCast_pow]
    have h2 : ((2 : Nat) : Int) = 2 := rfl
    rw [h2]
    omega
  rw [e, tb_nat, tb_nat, Nat.testBit_two_pow_mul, Nat.testBit_div_two_pow]
  by_cases h : k ≤ j
  · rw [if_pos h, show j - k + k = j by omega]
    simp [h]
  · rw [if_neg h]
    simp [h]
theorem tb_ext (x y : Int) (hx : 0 ≤ x ∧ x < 18446744073709551616) (hy : 0 ≤ y ∧ y < 18446744073709551616) (h : ∀ j, j < 64 → tb x j = tb y j) : x = y := by
  obtain ⟨a, rfl⟩ : ∃ a : Nat, x = a := ⟨x.toNat, by omega⟩
  obtain ⟨b, rfl⟩ : ∃ b : Nat, y = b := ⟨y.toNat, by omega⟩
  congr 1
  apply Nat.eq_of_testBit_eq
  intro j
  by_cases hj : j < 64
  · have := h j hj
    rw [tb_nat, tb_nat] at this
    cases ha : a.testBit j <;> cases hb : b.testBit j <;> simp [ha, hb] at this ⊢
  · have hp : 2 ^ 64 ≤ 2 ^ j := Nat.pow_le_pow_right (by omega) (by omega)
    have h64 : 2 ^ 64 = 18446744073709551616 := rfl
    rw [Nat.testBit_lt_two_pow (by omega : a < 2 ^ j), Nat.testBit_lt_two_pow (by omega : b < 2 ^ j)]
theorem pBit_01 (hi lo : Int) (i : Nat) : pBit hi lo i = 0 ∨ pBit hi lo i = 1 := by
  rw [pBit]
  split <;> exact tb_01 _ _
theorem tb_zero (j : Nat) : tb 0 j = 0 := by rw [tb, Int.zero_ediv]; rfl
theorem pow64 (k : Nat) : (0 : Int) < 2 ^ k := Int.pow_pos (by omega)
theorem mHi_bd (hi : Int) (n : Nat) (h : 0 ≤ hi ∧ hi < 18446744073709551616) : 0 ≤ mHi hi n ∧ mHi hi n < 18446744073709551616 := by
  rw [mHi]
  have h1 := Int.emod_nonneg hi (Int.ne_of_gt (pow64 (64 - n)))
  have h2 := Int.mul_ediv_add_emod hi (2 ^ (64 - n))
  have h3 : 0 ≤ 2 ^ (64 - n) * (hi / 2 ^ (64 - n)) := Int.mul_nonneg (Int.le_of_lt (pow64 _)) (Int.ediv_nonneg h.1 (Int.le_of_lt (pow64 _)))
  split <;> omega
theorem mLo_bd (lo : Int) (n : Nat) (h : 0 ≤ lo ∧ lo < 18446744073709551616) : 0 ≤ mLo lo n ∧ mLo lo n < 18446744073709551616 := by
  rw [mLo]
  have h1 := Int.emod_nonneg lo (Int.ne_of_gt (pow64 (128 - n)))
  have h2 := Int.mul_ediv_add_emod lo (2 ^ (128 - n))
  have h3 : 0 ≤ 2 ^ (128 - n) * (lo / 2 ^ (128 - n)) := Int.mul_nonneg (Int.le_of_lt (pow64 _)) (Int.ediv_nonneg h.1 (Int.le_of_lt (pow64 _)))
  split <;> omega
/-- The bits of what is masked. -/
theorem pBit_mask (hi lo : Int) (n i : Nat) (h0 : 0 ≤ hi) (h1 : 0 ≤ lo) (hi' : i < 128) : pBit (mHi hi n) (mLo lo n) i = if i < n then pBit hi lo i else 0 := by
  rw [pBit, pBit, mHi, mLo]
  by_cases h : i < 64
  · rw [if_pos h, if_pos h]
    by_cases hn : n < 64
    · rw [if_pos hn, tb_mask _ _ _ h0]
      by_cases hin : i < n
      · rw [if_pos hin, if_pos (by omega)]
      · rw [if_neg hin, if_neg (by omega)]
    · rw [if_neg hn, if_pos (by omega)]
  · rw [if_neg h, if_neg h]
    by_cases hn : n < 64
    · rw [if_pos hn, if_neg (by omega), tb_zero]
    · rw [if_neg hn, tb_mask _ _ _ h1]
      by_cases hin : i < n
      · rw [if_pos hin, if_pos (by omega)]
      · rw [if_neg hin, if_neg (by omega)]
theorem pBit_ext (hi lo hi' lo' : Int) (h0 : 0 ≤ hi ∧ hi < 18446744073709551616) (h1 : 0 ≤ lo ∧ lo < 18446744073709551616) (h2 : 0 ≤ hi' ∧ hi' < 18446744073709551616) (h3 : 0 ≤ lo' ∧ lo' < 18446744073709551616)
    (h : ∀ i, i < 128 → pBit hi lo i = pBit hi' lo' i) : hi = hi' ∧ lo = lo' := by
  constructor
  · refine tb_ext _ _ h0 h2 fun j hj => ?_
    have := h (63 - j) (by omega)
    rw [pBit, pBit, if_pos (by omega), if_pos (by omega), show 63 - (63 - j) = j by omega] at this
    exact this
  · refine tb_ext _ _ h1 h3 fun j hj => ?_
    have := h (127 - j) (by omega)
    rw [pBit, pBit, if_neg (by omega), if_neg (by omega), show 127 - (127 - j) = j by omega] at this
    exact this
/-- Masked it is another one just where the bits ahead are its own, and none are behind. -/
theorem mask_eq_iff (a b hi lo : Int) (n : Nat) (ha : 0 ≤ a ∧ a < 18446744073709551616) (hb : 0 ≤ b ∧ b < 18446744073709551616) (h0 : 0 ≤ hi ∧ hi < 18446744073709551616) (h1 : 0 ≤ lo ∧ lo < 18446744073709551616) :
    (mHi a n = hi ∧ mLo b n = lo) ↔ ∀ i, i < 128 → (if i < n then pBit a b i else 0) = pBit hi lo i := by
  constructor
  · rintro ⟨rfl, rfl⟩ i hi
    rw [pBit_mask _ _ _ _ ha.1 hb.1 hi]
  · intro h
    refine pBit_ext _ _ _ _ (mHi_bd _ _ ha) (mLo_bd _ _ hb) h0 h1 fun i hi => ?_
    rw [pBit_mask _ _ _ _ ha.1 hb.1 hi]
    exact h i hi
theorem rightP_iff (hi lo : Int) (n : Nat) (h0 : 0 ≤ hi ∧ hi < 18446744073709551616) (h1 : 0 ≤ lo ∧ lo < 18446744073709551616) :
    rightP hi lo n = true ↔ n ≤ 128 ∧ ∀ i, n ≤ i → i < 128 → pBit hi lo i = 0 := by
  rw [rightP, Int.toNat_natCast, Bool.and_eq_true, Bool.and_eq_true, decide_eq_true_iff, beq_iff_eq, beq_iff_eq, mask_eq_iff hi lo hi lo n h0 h1 h0 h1]
  constructor
  · rintro ⟨hn, h⟩
    refine ⟨by omega, fun i h2 h3 => ?_⟩
    have := h i h3
    rw [if_neg (by omega)] at this
    exact this.symm
  · rintro ⟨hn, h⟩
    refine ⟨by omega, fun i h3 => ?_⟩
    by_cases hin : i < n
    · rw [if_pos hin]
    · rw [if_neg hin, h i (by omega) h3]
theorem rightP_neg (hi lo n : Int) (h : ¬ (0 ≤ n ∧ n ≤ 128)) : rightP hi lo n = false := by
  rw [rightP, decide_eq_false h, Bool.false_and]
theorem rightP_bd (hi lo n : Int) (h : rightP hi lo n = true) : 0 ≤ n ∧ n ≤ 128 := by
  by_cases hn : 0 ≤ n ∧ n ≤ 128
  · exact hn
  · rw [rightP_neg _ _ _ hn] at h
    cases h
/-- The document's Has: the bits ahead are the same. -/
theorem hasP_iff (hi lo a b : Int) (n : Nat) (h0 : 0 ≤ hi ∧ hi < 18446744073709551616) (h1 : 0 ≤ lo ∧ lo < 18446744073709551616) (ha : 0 ≤ a ∧ a < 18446744073709551616) (hb : 0 ≤ b ∧ b < 18446744073709551616) :
    hasP hi lo n a b = true ↔ rightP hi lo n = true ∧ ∀ i, i < n → pBit hi lo i = pBit a b i := by
  rw [hasP, Int.toNat_natCast, Bool.and_eq_true, Bool.and_eq_true, beq_iff_eq, beq_iff_eq, mask_eq_iff a b hi lo n ha hb h0 h1]
  constructor
  · rintro ⟨hr, h⟩
    have hn := (rightP_iff hi lo n h0 h1).1 hr
    refine ⟨hr, fun i hin => ?_⟩
    have := h i (by omega)
    rw [if_pos hin] at this
    exact this.symm
  · rintro ⟨hr, h⟩
    have hn := (rightP_iff hi lo n h0 h1).1 hr
    refine ⟨hr, fun i hi => ?_⟩
    by_cases hin : i < n
    · rw [if_pos hin, h i hin]
    · rw [if_neg hin, hn.2 i (by omega) hi]
end Go.Proofs.YtplehdcnnaamkaaGreatDoor

/- Tries: prefixes as paths, lists of prefixes with verdicts; plain Lean. -/
namespace Go.Proofs.YtplehdcnnaamkaaGreatDoor

/-- A prefix: its halves and its length. -/
abbrev P3 := Int × Int × Int
def okP (p : P3) : Prop := (0 ≤ p.1 ∧ p.1 < 18446744073709551616) ∧ 0 ≤ p.2.1 ∧ p.2.1 < 18446744073709551616
def rP (p : P3) : Bool := rightP p.1 p.2.1 p.2.2
def bitB (hi lo : Int) (i : Nat) : Bool := pBit hi lo i == 1
/-- The way that the first bits tell. -/
def pathN (hi lo : Int) (n : Nat) : List Bool := (List.range n).map (bitB hi lo)
def pathP (p : P3) : List Bool := pathN p.1 p.2.1 p.2.2.toNat
/-- Does a prefix stand ahead of another one? -/
def befB (a b : P3) : Bool := if a.1 ≠ b.1 then decide (a.1 < b.1) else if a.2.1 ≠ b.2.1 then decide (a.2.1 < b.2.1) else decide (a.2.2 < b.2.2)
theorem befB_iff (a b : P3) : befB a b = true ↔ a.1 < b.1 ∨ (a.1 = b.1 ∧ (a.2.1 < b.2.1 ∨ (a.2.1 = b.2.1 ∧ a.2.2 < b.2.2))) := by
  rw [befB]
  split
  · rw [decide_eq_true_iff]; omega
  · split
    · rw [decide_eq_true_iff]; omega
    · rw [decide_eq_true_iff]; omega
theorem befB_asymm {a b : P3} (h : befB a b = true) (h' : befB b a = true) : False := by
  rw [befB_iff] at h h'
  omega
theorem befB_trans {a b c : P3} (h : befB a b = true) (h' : befB b c = true) : befB a c = true := by
  rw [befB_iff] at h h' ⊢
  omega
theorem befB_total (a b : P3) (h : befB a b = false) : a = b ∨ befB b a = true := by
  have h' : ¬ befB a b = true := by rw [h]; exact Bool.false_ne_true
  rw [befB_iff] at h'
  rw [befB_iff]
  obtain ⟨a1, a2, a3⟩ := a
  obtain ⟨b1, b2, b3⟩ := b
  simp only [Prod.mk.injEq] at *
  omega
theorem pathN_len (hi lo : Int) (n : Nat) : (pathN hi lo n).length = n := by simp [pathN]
theorem pathN_succ (hi lo : Int) (n : Nat) : pathN hi lo (n + 1) = pathN hi lo n ++ [bitB hi lo n] := by
  simp [pathN, List.range_succ]
theorem pathN_eq (hi lo a b : Int) (n m : Nat) : pathN hi lo n = pathN a b m ↔ n = m ∧ ∀ i, i < n → bitB hi lo i = bitB a b i := by
  constructor
  · intro h
    have hl := congrArg List.length h
    rw [pathN_len, pathN_len] at hl
    refine ⟨hl, fun i hi => ?_⟩
    have := congrArg (·[i]?) h
    simpa [pathN, hi, show i < m by omega] using this
  · rintro ⟨rfl, h⟩
    apply List.map_congr_left
    intro i hi
    exact h i (List.mem_range.1 hi)
theorem bitB_pBit (hi lo a b : Int) (i : Nat) : bitB hi lo i = bitB a b i ↔ pBit hi lo i = pBit a b i := by
  rw [bitB, bitB]
  rcases pBit_01 hi lo i with h | h <;> rcases pBit_01 a b i with h' | h' <;> rw [h, h'] <;> decide
theorem rP_len (p : P3) (h : rP p = true) : 0 ≤ p.2.2 ∧ p.2.2 ≤ 128 := rightP_bd _ _ _ h
theorem pathP_len (p : P3) (h : rP p = true) : (pathP p).length = p.2.2.toNat ∧ (pathP p).length ≤ 128 := by
  have := rP_len p h
  rw [pathP, pathN_len]
  omega
theorem rP_zero (p : P3) (ho : okP p) (h : rP p = true) (i : Nat) (h1 : p.2.2.toNat ≤ i) (h2 : i < 128) : pBit p.1 p.2.1 i = 0 := by
  have hl := rP_len p h
  have e : p.2.2 = ((p.2.2.toNat : Nat) : Int) := by omega
  rw [rP, e] at h
  exact ((rightP_iff _ _ _ ho.1 ho.2).1 h).2 i h1 h2
theorem pathP_inj (p q : P3) (hp : okP p) (hq : okP q) (rp : rP p = true) (rq : rP q = true) (h : pathP p = pathP q) : p = q := by
  have lp := rP_len p rp
  have lq := rP_len q rq
  obtain ⟨hn, hb⟩ := (pathN_eq _ _ _ _ _ _).1 h
  have := pBit_ext p.1 p.2.1 q.1 q.2.1 hp.1 hp.2 hq.1 hq.2 fun i hi => by
    by_cases hin : i < p.2.2.toNat
    · exact (bitB_pBit _ _ _ _ _).1 (hb i hin)
    · rw [rP_zero p hp rp i (by omega) hi, rP_zero q hq rq i (by omega) hi]
  obtain ⟨p1, p2, p3⟩ := p
  obtain ⟨q1, q2, q3⟩ := q
  simp only [Prod.mk.injEq] at *
  omega
theorem has_path (p : P3) (a b : Int) (hp : okP p) (ha : 0 ≤ a ∧ a < 18446744073709551616) (hb : 0 ≤ b ∧ b < 18446744073709551616) (rp : rP p = true) :
    hasP p.1 p.2.1 p.2.2 a b = true ↔ pathP p = pathN a b p.2.2.toNat := by
  have lp := rP_len p rp
  have e : p.2.2 = ((p.2.2.toNat : Nat) : Int) := by omega
  have h := hasP_iff p.1 p.2.1 a b p.2.2.toNat hp.1 hp.2 ha hb
  rw [← e] at h
  rw [h, pathP, pathN_eq]
  constructor
  · rintro ⟨_, h2⟩
    exact ⟨rfl, fun i hi => (bitB_pBit _ _ _ _ _).2 (h2 i hi)⟩
  · rintro ⟨_, h2⟩
    exact ⟨rp, fun i hi => (bitB_pBit _ _ _ _ _).1 (h2 i hi)⟩
theorem has_right (p : P3) (a b : Int) (h : hasP p.1 p.2.1 p.2.2 a b = true) : rP p = true := by
  rw [hasP, Bool.and_eq_true] at h
  exact h.1

/-- The document's lists. -/
abbrev E4 := P3 × Int
def getL : List E4 → P3 → Option Int
  | [], _ => none
  | x :: l, p => if x.1 = p then some x.2 else getL l p
def dropL (l : List E4) (p : P3) : List E4 := l.filter fun x => decide (x.1 ≠ p)
def insL (p : P3) (v : Int) : List E4 → List E4
  | [] => [(p, v)]
  | x :: l => if befB p x.1 = true then (p, v) :: x :: l else x :: insL p v l
def putL (l : List E4) (p : P3) (v : Int) : List E4 := insL p v (dropL l p)

/-- What a trie's nodes tell: at a way a verdict and its prefix. -/
structure Inv (I : List Bool → Option (Int × P3)) (L : List E4) : Prop where
  node : ∀ π v p, I π = some (v, p) → okP p ∧ rP p = true ∧ pathP p = π ∧ (p, v) ∈ L
  entry : ∀ e ∈ L, okP e.1 ∧ rP e.1 = true ∧ I (pathP e.1) = some (e.2, e.1)
  sorted : L.Pairwise fun x y => befB x.1 y.1 = true
theorem Inv.nil : Inv (fun _ => none) [] := ⟨fun _ _ _ h => by (cases h), fun _ h => by (cases h), List.Pairwise.nil⟩
theorem Inv.one {I : List Bool → Option (Int × P3)} {L : List E4} (h : Inv I L) {p : P3} {v v' : Int} (h1 : (p, v) ∈ L) (h2 : (p, v') ∈ L) : v = v' := by
  have e1 := (h.entry _ h1).2.2
  have e2 := (h.entry _ h2).2.2
  simp only at e1 e2
  rw [e1] at e2
  simpa using e2
theorem getL_mem : ∀ (l : List E4) (p : P3) (v : Int), getL l p = some v → (p, v) ∈ l
  | [], _, _, h => by cases h
  | x :: l, p, v, h => by
    rw [getL] at h
    split at h
    · rename_i hx
      obtain rfl := Option.some.inj h
      subst hx
      exact List.mem_cons_self ..
    · exact List.mem_cons_of_mem _ (getL_mem l p v h)
theorem getL_none : ∀ (l : List E4) (p : P3), getL l p = none → ∀ v, (p, v) ∉ l
  | [], _, _, _, h => by cases h
  | x :: l, p, h, v, hm => by
    rw [getL] at h
    split at h
    · cases h
    · rename_i hx
      rcases List.mem_cons.1 hm with e | e
      · exact hx (by rw [← e])
      · exact getL_none l p h v e
theorem Inv.get {I : List Bool → Option (Int × P3)} {L : List E4} (h : Inv I L) (p : P3) (hp : okP p) (rp : rP p = true) : (I (pathP p)).map (·.1) = getL L p := by
  cases hg : getL L p with
  | some v =>
    have := (h.entry _ (getL_mem L p v hg)).2.2
    simp only at this
    rw [this]
    rfl
  | none =>
    cases hi : I (pathP p) with
    | none => rfl
    | some w =>
      obtain ⟨v, q⟩ := w
      obtain ⟨h1, h2, h3, h4⟩ := h.node _ _ _ hi
      have := pathP_inj q p h1 hp h2 rp h3
      subst this
      exact absurd h4 (getL_none L q hg v)
theorem mem_dropL (l : List E4) (p : P3) (x : E4) : x ∈ dropL l p ↔ x ∈ l ∧ x.1 ≠ p := by simp [dropL]
theorem mem_insL (p : P3) (v : Int) : ∀ (l : List E4) (x : E4), x ∈ insL p v l ↔ x = (p, v) ∨ x ∈ l
  | [], x => by simp [insL]
  | y :: l, x => by
    rw [insL]
    split
    · simp
    · rw [List.mem_cons, mem_insL p v l x, List.mem_cons]
      constructor
      · rintro (h | h | h)
        · exact .inr (.inl h)
        · exact .inl h
        · exact .inr (.inr h)
      · rintro (h | h | h)
        · exact .inr (.inl h)
        · exact .inl h
        · exact .inr (.inr h)
theorem insL_sorted (p : P3) (v : Int) : ∀ l : List E4, (l.Pairwise fun x y => befB x.1 y.1 = true) → (∀ x ∈ l, x.1 ≠ p) → (insL p v l).Pairwise fun x y => befB x.1 y.1 = true
  | [], _, _ => by simp [insL]
  | y :: l, h, hn => by
    rw [List.pairwise_cons] at h
    rw [insL]
    split
    · rename_i hb
      rw [List.pairwise_cons, List.pairwise_cons]
      refine ⟨fun z hz => ?_, h⟩
      rcases List.mem_cons.1 hz with e | e
      · rw [e]; exact hb
      · exact befB_trans hb (h.1 z e)
    · rename_i hb
      rw [List.pairwise_cons]
      refine ⟨fun z hz => ?_, insL_sorted p v l h.2 fun x hx => hn x (List.mem_cons_of_mem _ hx)⟩
      rcases (mem_insL p v l z).1 hz with e | e
      · rw [e]
        rcases befB_total p y.1 (by simpa using hb) with e' | e'
        · exact absurd e'.symm (hn y (List.mem_cons_self ..))
        · exact e'
      · exact h.1 z e
theorem Inv.drop {I : List Bool → Option (Int × P3)} {L : List E4} (h : Inv I L) (p : P3) (hp : okP p) (rp : rP p = true) {I' : List Bool → Option (Int × P3)} (h1 : I' (pathP p) = none) (h2 : ∀ π, π ≠ pathP p → I' π = I π) : Inv I' (dropL L p) := by
  refine ⟨fun π v q hq => ?_, fun e he => ?_, h.sorted.filter _⟩
  · by_cases e : π = pathP p
    · rw [e, h1] at hq; cases hq
    · rw [h2 π e] at hq
      obtain ⟨a, b, c, d⟩ := h.node _ _ _ hq
      refine ⟨a, b, c, (mem_dropL _ _ _).2 ⟨d, fun e' => e ?_⟩⟩
      rw [← c, show q = p from e']
  · obtain ⟨m, ne⟩ := (mem_dropL _ _ _).1 he
    obtain ⟨a, b, c⟩ := h.entry e m
    refine ⟨a, b, ?_⟩
    rw [h2 _ fun e' => ne (pathP_inj _ _ a hp b rp e')]
    exact c
theorem Inv.put {I : List Bool → Option (Int × P3)} {L : List E4} (h : Inv I L) (p : P3) (v : Int) (hp : okP p) (rp : rP p = true) {I' : List Bool → Option (Int × P3)} (h1 : I' (pathP p) = some (v, p)) (h2 : ∀ π, π ≠ pathP p → I' π = I π) : Inv I' (putL L p v) := by
  refine ⟨fun π u q hq => ?_, fun e he => ?_, insL_sorted p v _ (h.sorted.filter _) fun x hx => ((mem_dropL _ _ _).1 hx).2⟩
  · by_cases e : π = pathP p
    · rw [e, h1] at hq
      obtain ⟨rfl, rfl⟩ : v = u ∧ p = q := by simpa using hq
      exact ⟨hp, rp, e.symm, (mem_insL _ _ _ _).2 (.inl rfl)⟩
    · rw [h2 π e] at hq
      obtain ⟨a, b, c, d⟩ := h.node _ _ _ hq
      refine ⟨a, b, c, (mem_insL _ _ _ _).2 (.inr ((mem_dropL _ _ _).2 ⟨d, fun e' => e ?_⟩))⟩
      rw [← c, show q = p from e']
  · rcases (mem_insL _ _ _ _).1 he with e' | e'
    · subst e'
      exact ⟨hp, rp, h1⟩
    · obtain ⟨m, ne⟩ := (mem_dropL _ _ _).1 e'
      obtain ⟨a, b, c⟩ := h.entry e m
      refine ⟨a, b, ?_⟩
      rw [h2 _ fun e' => ne (pathP_inj _ _ a hp b rp e')]
      exact c

/-- What is found on a way of so many steps: the last one. -/
def findI (I : List Bool → Option (Int × P3)) (a b : Int) : Nat → Option (Int × P3)
  | 0 => none
  | i + 1 => match I (pathN a b i) with
    | some x => some x
    | none => findI I a b i
theorem findI_spec (I : List Bool → Option (Int × P3)) (a b : Int) : ∀ k, (findI I a b k = none ∧ ∀ i, i < k → I (pathN a b i) = none) ∨ ∃ i x, i < k ∧ findI I a b k = some x ∧ I (pathN a b i) = some x ∧ ∀ j, i < j → j < k → I (pathN a b j) = none
  | 0 => .inl ⟨rfl, fun i hi => by omega⟩
  | k + 1 => by
    rw [findI]
    cases hI : I (pathN a b k) with
    | some x => exact .inr ⟨k, x, by omega, rfl, hI, fun j h1 h2 => by omega⟩
    | none =>
      rcases findI_spec I a b k with ⟨h1, h2⟩ | ⟨i, x, h1, h2, h3, h4⟩
      · refine .inl ⟨h1, fun i hi => ?_⟩
        by_cases e : i = k
        · rw [e]; exact hI
        · exact h2 i (by omega)
      · refine .inr ⟨i, x, by omega, h2, h3, fun j h5 h6 => ?_⟩
        by_cases e : j = k
        · rw [e]; exact hI
        · exact h4 j h5 (by omega)
theorem findI_more (I : List Bool → Option (Int × P3)) (a b : Int) (k : Nat) (h : ∀ i, k ≤ i → I (pathN a b i) = none) : ∀ d, findI I a b (k + d) = findI I a b k
  | 0 => rfl
  | d + 1 => by
    rw [← Nat.add_assoc, findI, h (k + d) (by omega)]
    exact findI_more I a b k h d
/-- What is told of the longest one of a list that has an address. -/
def Best (a b : Int) (l : List E4) (o : Option E4) : Prop :=
  match o with
  | none => ∀ e ∈ l, hasP e.1.1 e.1.2.1 e.1.2.2 a b = false
  | some e => e ∈ l ∧ hasP e.1.1 e.1.2.1 e.1.2.2 a b = true ∧ ∀ x ∈ l, hasP x.1.1 x.1.2.1 x.1.2.2 a b = true → x.1.2.2 ≤ e.1.2.2
/-- One more is asked. -/
def bestS (a b : Int) (best : Option E4) (x : E4) : Option E4 :=
  if hasP x.1.1 x.1.2.1 x.1.2.2 a b = true then (match best with | none => some x | some y => if y.1.2.2 < x.1.2.2 then some x else some y) else best
theorem Best.step {a b : Int} {l : List E4} {o : Option E4} (h : Best a b l o) (x : E4) : Best a b (l ++ [x]) (bestS a b o x) := by
  unfold bestS
  by_cases hx : hasP x.1.1 x.1.2.1 x.1.2.2 a b = true
  · rw [if_pos hx]
    cases o with
    | none =>
      refine ⟨by simp, hx, fun y hy hh => ?_⟩
      rcases List.mem_append.1 hy with e | e
      · rw [h y e] at hh; cases hh
      · obtain rfl : y = x := by simpa using e
        exact Int.le_refl _
    | some e =>
      obtain ⟨h1, h2, h3⟩ := h
      by_cases hlt : e.1.2.2 < x.1.2.2
      · simp only [if_pos hlt]
        refine ⟨by simp, hx, fun y hy hh => ?_⟩
        rcases List.mem_append.1 hy with e' | e'
        · have := h3 y e' hh; omega
        · obtain rfl : y = x := by simpa using e'
          exact Int.le_refl _
      · simp only [if_neg hlt]
        refine ⟨by simp [h1], h2, fun y hy hh => ?_⟩
        rcases List.mem_append.1 hy with e' | e'
        · exact h3 y e' hh
        · obtain rfl : y = x := by simpa using e'
          omega
  · rw [if_neg hx]
    cases o with
    | none =>
      intro y hy
      rcases List.mem_append.1 hy with e | e
      · exact h y e
      · obtain rfl : y = x := by simpa using e
        simpa using hx
    | some e =>
      obtain ⟨h1, h2, h3⟩ := h
      refine ⟨by simp [h1], h2, fun y hy hh => ?_⟩
      rcases List.mem_append.1 hy with e' | e'
      · exact h3 y e' hh
      · obtain rfl : y = x := by simpa using e'
        exact absurd hh hx
/-- What a trie finds is the longest one of the list. -/
theorem Inv.find {I : List Bool → Option (Int × P3)} {L : List E4} (h : Inv I L) (a b : Int) (ha : 0 ≤ a ∧ a < 18446744073709551616) (hb : 0 ≤ b ∧ b < 18446744073709551616) : Best a b L ((findI I a b 129).map fun x => (x.2, x.1)) := by
  have at_ : ∀ e ∈ L, hasP e.1.1 e.1.2.1 e.1.2.2 a b = true → I (pathN a b e.1.2.2.toNat) = some (e.2, e.1) ∧ e.1.2.2.toNat < 129 ∧ 0 ≤ e.1.2.2 := fun e he hh => by
    obtain ⟨o, r, c⟩ := h.entry e he
    have := rP_len _ r
    rw [has_path e.1 a b o ha hb r] at hh
    exact ⟨by rw [← hh]; exact c, by omega, this.1⟩
  rcases findI_spec I a b 129 with ⟨h1, h2⟩ | ⟨i, x, h1, h2, h3, h4⟩
  · rw [h1]
    intro e he
    cases hh : hasP e.1.1 e.1.2.1 e.1.2.2 a b with
    | false => rfl
    | true =>
      obtain ⟨q1, q2, _⟩ := at_ e he hh
      rw [h2 _ q2] at q1
      cases q1
  · rw [h2]
    obtain ⟨v, p⟩ := x
    obtain ⟨o, r, c, m⟩ := h.node _ _ _ h3
    have hl := congrArg List.length c
    rw [(pathP_len p r).1, pathN_len] at hl
    have lp := rP_len _ r
    refine ⟨m, ?_, fun y hy hh => ?_⟩
    · show hasP p.1 p.2.1 p.2.2 a b = true
      rw [has_path p a b o ha hb r, c, hl]
    · obtain ⟨q1, q2, q3⟩ := at_ y hy hh
      show y.1.2.2 ≤ p.2.2
      exact Decidable.byContradiction fun hn => by
        rw [h4 y.1.2.2.toNat (by omega) q2] at q1
        cases q1
/-- The longest one is one alone. -/
theorem Inv.best_one {I : List Bool → Option (Int × P3)} {L : List E4} (h : Inv I L) (a b : Int) (ha : 0 ≤ a ∧ a < 18446744073709551616) (hb : 0 ≤ b ∧ b < 18446744073709551616) {o o' : Option E4} (h1 : Best a b L o) (h2 : Best a b L o') : o = o' := by
  cases o with
  | none =>
    cases o' with
    | none => rfl
    | some e =>
      have := h1 e h2.1
      rw [h2.2.1] at this
      cases this
  | some e =>
    cases o' with
    | none =>
      have := h2 e h1.1
      rw [h1.2.1] at this
      cases this
    | some e' =>
      obtain ⟨m, hh, hm⟩ := h1
      obtain ⟨m', hh', hm'⟩ := h2
      have l1 := hm e' m' hh'
      have l2 := hm' e m hh
      obtain ⟨o1, r1, c1⟩ := h.entry e m
      obtain ⟨o2, r2, c2⟩ := h.entry e' m'
      rw [has_path e.1 a b o1 ha hb r1] at hh
      rw [has_path e'.1 a b o2 ha hb r2] at hh'
      rw [hh, show e.1.2.2 = e'.1.2.2 by omega, ← hh', c2] at c1
      obtain ⟨e1, e2⟩ := e
      obtain ⟨f1, f2⟩ := e'
      simp only [Option.some.injEq, Prod.mk.injEq] at c1
      rw [c1.1, c1.2]
end Go.Proofs.YtplehdcnnaamkaaGreatDoor

/- Bits struck from a number: plain Lean. -/
namespace Go.Proofs.YtplehdcnnaamkaaGreatDoor

theorem bv_strike (x y : BitVec 64) : (x &&& ~~~y).toNat = x.toNat - (x.toNat &&& y.toNat) := by
  have h1 : x = (x &&& y) + (x &&& ~~~y) := by
    rw [BitVec.add_eq_or_of_and_eq_zero]
    · ext i
      simp
      cases x[i] <;> cases y[i] <;> rfl
    · ext i
      simp
      cases x[i] <;> cases y[i] <;> simp
  have h2 := congrArg BitVec.toNat h1
  rw [BitVec.toNat_add, BitVec.toNat_and] at h2
  have h3 : x.toNat &&& y.toNat ≤ x.toNat := Nat.and_le_left
  have h4 := x.isLt
  have h5 := (x &&& ~~~y).isLt
  omega
theorem strike_u64 (a b : Nat) (ha : a < 18446744073709551616) (hb : b < 18446744073709551616) : bits .andNot .u64 (a : Int) (b : Int) = ((a - (a &&& b) : Nat) : Int) := by
  have h1 : (BitVec.ofInt 64 (a : Int)).toNat = a := by
    rw [BitVec.ofInt_natCast, BitVec.toNat_ofNat]; exact Nat.mod_eq_of_lt (by omega)
  have h2 : (BitVec.ofInt 64 (b : Int)).toNat = b := by
    rw [BitVec.ofInt_natCast, BitVec.toNat_ofNat]; exact Nat.mod_eq_of_lt (by omega)
  show IntKind.u64.wrap ((BitVec.ofInt 64 (a : Int) &&& ~~~BitVec.ofInt 64 (b : Int)).toNat : Int) = _
  rw [bv_strike, h1, h2, show ∀ n, IntKind.u64.wrap n = n % 18446744073709551616 from fun n => by simp [IntKind.wrap, IntKind.signed, IntKind.bits]]
  omega
/-- The lowest bits struck. -/
theorem strike_low (x : Int) (k : Nat) (h0 : 0 ≤ x) (h1 : x < 18446744073709551616) (hk : k ≤ 64) : bits .andNot .u64 x (2 ^ k - 1) = x - x % 2 ^ k := by
  obtain ⟨a, rfl⟩ : ∃ a : Nat, x = a := ⟨x.toNat, by omega⟩
  have hp : 2 ^ k ≤ 18446744073709551616 := (Nat.pow_le_pow_right (by omega) hk : 2 ^ k ≤ 2 ^ 64)
  have hq : 0 < 2 ^ k := Nat.two_pow_pos k
  have e : (2 : Int) ^ k - 1 = ((2 ^ k - 1 : Nat) : Int) := by
    rw [Int.natCast_sub (by omega), Int.natCast_pow]
    rfl
  rw [e, strike_u64 _ _ (by omega) (by omega), Nat.and_two_pow_sub_one_eq_mod]
  have : a % 2 ^ k ≤ a := Nat.mod_le _ _
  rw [Int.natCast_sub this, Int.natCast_emod, Int.natCast_pow]
  rfl
theorem and_pow (a i : Nat) : a &&& 2 ^ i = if a.testBit i = true then 2 ^ i else 0 := by
  apply Nat.eq_of_testBit_eq
  intro j
  rw [Nat.testBit_and, Nat.testBit_two_pow]
  by_cases h : a.testBit i = true
  · rw [if_pos h, Nat.testBit_two_pow]
    by_cases hij : i = j
    · subst hij
      simp [h]
    · simp [hij]
  · rw [if_neg h, Nat.zero_testBit]
    by_cases hij : i = j
    · subst hij
      simpa using h
    · simp [hij]
/-- The bit 25 struck. -/
theorem strike_25 (x : Int) (h0 : 0 ≤ x) (h1 : x < 4294967296) : bits .andNot .u64 x 33554432 = x - (if x / 33554432 % 2 = 1 then 33554432 else 0) := by
  obtain ⟨a, rfl⟩ : ∃ a : Nat, x = a := ⟨x.toNat, by omega⟩
  have e := strike_u64 a 33554432 (by omega) (by omega)
  rw [show (33554432 : Nat) = 2 ^ 25 from rfl, and_pow, Nat.testBit_eq_decide_div_mod_eq] at e
  rw [show ((33554432 : Int)) = ((2 ^ 25 : Nat) : Int) from rfl, e]
  by_cases h : a / 33554432 % 2 = 1
  · have h' : decide (a / 2 ^ 25 % 2 = 1) = true := decide_eq_true h
    rw [if_pos h', if_pos (by omega)]
    omega
  · have h' : ¬ decide (a / 2 ^ 25 % 2 = 1) = true := fun hh => h (of_decide_eq_true hh)
    rw [if_neg h', if_neg (by omega)]
    omega
/-- All bits turned. -/
theorem xor_max32 (x : Int) (h0 : 0 ≤ x) (h1 : x < 4294967296) : bits .xor .u32 IntKind.u32.max x = 4294967295 - x := by
  obtain ⟨a, rfl⟩ : ∃ a : Nat, x = a := ⟨x.toNat, by omega⟩
  have e1 : (BitVec.ofInt 32 (a : Int)).toNat = a := by
    rw [BitVec.ofInt_natCast, BitVec.toNat_ofNat]; exact Nat.mod_eq_of_lt (by omega)
  show IntKind.u32.wrap ((BitVec.ofInt 32 IntKind.u32.max ^^^ BitVec.ofInt 32 (a : Int)).toNat : Int) = _
  rw [show BitVec.ofInt 32 IntKind.u32.max = BitVec.allOnes 32 from by decide, BitVec.allOnes_xor, BitVec.toNat_not, e1, show ∀ n, IntKind.u32.wrap n = n % 4294967296 from fun n => by simp [IntKind.wrap, IntKind.signed, IntKind.bits]]
  omega
end Go.Proofs.YtplehdcnnaamkaaGreatDoor

/- Bytes put together by shifts: plain Lean. -/
namespace Go.Proofs.YtplehdcnnaamkaaGreatDoor

theorem bits_or_u32_nat (a b : Nat) (ha : a < 4294967296) (hb : b < 4294967296) :
    bits .or .u32 (a : Int) (b : Int) = ((a ||| b : Nat) : Int) := by
  have hx : a ||| b < 2 ^ 32 := Nat.or_lt_two_pow (by omega) (by omega)
  have h1 : (BitVec.ofInt 32 (a : Int)).toNat = a := by
    rw [BitVec.ofInt_natCast, BitVec.toNat_ofNat]; exact Nat.mod_eq_of_lt (by omega)
  have h2 : (BitVec.ofInt 32 (b : Int)).toNat = b := by
    rw [BitVec.ofInt_natCast, BitVec.toNat_ofNat]; exact Nat.mod_eq_of_lt (by omega)
  show IntKind.u32.wrap ((BitVec.ofInt 32 (a : Int) ||| BitVec.ofInt 32 (b : Int)).toNat : Int) = _
  rw [BitVec.toNat_or, h1, h2, show ∀ n, IntKind.u32.wrap n = n % 4294967296 from fun n => by simp [IntKind.wrap, IntKind.signed, IntKind.bits]]
  omega
theorem or_mul (k x y : Nat) (h : y < 2 ^ k) : x * 2 ^ k ||| y = x * 2 ^ k + y := by
  rw [Nat.mul_comm, Nat.two_pow_add_eq_or_of_lt h]
/-- A number and another below it, put together. -/
theorem or_u32 (k : Nat) (x y : Int) (hx : 0 ≤ x) (hy : 0 ≤ y) (hk : y < 2 ^ k) (hb : x * 2 ^ k < 4294967296) (hyb : y < 4294967296) : bits .or .u32 (x * 2 ^ k) y = x * 2 ^ k + y := by
  obtain ⟨a, rfl⟩ : ∃ a : Nat, x = a := ⟨x.toNat, by omega⟩
  obtain ⟨b, rfl⟩ : ∃ b : Nat, y = b := ⟨y.toNat, by omega⟩
  have hk' : b < 2 ^ k := by
    rw [show (2 : Int) ^ k = ((2 ^ k : Nat) : Int) by simp] at hk
    omega
  have e : (a : Int) * 2 ^ k = ((a * 2 ^ k : Nat) : Int) := by simp only [Int.natCast_mul, Int.natCast_pow]; rfl
  rw [e] at hb
  have hb' : a * 2 ^ k < 4294967296 := by omega
  rw [e, bits_or_u32_nat _ _ hb' (by omega), or_mul k a b hk']
  rw [Int.natCast_add]
theorem or_u64 (k : Nat) (x y : Int) (hx : 0 ≤ x) (hy : 0 ≤ y) (hk : y < 2 ^ k) (hb : x * 2 ^ k < 18446744073709551616) (hyb : y < 18446744073709551616) : bits .or .u64 (x * 2 ^ k) y = x * 2 ^ k + y := by
  obtain ⟨a, rfl⟩ : ∃ a : Nat, x = a := ⟨x.toNat, by omega⟩
  obtain ⟨b, rfl⟩ : ∃ b : Nat, y = b := ⟨y.toNat, by omega⟩
  have hk' : b < 2 ^ k := by
    rw [show (2 : Int) ^ k = ((2 ^ k : Nat) : Int) by simp] at hk
    omega
  have e : (a : Int) * 2 ^ k = ((a * 2 ^ k : Nat) : Int) := by simp only [Int.natCast_mul, Int.natCast_pow]; rfl
  rw [e] at hb
  have hb' : a * 2 ^ k < 18446744073709551616 := by omega
  rw [e, bits_or_u64_nat _ _ hb' (by omega), or_mul k a b hk']
  rw [Int.natCast_add]
end Go.Proofs.YtplehdcnnaamkaaGreatDoor

/- Bits kept and turned: plain Lean. -/
namespace Go.Proofs.YtplehdcnnaamkaaGreatDoor

theorem and_low (x : Int) (k : Nat) (h0 : 0 ≤ x) (h1 : x < 18446744073709551616) (hk : k ≤ 64) : bits .and .u64 x (2 ^ k - 1) = x % 2 ^ k := by
  obtain ⟨a, rfl⟩ : ∃ a : Nat, x = a := ⟨x.toNat, by omega⟩
  have hp : 2 ^ k ≤ 18446744073709551616 := (Nat.pow_le_pow_right (by omega) hk : 2 ^ k ≤ 2 ^ 64)
  have hq : 0 < 2 ^ k := Nat.two_pow_pos k
  have e : (2 : Int) ^ k - 1 = ((2 ^ k - 1 : Nat) : Int) := by
    rw [Int.natCast_sub (by omega), Int.natCast_pow]
    rfl
  have e1 : (BitVec.ofInt 64 (a : Int)).toNat = a := by
    rw [BitVec.ofInt_natCast, BitVec.toNat_ofNat]; exact Nat.mod_eq_of_lt (by omega)
  have e2 : (BitVec.ofInt 64 ((2 ^ k - 1 : Nat) : Int)).toNat = 2 ^ k - 1 := by
    rw [BitVec.ofInt_natCast, BitVec.toNat_ofNat]; exact Nat.mod_eq_of_lt (by omega)
  rw [e]
  show IntKind.u64.wrap ((BitVec.ofInt 64 (a : Int) &&& BitVec.ofInt 64 ((2 ^ k - 1 : Nat) : Int)).toNat : Int) = _
  rw [BitVec.toNat_and, e1, e2, Nat.and_two_pow_sub_one_eq_mod, show ∀ n, IntKind.u64.wrap n = n % 18446744073709551616 from fun n => by simp [IntKind.wrap, IntKind.signed, IntKind.bits]]
  have : a % 2 ^ k ≤ a := Nat.mod_le _ _
  rw [show ((2 : Int) ^ k) = ((2 ^ k : Nat) : Int) by rw [Int.natCast_pow]; rfl, ← Int.natCast_emod]
  omega
end Go.Proofs.YtplehdcnnaamkaaGreatDoor

/- The code points of a string as the model's range gives them, one by one: plain Lean, of no program. -/
namespace Go.Proofs.YtplehdcnnaamkaaGreatDoor
open Go

theorem width_pos (s : ByteArray) (pos : Nat) (h : pos < s.size) : 1 ≤ (Utf8.decode s pos).2 := by
  by_cases ha : (s[pos]'h).toNat < 128
  · rw [decode_ascii s pos h ha]
    exact Nat.le_refl _
  · exact (decode_high s pos h (by omega)).2

def rnF (s : ByteArray) : Nat → Nat → List Int
  | 0, _ => []
  | f + 1, p => if p < s.size then ((Utf8.decode s p).1 : Int) :: rnF s f (p + (Utf8.decode s p).2) else []
/-- The code points of a string. -/
def rn (s : ByteArray) : List Int := rnF s s.size 0

theorem rnF_end (s : ByteArray) (f p : Nat) (h : ¬ p < s.size) : rnF s f p = [] := by
  cases f with
  | zero => rfl
  | succ f => simp [rnF, h]
theorem rnF_step (s : ByteArray) (f p : Nat) (h : p < s.size) (hf : s.size ≤ p + f) : ∃ g, f = g + 1 ∧ rnF s f p = ((Utf8.decode s p).1 : Int) :: rnF s g (p + (Utf8.decode s p).2) := by
  obtain ⟨g, rfl⟩ : ∃ g, f = g + 1 := ⟨f - 1, by omega⟩
  exact ⟨g, rfl, by simp [rnF, h]⟩

end Go.Proofs.YtplehdcnnaamkaaGreatDoor

-- PRINTED WORDS (module Derived/Print/Words.lean): go-wishes' parts 1 to 38 and go-gate-2's additions: AI agents of Go's test side, Mon Nov 16 2026; no person has read them. Plain theorems and definitions: no macro, no elab, no axiom.
set_option linter.unusedVariables false
set_option linter.unusedSimpArgs false
namespace Go.Proofs.YtplehdcnnaamkaaGreatDoorW.PrintWords
open Go.RowKit

/-- A fact that the walk's simp doesn't look into. -/
structure Aside0 (p : Prop) : Prop where mk :: (out : p)
/-- The world is the old one, some orders having been drawn. -/
structure Drawn0 (w w' : World) : Prop where mk :: (out : ∃ n, w' = w.drewN n)
theorem Drawn0.refl (w : World) : Drawn0 w w := ⟨⟨0, rfl⟩⟩
theorem Drawn0.step {w w' : World} (h : Drawn0 w w') (n : Nat) : Drawn0 w (w'.drewN n) := by
  obtain ⟨m, rfl⟩ := h
  exact ⟨⟨m + n, World.drewN_drewN ..⟩⟩
theorem Drawn0.grown {w w' : World} (h : Drawn0 w w') : Grown w w' := by
  obtain ⟨n, rfl⟩ := h
  induction n with
  | zero => exact Grown.refl _
  | succ n ih => rw [← World.drew_drewN]; exact Grown.drew ih
theorem Drawn0.below {w w' : World} (h : Drawn0 w w') : Below w.heap.size w w' := by
  obtain ⟨n, rfl⟩ := h
  induction n with
  | zero => exact Below.refl _ _
  | succ n ih => rw [← World.drew_drewN]; exact ih.drew


/-! ### 1. Values and lists -/
def rd (xs : List Int) (i : Int) : Int := xs.getD i.toNat 0
def nums (k : IntKind) (xs : List Int) : List Value := xs.map fun x => .int k x
/-! ### 2. The world -/
theorem below_alloc {w W : World} (h : Below w.heap.size w W) (o : Obj) : Below w.heap.size w (W.alloc o) := h.alloc h.size o
theorem below_drew {B : Nat} {w W : World} (h : Below B w W) : Below B w W.drew := ⟨h.os, h.tape, h.output, h.size, h.block⟩
theorem pw_below_drewN {B : Nat} {w W : World} (h : Below B w W) (n : Nat) : Below B w (W.drewN n) := ⟨h.os, h.tape, h.output, h.size, h.block⟩
theorem below_then {B : Nat} {w w1 w2 : World} (h : Below B w w1) (hB : B ≤ w1.heap.size) (k : Below w1.heap.size w1 w2) : Below B w w2 :=
  h.trans ⟨k.os, k.tape, k.output, k.size, fun i hi => k.block i (Nat.lt_of_lt_of_le hi hB)⟩
theorem grown_of_below {w w1 : World} (h : Below w.heap.size w w1) (row : Option Nat) : w.grownBy w1 row := ⟨h.os, h.tape, h.output, h.size, fun i hi _ => h.block i hi⟩
theorem pw_cell_below {w w1 : World} (h : Below w.heap.size w w1) {a : Addr} {v : Value} (hc : w.cell? a = some v) : w1.cell? a = some v := (h.cell (World.block_lt_of_cell? w a hc)).trans hc

theorem add_plain (g j : Nat) : (⟨g, 0, none⟩ : Addr).add j = ⟨g, j, none⟩ := by unfold Addr.add; split <;> simp_all

/-! ### 3. A slice of whole numbers that is read; nil, empty and other slices alike -/
def ReadsInt (w : World) (k : IntKind) (A : Option Addr) (n : Nat) (xs : List Int) : Prop :=
  xs.length = n ∧ n ≤ 9223372036854775807 ∧ (0 < n → ∃ ad, A = some ad ∧ ∀ j, j < n → w.cell? (ad.add j) = some (.int k (xs.getD j 0)))
theorem ReadsInt.at_ {w : World} {k : IntKind} {A : Option Addr} {n : Nat} {xs : List Int} (h : ReadsInt w k A n xs) (i : Int) (h0 : 0 ≤ i) (h1 : i < n) : ∃ ad, A = some ad ∧ w.cell? (ad.add i.toNat) = some (.int k (rd xs i)) := by
  obtain ⟨ad, e, hc⟩ := h.2.2 (by omega)
  exact ⟨ad, e, hc _ (by omega)⟩
theorem ReadsInt.below {w w1 : World} {k : IntKind} {A : Option Addr} {n : Nat} {xs : List Int} (h : ReadsInt w k A n xs) (hb : Below w.heap.size w w1) : ReadsInt w1 k A n xs :=
  ⟨h.1, h.2.1, fun hn => by
    obtain ⟨ad, e, hc⟩ := h.2.2 hn
    exact ⟨ad, e, fun j hj => pw_cell_below hb (hc j hj)⟩⟩

/-! ### 4. A row of the call's own -/
theorem own_nil (W : World) (base : Nat) (e : TypeId) (size : Nat) : W.ownsRow base e size (.slice none 0 0) 0 [] := ⟨by simp, .inl ⟨rfl, rfl⟩⟩
theorem own_base {w : World} {base : Nat} {e : TypeId} {size n : Nat} {v : Value} {xs : List Value} (h : w.ownsRow base e size v n xs) (k : Nat) (hk : v.ownBlock = some k) : base ≤ k := by
  rcases h.2 with ⟨rfl, _⟩ | ⟨g, cap, cur, rfl, hb, _⟩
  · simp [Value.ownBlock] at hk
  · have : g = k := by simpa [Value.ownBlock] using hk
    omega
theorem own_lt {w : World} {base : Nat} {e : TypeId} {size n : Nat} {v : Value} {xs : List Value} (h : w.ownsRow base e size v n xs) (k : Nat) (hk : v.ownBlock = some k) : k < w.heap.size := by
  rcases h.2 with ⟨rfl, _⟩ | ⟨g, cap, cur, rfl, hb, hh, _⟩
  · simp [Value.ownBlock] at hk
  · have : g = k := by simpa [Value.ownBlock] using hk
    subst this
    exact (Array.getElem?_eq_some_iff.1 hh).1
theorem pw_own_below {w w1 : World} {base : Nat} {e : TypeId} {size n : Nat} {v : Value} {xs : List Value} (h : w.ownsRow base e size v n xs) (hb : Below w.heap.size w w1) : w1.ownsRow base e size v n xs :=
  h.kept (grown_of_below hb none) (by cases v.ownBlock <;> simp)
theorem own_string {P : Program} {w : World} {base n : Nat} {e' src dst e : TypeId} {v : Value} {xs : List Int} (hs : P.underlying src = some (.slice e)) (he : P.underlying e = some (.int .u8)) (hd : P.underlying dst = some .string)
    (h : w.ownsRow base e' 1 v n (nums .u8 xs)) : (convert src dst v).run P w = .ok (.string (strOfNums xs)) w := by
  have hl : xs.length = n := by have := h.1; simp [nums] at this; exact this
  rcases h.2 with ⟨rfl, rfl⟩ | ⟨g, cap, cur, rfl, _⟩
  · obtain rfl : xs = [] := List.eq_nil_of_length_eq_zero hl
    exact run_convert_bytes_nil w src e hs he 0 0 dst hd
  · refine run_convert_bytes_arg w src e hs he g 0 n cap xs hl (fun i hi => ?_) dst hd
    have hc := h.cells (g := g) rfl i (.int .u8 (xs.getD i 0)) (by simp [nums, List.getElem?_eq_getElem (show i < xs.length by omega), List.getD_eq_getElem?_getD])
    have ha : (⟨g, 0, none⟩ : Addr).add i = ⟨g, 0 + i, none⟩ := by unfold Addr.add; split <;> simp_all
    rwa [ha] at hc

/-! ### 5. append(v, x): behind 'at_builtin'; the goal's world is 'W.alloc' of the variadic's box -/
section
variable {P : Program} {ops : Array Oper} {rest : List Oper} {o : Oper} {a : Act} {Q : Exit → Act → World → Prop}

end

/-! ### 6. make([]T, n), n an Int; a literal -/
section
variable {P : Program}
end
/-! ### 8. append(v, ys...): ys a slice that is read, nil let in; behind 'at_builtin' -/
section
variable {P : Program} {ops : Array Oper} {rest : List Oper} {o : Oper} {a : Act} {Q : Exit → Act → World → Prop}
end

theorem bytes_below {B : Nat} {w W : World} (h : Below B w W) (hB : B ≤ W.heap.size) (e : TypeId) (s : ByteArray) : Below B w (Lib.bytesWorld W e s) :=
  h.trans ⟨rfl, rfl, rfl, by rw [Lib.bytesWorld_size]; omega, fun i hi => Lib.bytesWorld_at_old W e s i (by omega)⟩
/-! ### 10. Rounds: more rounds give the same answer; what ends gives a number of rounds -/
/-- Where the first answers, the second answers the same. -/
def LeO {α : Type} (a b : Option α) : Prop := ∀ r, a = some r → b = some r
theorem LeO.refl {α : Type} (a : Option α) : LeO a a := fun _ h => h
theorem LeO.none {α : Type} (b : Option α) : LeO Option.none b := fun _ h => by cases h
theorem LeO.trans {α : Type} {a b c : Option α} (h : LeO a b) (k : LeO b c) : LeO a c := fun r hr => k r (h r hr)
theorem LeO.bind {α β : Type} {a a' : Option α} {f f' : α → Option β} (h : LeO a a') (k : ∀ x, LeO (f x) (f' x)) : LeO (a.bind f) (a'.bind f') := by
  intro r hr
  obtain ⟨x, hx, hf⟩ := Option.bind_eq_some_iff.1 hr
  exact Option.bind_eq_some_iff.2 ⟨x, h x hx, k x r hf⟩
theorem LeO.map {α β : Type} {a a' : Option α} (f : α → β) (h : LeO a a') : LeO (a.map f) (a'.map f) := by
  intro r hr
  obtain ⟨x, hx, hf⟩ := Option.map_eq_some_iff.1 hr
  exact Option.map_eq_some_iff.2 ⟨x, h x hx, hf⟩
theorem more_rounds {α : Type} {g : Nat → Option α} (h : ∀ k, LeO (g k) (g (k + 1))) (k : Nat) : ∀ j, LeO (g k) (g (k + j))
  | 0 => LeO.refl _
  | j + 1 => (more_rounds h k j).trans (h (k + j))
theorem at_rounds {α : Type} {g : Nat → Option α} (h : ∀ k, LeO (g k) (g (k + 1))) {k k' : Nat} (hk : k ≤ k') {r : α} (hr : g k = some r) : g k' = some r := by
  have := more_rounds h k (k' - k) r hr
  rwa [Nat.add_sub_cancel' hk] at this
/-! ### 11. Rows of elements of several cells (structs): read, made. R: what an element's cells say ('RepItem w': printed for each type) -/
def Reps {α : Type} (R : α → List Value → Prop) (size : Nat) (ps : List α) (cs : List Value) : Prop :=
  cs.length = ps.length * size ∧ ∀ j p, ps[j]? = some p → R p ((cs.drop (j * size)).take size)
theorem Reps.none {α : Type} (R : α → List Value → Prop) (size : Nat) : Reps R size [] [] := ⟨by simp, fun j p h => by simp at h⟩
theorem Reps.snoc {α : Type} {R : α → List Value → Prop} {size : Nat} {ps : List α} {cs c : List Value} {p : α} (h : Reps R size ps cs) (hp : R p c) (hc : c.length = size) : Reps R size (ps ++ [p]) (cs ++ c) := by
  refine ⟨by rw [List.length_append, h.1, hc, List.length_append, List.length_singleton, Nat.add_mul, Nat.one_mul], fun j q hq => ?_⟩
  rcases Nat.lt_or_ge j ps.length with hj | hj
  · rw [List.getElem?_append_left hj] at hq
    have h1 : j * size + size ≤ cs.length := by rw [h.1, ← Nat.succ_mul]; exact Nat.mul_le_mul_right _ hj
    have h2 := h.2 j q hq
    rw [List.drop_append_of_le_length (by omega), List.take_append_of_le_length (by rw [List.length_drop]; omega)]
    exact h2
  · have hj' : j = ps.length := by
      have := (List.getElem?_eq_some_iff.1 hq).1
      rw [List.length_append, List.length_singleton] at this
      omega
    subst hj'
    have hq' : p = q := by simpa using hq
    subst hq'
    rw [← h.1, List.drop_left, ← hc, List.take_length]
    exact hp
theorem Reps.imp_ {α : Type} {R R' : α → List Value → Prop} {size : Nat} {ps : List α} {cs : List Value} (h : Reps R size ps cs) (hR : ∀ p c, R p c → R' p c) : Reps R' size ps cs := ⟨h.1, fun j p hj => hR _ _ (h.2 j p hj)⟩

def ReadsRow {α : Type} (R : α → List Value → Prop) (size : Nat) (w : World) (A : Option Addr) (n : Nat) (ps : List α) : Prop :=
  ps.length = n ∧ n ≤ 9223372036854775807 ∧ (0 < n → ∃ ad, A = some ad ∧ ∀ j p, ps[j]? = some p → ∃ c, c.length = size ∧ R p c ∧ ∀ i u, c[i]? = some u → w.cell? (ad.add (j * size + i)) = some u)
theorem ReadsRow.imp_ {α : Type} {R R' : α → List Value → Prop} {size : Nat} {w w1 : World} {A : Option Addr} {n : Nat} {ps : List α} (h : ReadsRow R size w A n ps) (hb : Below w.heap.size w w1) (hR : ∀ p c, R p c → R' p c) : ReadsRow R' size w1 A n ps :=
  ⟨h.1, h.2.1, fun hn => by
    obtain ⟨ad, e, hc⟩ := h.2.2 hn
    refine ⟨ad, e, fun j p hj => ?_⟩
    obtain ⟨c, hs, hr, hcell⟩ := hc j p hj
    exact ⟨c, hs, hR _ _ hr, fun i u hu => pw_cell_below hb (hcell i u hu)⟩⟩
theorem own_reads_row {α : Type} {R : α → List Value → Prop} {w : World} {base n size : Nat} {e : TypeId} {v : Value} {ps : List α} {cs : List Value} (h : w.ownsRow base e size v n cs) (hR : Reps R size ps cs) (hn : ps.length = n) :
    ∃ A c, v = .slice A n c ∧ ReadsRow R size w A n ps := by
  rcases Nat.eq_zero_or_pos n with h0 | h0
  · rcases h.2 with ⟨rfl, rfl⟩ | ⟨g, cap, cur, rfl, _⟩
    · exact ⟨none, 0, rfl, hn, by omega, fun hp => absurd hp (by omega)⟩
    · exact ⟨_, cap, rfl, hn, by omega, fun hp => absurd hp (by omega)⟩
  · obtain ⟨g, cap, rfl, _, _⟩ := h.form h0
    have hm : n ≤ 9223372036854775807 := by
      rcases h.2 with ⟨_, h1⟩ | ⟨g', cap', cur, he, _, _, h1, h2, _⟩
      · omega
      · simp only [maxLen] at h2
        omega
    refine ⟨_, cap, rfl, hn, hm, fun _ => ⟨_, rfl, fun j p hj => ⟨(cs.drop (j * size)).take size, ?_, hR.2 j p hj, fun i u hu => ?_⟩⟩⟩
    · have hjl := (List.getElem?_eq_some_iff.1 hj).1
      have h1 : j * size + size ≤ cs.length := by rw [hR.1, ← Nat.succ_mul]; exact Nat.mul_le_mul_right _ hjl
      rw [List.length_take, List.length_drop]
      omega
    · refine h.cells (g := g) rfl _ u ?_
      rw [List.getElem?_take] at hu
      split at hu
      · rw [List.getElem?_drop] at hu
        exact hu
      · cases hu
section
variable {P : Program} {ops : Array Oper} {rest : List Oper} {o : Oper} {a : Act} {Q : Exit → Act → World → Prop}
/-- append(v, x), x of several cells; behind 'at_builtin'; the goal's world is 'W.alloc' of the variadic's box. -/
theorem print_append_cells {w0 W : World} (base : Nat) (hgd : o.guard = none) (s x : Operand) (t e : TypeId) (z : Value) (size bytes : Nat)
    (ho : o.op = .call { callee := .builtin .append, args := #[s, x], argTypes := #[t, t] })
    (ht : P.underlying t = some (.slice e)) (hinfo : (P.info? e).map (fun i => (i.zero, i.size, i.bytes)) = some (some z, size, bytes)) (hz : z.cells.size = size) (hs0 : 0 < size) (hb0 : 0 < bytes)
    (v : Value) (n : Nat) (xs ys : List Value) (hs : a.eval s = v) (hx : a.eval x = .slice (some ⟨W.heap.size, 0, none⟩) 1 1) (hys : ys.length = size) (h1 : ∀ u ∈ ys, u.oneCell' = true)
    (HO : W.ownsRow base e size v n xs) (HB : Below base w0 W) (hbase : base ≤ W.heap.size) (hl : (n + 1) * bytes ≤ 140737488355328)
    (h : ∀ v1 w1, w1.ownsRow base e size v1 (n + 1) (xs ++ ys) → Below base w0 w1 → W.grownBy w1 v.ownBlock → (v1.ownBlock = v.ownBlock ∨ ∃ b, v1.ownBlock = some b ∧ W.heap.size ≤ b) → wpList P ops Q rest (a.put o.dst v1) w1) :
    wpList P ops Q (o :: rest) a (W.alloc (.cells ys.toArray e)) := by
  obtain ⟨i0, hi, hzz⟩ := Option.map_eq_some_iff.1 hinfo
  simp only [Prod.mk.injEq] at hzz
  obtain ⟨hz0, hz1, hz2⟩ := hzz
  have hlen : n + 1 ≤ 140737488355328 := Nat.le_trans (Nat.le_mul_of_pos_right _ hb0) hl
  refine wpList_append_own_at (W.alloc (.cells ys.toArray e)) hgd s x t ho base e i0 z size bytes ht hi hz0 hz1 hz2 hz hs0 v n xs hs (HO.alloc _) ⟨W.heap.size, 0, none⟩ 1 1 ys hx (by rw [hys]; simp)
    (by simpa using World.news_of_block (cs := ys.toArray) (t := e) (fr := (0, 0)) (heap_alloc_new W (.cells ys.toArray e))) h1 (by simp only [maxLen]; omega) hl (by simp; omega) ?_
  intro v1 w1 hown hg _ hat
  refine h v1 w1 hown ((HB.alloc hbase _).grown hg (by simp; omega) (own_base HO)) (World.grownBy.trans (World.grownBy_alloc W _ _) hg) ?_
  rcases hat with hat | hat
  · exact .inl hat
  · exact .inr ⟨_, hat, by simp⟩
end

/-! ### 12. A block of one's own that is a state: its cells, what a store leaves -/
theorem own_ne {w : World} {base : Nat} {e t : TypeId} {size n g : Nat} {v : Value} {xs : List Value} {cs : Array Value} (h : w.ownsRow base e size v n xs) (hg : w.heap[g]? = some (.cells cs t (0, 0))) (hne : e ≠ t) : some g ≠ v.ownBlock := by
  rcases h.2 with ⟨rfl, _⟩ | ⟨g', cap, cur, rfl, _, hh, _⟩
  · simp [Value.ownBlock]
  · intro he
    have : g = g' := by simpa [Value.ownBlock] using he
    subst this
    rw [hg] at hh
    injection hh with hh
    injection hh with _ ht
    exact hne ht.symm
theorem blk_lt {w : World} {g : Nat} {o : Obj} (h : w.heap[g]? = some o) : g < w.heap.size := (Array.getElem?_eq_some_iff.1 h).1
/-! ### 13. Two states at once: what a call on the state at block g (its row before: 'row') has turned -/
def KeepBut (w w' : World) (g : Nat) (row : Option Nat) : Prop := w.heap.size ≤ w'.heap.size ∧ ∀ i, i < w.heap.size → i ≠ g → some i ≠ row → w'.heap[i]? = w.heap[i]?
theorem KeepBut.refl (w : World) (g : Nat) (row : Option Nat) : KeepBut w w g row := ⟨Nat.le_refl _, fun _ _ _ _ => rfl⟩
theorem KeepBut.of_below {w w1 : World} (h : Below w.heap.size w w1) (g : Nat) (row : Option Nat) : KeepBut w w1 g row := ⟨h.size, fun i hi _ _ => h.block i hi⟩
theorem KeepBut.trans {w w1 w2 : World} {g : Nat} {row row1 : Option Nat} (h : KeepBut w w1 g row) (k : KeepBut w1 w2 g row1) (hr : row1 = row ∨ ∃ b, row1 = some b ∧ w.heap.size ≤ b) : KeepBut w w2 g row :=
  ⟨Nat.le_trans h.1 k.1, fun i hi hg hn => by
    refine (k.2 i (Nat.lt_of_lt_of_le hi h.1) hg ?_).trans (h.2 i hi hg hn)
    rcases hr with rfl | ⟨b, rfl, hb⟩
    · exact hn
    · intro e
      injection e with e
      omega⟩
/-- Another block, another row: they live on. -/
theorem KeepBut.blk {w w1 : World} {g g' : Nat} {row : Option Nat} {o : Obj} (h : KeepBut w w1 g row) (hb : w.heap[g']? = some o) (hg : g' ≠ g) (hr : some g' ≠ row) : w1.heap[g']? = some o := (h.2 g' (blk_lt hb) hg hr).trans hb
theorem KeepBut.own {w w1 : World} {g : Nat} {row : Option Nat} {base : Nat} {e : TypeId} {size n : Nat} {v : Value} {xs : List Value} (h : KeepBut w w1 g row) (ho : w.ownsRow base e size v n xs) (hg : v.ownBlock ≠ some g) (hr : v.ownBlock = none ∨ v.ownBlock ≠ row) : w1.ownsRow base e size v n xs := by
  obtain ⟨h1, h2⟩ := ho
  refine ⟨h1, ?_⟩
  rcases h2 with h2 | ⟨b, cap, cur, rfl, hb, hh, r⟩
  · exact .inl h2
  · refine .inr ⟨b, cap, cur, rfl, hb, h.blk hh ?_ ?_, r⟩
    · intro e
      exact hg (by rw [← e]; rfl)
    · rcases hr with hr | hr
      · simp [Value.ownBlock] at hr
      · exact hr
/-! ### 10b. From some number of rounds on -/
def Ev {α : Type} (g : Nat → Option α) (r : α) : Prop := ∃ K, ∀ k, K ≤ k → g k = some r
theorem Ev.of {α : Type} {g : Nat → Option α} {r : α} (hg : ∀ k, LeO (g k) (g (k + 1))) {k : Nat} (h : g k = some r) : Ev g r := ⟨k, fun _ hk => at_rounds hg hk h⟩
theorem Ev.bind {α β : Type} {g : Nat → Option α} {f : Nat → α → Option β} {a : α} {r : β} (h : Ev g a) (k : Ev (fun n => f n a) r) : Ev (fun n => (g n).bind (f n)) r := by
  obtain ⟨K, h⟩ := h
  obtain ⟨K', k⟩ := k
  refine ⟨max K K', fun n hn => ?_⟩
  have h1 := h n (by omega)
  have h2 := k n (by omega)
  simp only [h1, Option.bind_some]
  exact h2
/-- One round of a loop. -/
theorem Ev.step {α : Type} {g f : Nat → Option α} {r : α} (h : ∀ k, g (k + 1) = f k) (k : Ev f r) : Ev g r := by
  obtain ⟨K, k⟩ := k
  refine ⟨K + 1, fun n hn => ?_⟩
  obtain ⟨m, rfl⟩ : ∃ m, n = m + 1 := ⟨n - 1, by omega⟩
  rw [h]
  exact k m (by omega)
theorem Ev.congr {α : Type} {g f : Nat → Option α} {r : α} (h : ∀ k, g k = f k) (k : Ev f r) : Ev g r := by
  obtain ⟨K, k⟩ := k
  exact ⟨K, fun n hn => (h n).trans (k n hn)⟩
/-! ### 14. append as_ one step of a region that draws its order: for 'go_region_law' (and a region walked by hand) -/
section
variable {P : Program} {ops : Array Oper} {o : Oper} {a : Act} {Q : Exit → Act → World → Prop} {K : Act → World → Prop}
end
/-! ### 15. A row's base may be lowered -/
theorem own_weaken {w : World} {base base' : Nat} {e : TypeId} {size n : Nat} {v : Value} {xs : List Value} (h : w.ownsRow base e size v n xs) (hb : base' ≤ base) : w.ownsRow base' e size v n xs := by
  obtain ⟨h1, h2⟩ := h
  refine ⟨h1, ?_⟩
  rcases h2 with h2 | ⟨g, cap, cur, rfl, hg, r⟩
  · exact .inl h2
  · exact .inr ⟨g, cap, cur, rfl, Nat.le_trans hb hg, r⟩
/-! ### 16. Parts 3 to 9 for ANY element of one cell: 'enc' (Value.int k, Value.string, Value.bool), a default 'd' -/
section
variable {α : Type} {enc : α → Value} {d : α}
def encs (enc : α → Value) (xs : List α) : List Value := xs.map enc
def rdOf (d : α) (xs : List α) (i : Int) : α := xs.getD i.toNat d
theorem encs_length (xs : List α) : (encs enc xs).length = xs.length := by simp [encs]
def ReadsOf (enc : α → Value) (d : α) (w : World) (A : Option Addr) (n : Nat) (xs : List α) : Prop :=
  xs.length = n ∧ n ≤ 9223372036854775807 ∧ (0 < n → ∃ ad, A = some ad ∧ ∀ j, j < n → w.cell? (ad.add j) = some (enc (xs.getD j d)))
theorem ReadsOf.at_ {w : World} {A : Option Addr} {n : Nat} {xs : List α} (h : ReadsOf enc d w A n xs) (i : Int) (h0 : 0 ≤ i) (h1 : i < n) : ∃ ad, A = some ad ∧ w.cell? (ad.add i.toNat) = some (enc (rdOf d xs i)) := by
  obtain ⟨ad, e, hc⟩ := h.2.2 (by omega)
  exact ⟨ad, e, hc _ (by omega)⟩
theorem ReadsOf.below {w w1 : World} {A : Option Addr} {n : Nat} {xs : List α} (h : ReadsOf enc d w A n xs) (hb : Below w.heap.size w w1) : ReadsOf enc d w1 A n xs :=
  ⟨h.1, h.2.1, fun hn => by
    obtain ⟨ad, e, hc⟩ := h.2.2 hn
    exact ⟨ad, e, fun j hj => pw_cell_below hb (hc j hj)⟩⟩
end
section
variable {α : Type} {P : Program} {ops : Array Oper} {rest : List Oper} {o : Oper} {a : Act} {Q : Exit → Act → World → Prop}
end

/-! ### 19. Results that lie in memory beside others -/
section
variable {P : Program}
end
/-! ### 20. Rows of elements of any kind: R is what an element's cells say -/
theorem own_le {w : World} {base n m c size : Nat} {e : TypeId} {A : Option Addr} {xs : List Value} (h : w.ownsRow base e size (.slice A m c) n xs) : m ≤ c := by
  rcases h.2 with ⟨he, _⟩ | ⟨g, cap, cur, he, _, _, hnc, _⟩
  · injection he with _ h2 h3
    omega
  · injection he with _ h2 h3
    omega
def OwnRow {α : Type} (R : α → List Value → Prop) (e : TypeId) (size : Nat) (w : World) (base : Nat) (v : Value) (ps : List α) : Prop :=
  ∃ inner, w.ownsRow base e size v ps.length inner ∧ Reps R size ps inner
section
variable {α : Type} {R R' : α → List Value → Prop} {e : TypeId} {size : Nat} {w w1 : World} {base : Nat} {v : Value} {ps : List α}
theorem OwnRow.none_ (R : α → List Value → Prop) (e : TypeId) (size : Nat) (w : World) (base : Nat) : OwnRow R e size w base (.slice none 0 0) [] := ⟨[], own_nil _ _ _ _, Reps.none _ _⟩
theorem OwnRow.imp_ (h : OwnRow R e size w base v ps) (hR : ∀ p c, R p c → R' p c) : OwnRow R' e size w base v ps := by
  obtain ⟨inner, ho, hr⟩ := h
  exact ⟨inner, ho, hr.imp_ hR⟩
theorem OwnRow.below (h : OwnRow R e size w base v ps) (hb : Below w.heap.size w w1) : OwnRow R e size w1 base v ps := by
  obtain ⟨inner, ho, hr⟩ := h
  exact ⟨inner, pw_own_below ho hb, hr⟩
theorem OwnRow.keep (h : OwnRow R e size w base v ps) {g : Nat} {t : TypeId} {cells : Array Value} (hb : w.heap[g]? = some (.cells cells t (0, 0))) (ht : e ≠ t) (hk : KeepBut w w1 g none) : OwnRow R e size w1 base v ps := by
  obtain ⟨inner, ho, hr⟩ := h
  exact ⟨inner, hk.own ho (Ne.symm (own_ne ho hb ht)) (by cases v.ownBlock <;> simp), hr⟩
theorem OwnRow.reads (h : OwnRow R e size w base v ps) : ∃ A c, v = .slice A ps.length c ∧ ps.length ≤ c ∧ ReadsRow R size w A ps.length ps := by
  obtain ⟨inner, ho, hr⟩ := h
  obtain ⟨A, c, rfl, hrow⟩ := own_reads_row ho hr rfl
  exact ⟨A, c, rfl, own_le ho, hrow⟩
/-- A literal: the elements' cells one behind the other. -/
theorem OwnRow.lit (W : World) (base : Nat) {inner : List Value} (hr : Reps R size ps inner) (hb : base ≤ W.heap.size) (hm : ps.length ≤ 9223372036854775807) :
    OwnRow R e size (W.alloc (.cells inner.toArray e)) base (.slice (some ⟨W.heap.size, 0, none⟩) ps.length ps.length) ps := by
  have h := World.ownsRow_lit (base := base) (e := e) (size := size) W inner.toArray ps.length hb (by simpa [maxLen] using hm) (by simpa using hr.1)
  exact ⟨inner, by simpa using h, hr⟩
end
section
variable {P : Program} {ops : Array Oper} {rest : List Oper} {o : Oper} {a : Act} {Q : Exit → Act → World → Prop} {α : Type} {R : α → List Value → Prop}
/-- append(v, x): x's cells are cs. R is that of the world AHEAD; move it over hg ('OwnRow.imp_'). -/
theorem OwnRow.append {w0 W : World} (base : Nat) (hgd : o.guard = none) (s x : Operand) (t e : TypeId) (z : Value) (size bytes : Nat)
    (ho : o.op = .call { callee := .builtin .append, args := #[s, x], argTypes := #[t, t] })
    (ht : P.underlying t = some (.slice e)) (hinfo : (P.info? e).map (fun i => (i.zero, i.size, i.bytes)) = some (some z, size, bytes)) (hz : z.cells.size = size) (hs0 : 0 < size) (hb0 : 0 < bytes)
    (v : Value) (ps : List α) (p : α) (cs : List Value) (hs : a.eval s = v) (hx : a.eval x = .slice (some ⟨W.heap.size, 0, none⟩) 1 1) (hp : R p cs) (hcs : cs.length = size) (h1 : ∀ u ∈ cs, u.oneCell' = true)
    (HO : OwnRow R e size W base v ps) (HB : Below base w0 W) (hbase : base ≤ W.heap.size) (hl : (ps.length + 1) * bytes ≤ 140737488355328)
    (h : ∀ v1 w1, OwnRow R e size w1 base v1 (ps ++ [p]) → Below base w0 w1 → W.grownBy w1 v.ownBlock → (v1.ownBlock = v.ownBlock ∨ ∃ b, v1.ownBlock = some b ∧ W.heap.size ≤ b) → wpList P ops Q rest (a.put o.dst v1) w1) :
    wpList P ops Q (o :: rest) a (W.alloc (.cells cs.toArray e)) := by
  obtain ⟨inner, hown, hr⟩ := HO
  refine print_append_cells base hgd s x t e z size bytes ho ht hinfo hz hs0 hb0 v ps.length inner cs hs hx hcs h1 hown HB hbase hl ?_
  intro v1 w1 hown1 hb1 hg1 hat1
  exact h v1 w1 ⟨inner ++ cs, by rw [List.length_append, List.length_singleton]; exact hown1, hr.snoc hp hcs⟩ hb1 hg1 hat1
end
section
variable {P : Program} {ops : Array Oper} {o : Oper} {a : Act} {Q : Exit → Act → World → Prop} {K : Act → World → Prop} {α : Type} {R : α → List Value → Prop}
end
/-- What is read as_ a row has its cells one behind the other. -/
theorem ReadsRow.inner_ {α : Type} {R : α → List Value → Prop} {size : Nat} {w : World} {ad : Addr} {n : Nat} {ps : List α} (h : ReadsRow R size w (some ad) n ps) :
    ∃ inner, Reps R size ps inner ∧ ∀ j u, inner[j]? = some u → w.cell? (ad.add j) = some u := by
  have key : ∀ m, m ≤ ps.length → ∃ inner, Reps R size (ps.take m) inner ∧ ∀ j u, inner[j]? = some u → w.cell? (ad.add j) = some u := by
    intro m
    induction m with
    | zero => exact fun _ => ⟨[], Reps.none _ _, fun j u hu => by simp at hu⟩
    | succ m ih =>
      intro hm
      obtain ⟨inner, hr, hc⟩ := ih (by omega)
      obtain ⟨ad', he, hcell⟩ := h.2.2 (by have := h.1; omega)
      injection he with he
      subst he
      obtain ⟨c, hcl, hp, hcc⟩ := hcell m _ (List.getElem?_eq_getElem (show m < ps.length by omega))
      refine ⟨inner ++ c, ?_, fun j u hu => ?_⟩
      · rw [List.take_succ_eq_append_getElem (show m < ps.length by omega)]
        exact hr.snoc hp hcl
      · have hil : inner.length = m * size := by rw [hr.1, List.length_take, Nat.min_eq_left (by omega)]
        rcases Nat.lt_or_ge j inner.length with hj | hj
        · rw [List.getElem?_append_left hj] at hu
          exact hc j u hu
        · rw [List.getElem?_append_right hj] at hu
          have := hcc (j - inner.length) u hu
          rwa [hil, Nat.add_sub_cancel' (by omega)] at this
  obtain ⟨inner, hr, hc⟩ := key ps.length (Nat.le_refl _)
  rw [List.take_length] at hr
  exact ⟨inner, hr, hc⟩
/-! ### 21. Cuts of a slice that came in, lengths spelled as_ the lists' -/
section
variable {α : Type} {P : Program}
end

/-! ### 22. append([]byte, s...), s a string; behind 'at_builtin'. (No word on where the new row lies: two rows of bytes at once don't go by it.) -/
section
variable {P : Program} {ops : Array Oper} {rest : List Oper} {o : Oper} {a : Act} {Q : Exit → Act → World → Prop}
end
/-! ### 23. KINDS: what a value's cells say, read (K) and made (M), kind by kind; every mover proved once -/
/-- ok: which blocks the rows inside may be ('not the row that is being written'). -/
structure Kd (α : Type) where
  sz : Nat
  E : List Nat
  K : World → α → List Value → Prop
  M : World → Nat → (Nat → Prop) → α → List Value → Prop
  K_len : ∀ {w x cs}, K w x cs → cs.length = sz
  K_one : ∀ {w x cs}, K w x cs → ∀ u ∈ cs, u.oneCell' = true
  K_below : ∀ {w w1 : World} {x cs}, Below w.heap.size w w1 → K w x cs → K w1 x cs
  K_of_M : ∀ {w base ok x cs}, M w base ok x cs → K w x cs
  M_mono : ∀ {w base ok ok' x cs}, (∀ k, ok k → ok' k) → M w base ok x cs → M w base ok' x cs
  M_bound : ∀ {w : World} {base ok x cs}, M w base ok x cs → M w base (fun k => ok k ∧ base ≤ k ∧ k < w.heap.size ∧ ∃ q, q ∈ E ∧ ∃ cells, w.heap[k]? = some (.cells cells q (0, 0))) x cs
  M_move : ∀ {w w1 : World} {base ok x cs}, (∀ k, ok k → w1.heap[k]? = w.heap[k]?) → M w base ok x cs → M w1 base ok x cs
  M_lower : ∀ {w base base' ok x cs}, base' ≤ base → M w base ok x cs → M w base' ok x cs

theorem own_move {w w1 : World} {base : Nat} {e : TypeId} {size n : Nat} {v : Value} {xs : List Value} (h : w.ownsRow base e size v n xs) (hm : ∀ k, v.ownBlock = some k → w1.heap[k]? = w.heap[k]?) : w1.ownsRow base e size v n xs := by
  obtain ⟨h1, h2⟩ := h
  refine ⟨h1, ?_⟩
  rcases h2 with h2 | ⟨g, cap, cur, rfl, hg, hh, r⟩
  · exact .inl h2
  · exact .inr ⟨g, cap, cur, rfl, hg, (hm g (by simp [Value.ownBlock])).trans hh, r⟩
theorem own_typed {w : World} {base : Nat} {e : TypeId} {size n : Nat} {v : Value} {xs : List Value} (h : w.ownsRow base e size v n xs) (k : Nat) (hk : v.ownBlock = some k) : ∃ cells, w.heap[k]? = some (.cells cells e (0, 0)) := by
  rcases h.2 with ⟨rfl, _⟩ | ⟨g, cap, cur, rfl, hg, hh, r⟩
  · simp [Value.ownBlock] at hk
  · have : g = k := by simpa [Value.ownBlock] using hk
    subst this
    exact ⟨cur, hh⟩

namespace Kd
/-- A row of elements that is read. -/
def C {α : Type} (d : Kd α) (w : World) (A : Option Addr) (n : Nat) (xs : List α) : Prop := ReadsRow (d.K w) d.sz w A n xs
/-- A row of elements (type e) of the call's own; the elements' rows are not this one. -/
def R {α : Type} (d : Kd α) (e : Nat) (w : World) (base : Nat) (ok : Nat → Prop) (v : Value) (xs : List α) : Prop :=
  (∀ k, v.ownBlock = some k → ok k) ∧ OwnRow (d.M w base (fun k => ok k ∧ some k ≠ v.ownBlock)) e d.sz w base v xs
section
variable {α : Type} {d : Kd α} {e : Nat} {w w1 : World} {base : Nat} {ok ok' : Nat → Prop} {v : Value} {xs : List α}
theorem C_below {A : Option Addr} {n : Nat} (h : d.C w A n xs) (hb : Below w.heap.size w w1) : d.C w1 A n xs := ReadsRow.imp_ h hb (fun _ _ hp => d.K_below hb hp)
theorem R_nil (d : Kd α) (e : Nat) (w : World) (base : Nat) (ok : Nat → Prop) : d.R e w base ok (.slice none 0 0) [] := ⟨fun k hk => by simp [Value.ownBlock] at hk, OwnRow.none_ _ _ _ _ _⟩
theorem R_mono (h : d.R e w base ok v xs) (hok : ∀ k, ok k → ok' k) : d.R e w base ok' v xs := ⟨fun k hk => hok k (h.1 k hk), h.2.imp_ (fun _ _ hp => d.M_mono (fun k hk => ⟨hok k hk.1, hk.2⟩) hp)⟩
theorem R_bound (h : d.R e w base ok v xs) : d.R e w base (fun k => ok k ∧ base ≤ k ∧ k < w.heap.size ∧ ∃ q, q ∈ e :: d.E ∧ ∃ cells, w.heap[k]? = some (.cells cells q (0, 0))) v xs := by
  obtain ⟨h0, inner, ho, hr⟩ := h
  refine ⟨fun k hk => ?_, inner, ho, hr.imp_ (fun _ _ hp => d.M_mono (fun k hk => ?_) (d.M_bound hp))⟩
  · obtain ⟨cells, hc⟩ := own_typed ho k hk
    exact ⟨h0 k hk, own_base ho k hk, own_lt ho k hk, e, List.mem_cons_self, cells, hc⟩
  · obtain ⟨⟨h1, h2⟩, h3, h4, q, hq, hc⟩ := hk
    exact ⟨⟨h1, h3, h4, q, List.mem_cons_of_mem _ hq, hc⟩, h2⟩
theorem R_move (h : d.R e w base ok v xs) (hm : ∀ k, ok k → w1.heap[k]? = w.heap[k]?) : d.R e w1 base ok v xs := by
  obtain ⟨h0, inner, ho, hr⟩ := h
  exact ⟨h0, inner, own_move ho (fun k hk => hm k (h0 k hk)), hr.imp_ (fun _ _ hp => d.M_move (fun k hk => hm k hk.1) hp)⟩
theorem R_lower {base' : Nat} (h : d.R e w base ok v xs) (hb : base' ≤ base) : d.R e w base' ok v xs := by
  obtain ⟨h0, inner, ho, hr⟩ := h
  exact ⟨h0, inner, own_weaken ho hb, hr.imp_ (fun _ _ hp => d.M_lower hb hp)⟩
/-- Any mover: what is ok, and a block of w's, stays. -/
theorem R_step (h : d.R e w base ok v xs) (hm : ∀ k, ok k → k < w.heap.size → w1.heap[k]? = w.heap[k]?) : d.R e w1 base ok v xs :=
  R_mono (R_move (R_bound h) (fun k hk => hm k hk.1 hk.2.2.1)) (fun _ hk => hk.1)
theorem R_below (h : d.R e w base ok v xs) (hb : Below w.heap.size w w1) : d.R e w1 base ok v xs := R_step h (fun k _ hk => hb.block k hk)
/-- A store into another block. -/
theorem R_far (h : d.R e w base ok v xs) {p : Addr} (hok : ∀ k, ok k → k ≠ p.block) (u : Value) : d.R e (w.setCell p u) base ok v xs := R_step h (fun k ho _ => Below.heap_setCell w p u k (hok k ho))
theorem R_reads (h : d.R e w base ok v xs) : ∃ A c, v = .slice A xs.length c ∧ xs.length ≤ c ∧ d.C w A xs.length xs := by
  obtain ⟨A, c, he, hl, hr⟩ := OwnRow.reads h.2
  exact ⟨A, c, he, hl, hr.imp_ (Below.refl _ _) (fun _ _ hp => d.K_of_M hp)⟩
theorem R_own (h : d.R e w base ok v xs) : ∃ inner, w.ownsRow base e d.sz v xs.length inner := by
  obtain ⟨_, inner, ho, _⟩ := h
  exact ⟨inner, ho⟩
end

/-! #### the kinds -/
def scalar {α : Type} (enc : α → Value) (h1 : ∀ x, (enc x).oneCell' = true) : Kd α where
  sz := 1
  E := []
  K := fun _ x cs => cs = [enc x]
  M := fun _ _ _ x cs => cs = [enc x]
  K_len := fun h => by rw [h]; rfl
  K_one := fun h u hu => by
    rw [h] at hu
    rw [List.mem_singleton.1 hu]
    exact h1 _
  K_below := fun _ h => h
  K_of_M := fun h => h
  M_mono := fun _ h => h
  M_bound := fun h => h
  M_move := fun _ h => h
  M_lower := fun _ h => h
def int (k : IntKind) : Kd Int := scalar (Value.int k) (fun _ => rfl)
def bool : Kd Bool := scalar Value.bool (fun _ => rfl)
def string : Kd ByteArray := scalar Value.string (fun _ => rfl)
def slice {α : Type} (e : Nat) (d : Kd α) : Kd (List α) where
  sz := 1
  E := e :: d.E
  K := fun w xs cs => ∃ A c, cs = [.slice A xs.length c] ∧ xs.length ≤ c ∧ d.C w A xs.length xs
  M := fun w base ok xs cs => ∃ v, cs = [v] ∧ d.R e w base ok v xs
  K_len := by
    rintro w x cs ⟨A, c, rfl, _⟩
    rfl
  K_one := by
    rintro w x cs ⟨A, c, rfl, _⟩ u hu
    rw [List.mem_singleton.1 hu]
    rfl
  K_below := by
    rintro w w1 x cs hb ⟨A, c, rfl, hl, hr⟩
    exact ⟨A, c, rfl, hl, C_below hr hb⟩
  K_of_M := by
    rintro w base ok x cs ⟨v, rfl, h⟩
    obtain ⟨A, c, rfl, hl, hr⟩ := R_reads h
    exact ⟨A, c, rfl, hl, hr⟩
  M_mono := by
    rintro w base ok ok' x cs hok ⟨v, rfl, h⟩
    exact ⟨v, rfl, R_mono h hok⟩
  M_bound := by
    rintro w base ok x cs ⟨v, rfl, h⟩
    exact ⟨v, rfl, R_bound h⟩
  M_move := by
    rintro w w1 base ok x cs hm ⟨v, rfl, h⟩
    exact ⟨v, rfl, R_move h hm⟩
  M_lower := by
    rintro w base base' ok x cs hb ⟨v, rfl, h⟩
    exact ⟨v, rfl, R_lower h hb⟩
/-- Nothing is of this kind: where the nesting's depth is used up. -/
def bot {α : Type} (sz : Nat) (E : List Nat) : Kd α where
  sz := sz
  E := E
  K := fun _ _ _ => False
  M := fun _ _ _ _ _ => False
  K_len := fun h => h.elim
  K_one := fun h => h.elim
  K_below := fun _ h => h
  K_of_M := fun h => h
  M_mono := fun _ h => h
  M_bound := fun h => h
  M_move := fun _ h => h
  M_lower := fun _ h => h
/-- A type nested in itself: nested at most n deep .. -/
def upto {α : Type} (F : Kd α → Kd α) (sz : Nat) (E : List Nat) : Nat → Kd α
  | 0 => bot sz E
  | n + 1 => F (upto F sz E n)
/-- What an append leaves: the old elements' rows and the new one's are not the new row's block. -/
theorem R_appended {α : Type} {d : Kd α} {e base : Nat} {ok okp : Nat → Prop} {W w1 : World} {v v1 : Value} {xs : List α} {p : α} {inner cs : List Value} (h0 : ∀ k, v.ownBlock = some k → ok k) (hr : Reps (d.M W base (fun k => ok k ∧ some k ≠ v.ownBlock)) d.sz xs inner) (hp : d.M W base okp p cs) (hokp : ∀ k, okp k → ok k ∧ some k ≠ v.ownBlock) (hfresh : ∀ k, W.heap.size ≤ k → ok k)
    (hown : w1.ownsRow base e d.sz v1 (xs.length + 1) (inner ++ cs)) (hg : W.grownBy w1 v.ownBlock) (hat : v1.ownBlock = v.ownBlock ∨ ∃ b, v1.ownBlock = some b ∧ W.heap.size ≤ b) : d.R e w1 base ok v1 (xs ++ [p]) := by
  have hne : ∀ k, some k ≠ v.ownBlock → k < W.heap.size → some k ≠ v1.ownBlock := by
    intro k hk hlt
    rcases hat with hat | ⟨b, hb, hle⟩
    · rw [hat]; exact hk
    · rw [hb]
      intro he
      injection he with he
      omega
  have step : ∀ {q : α} {c : List Value} {o : Nat → Prop}, d.M W base o q c → (∀ k, o k → ok k ∧ some k ≠ v.ownBlock) → d.M w1 base (fun k => ok k ∧ some k ≠ v1.ownBlock) q c := by
    intro q c o hq ho
    have h1 := d.M_move (w1 := w1) (fun k hk => hg.block k hk.2.2.1 (ho k hk.1).2) (d.M_bound hq)
    exact d.M_mono (fun k hk => ⟨(ho k hk.1).1, hne k (ho k hk.1).2 hk.2.2.1⟩) h1
  refine ⟨fun k hk => ?_, inner ++ cs, by rw [List.length_append, List.length_singleton]; exact hown, ?_⟩
  · rcases hat with hat | ⟨b, hb, hle⟩
    · exact h0 k (hat ▸ hk)
    · rw [hb] at hk
      injection hk with hk
      exact hfresh k (by omega)
  · exact (hr.imp_ (fun _ _ hq => step hq (fun _ hk => hk))).snoc (step hp hokp) (d.K_len (d.K_of_M hp))
section
variable {P : Program} {ops : Array Oper} {rest : List Oper} {o : Oper} {a : Act} {Q : Exit → Act → World → Prop} {α : Type}
/-- append(v, x), behind 'at_builtin'; the goal's world is 'W.alloc' of the variadic's box; x's cells are cs, made (its rows satisfy okp). hfresh: a block that is new at W is ok. -/
theorem R_append (d : Kd α) {w0 W : World} (base : Nat) (hgd : o.guard = none) (s x : Operand) (t e : TypeId) (z : Value) (bytes : Nat)
    (ho : o.op = .call { callee := .builtin .append, args := #[s, x], argTypes := #[t, t] })
    (ht : P.underlying t = some (.slice e)) (hinfo : (P.info? e).map (fun i => (i.zero, i.size, i.bytes)) = some (some z, d.sz, bytes)) (hz : z.cells.size = d.sz) (hs0 : 0 < d.sz) (hb0 : 0 < bytes)
    (v : Value) (xs : List α) (p : α) (cs : List Value) (ok okp : Nat → Prop) (hs : a.eval s = v) (hx : a.eval x = .slice (some ⟨W.heap.size, 0, none⟩) 1 1) (hp : d.M W base okp p cs) (hokp : ∀ k, okp k → ok k ∧ some k ≠ v.ownBlock) (hfresh : ∀ k, W.heap.size ≤ k → ok k)
    (HO : d.R e W base ok v xs) (HB : Below base w0 W) (hbase : base ≤ W.heap.size) (hl : (xs.length + 1) * bytes ≤ 140737488355328)
    (h : ∀ v1 w1, d.R e w1 base ok v1 (xs ++ [p]) → Below base w0 w1 → W.grownBy w1 v.ownBlock → (v1.ownBlock = v.ownBlock ∨ ∃ b, v1.ownBlock = some b ∧ W.heap.size ≤ b) → wpList P ops Q rest (a.put o.dst v1) w1) :
    wpList P ops Q (o :: rest) a (W.alloc (.cells cs.toArray e)) := by
  obtain ⟨h0, inner, hown, hr⟩ := HO
  refine print_append_cells base hgd s x t e z d.sz bytes ho ht hinfo hz hs0 hb0 v xs.length inner cs hs hx (d.K_len (d.K_of_M hp)) (d.K_one (d.K_of_M hp)) hown HB hbase hl ?_
  intro v1 w1 hown1 hb1 hg1 hat1
  exact h v1 w1 (R_appended h0 hr hp hokp hfresh hown1 hg1 hat1) hb1 hg1 hat1
end
section
variable {P : Program} {ops : Array Oper} {o : Oper} {a : Act} {Q : Exit → Act → World → Prop} {Kc : Act → World → Prop} {α : Type}
end
theorem own_of_R {α : Type} {enc : α → Value} {h1 : ∀ x, (enc x).oneCell' = true} {e : Nat} {w : World} {base : Nat} {ok : Nat → Prop} {v : Value} {xs : List α} (h : (scalar enc h1).R e w base ok v xs) : w.ownsRow base e 1 v xs.length (encs enc xs) := by
  obtain ⟨_, inner, ho, hr⟩ := h
  have : inner = encs enc xs := by
    apply List.ext_getElem?
    intro j
    rcases Nat.lt_or_ge j xs.length with hj | hj
    · have h2 := hr.2 j _ (List.getElem?_eq_getElem hj)
      have hl : j < inner.length := by have := hr.1; simp [scalar] at this; omega
      have h3 : (inner.drop (j * 1)).take 1 = [enc xs[j]] := h2
      rw [Nat.mul_one, List.drop_eq_getElem_cons hl] at h3
      have h4 : inner[j] = enc xs[j] := by
        have h5 := congrArg List.head? h3
        rw [List.take_succ_cons] at h5
        exact Option.some.inj h5
      rw [List.getElem?_eq_getElem hl, h4]
      simp [encs, List.getElem?_eq_getElem hj]
    · have h3 : inner.length = xs.length := by have := hr.1; simp [scalar] at this; omega
      rw [List.getElem?_eq_none (by omega), List.getElem?_eq_none (by rw [encs_length]; omega)]
  rw [← this]
  exact ho
end Kd
/-! ### 24. Kinds nested in themselves -/
namespace Kd
/-- F says the more, the more its argument says. -/
structure Mono {α β : Type} (F : Kd α → Kd β) : Prop where
  sz : ∀ d d' : Kd α, d.sz = d'.sz → (F d).sz = (F d').sz
  K : ∀ d d' : Kd α, d.sz = d'.sz → (∀ w x cs, d.K w x cs → d'.K w x cs) → ∀ w x cs, (F d).K w x cs → (F d').K w x cs
  M : ∀ d d' : Kd α, d.sz = d'.sz → (∀ w base ok x cs, d.M w base ok x cs → d'.M w base ok x cs) → ∀ w base ok x cs, (F d).M w base ok x cs → (F d').M w base ok x cs
section
variable {α : Type} {F : Kd α → Kd α} {sz : Nat} {E : List Nat} {hs : ∀ n, (upto F sz E n).sz = sz} {hE : ∀ n q, q ∈ (upto F sz E n).E → q ∈ E}
end
end Kd
/-! ### 25. What is held while another row is written: 'ok' says that its rows are none of that row's block -/
namespace Kd
end Kd
/-! ### 26. Words for a printer that takes every slice by its kind -/
namespace Kd
section
variable {α β : Type} {d : Kd α} {d' : Kd β} {e e' : Nat} {w w1 W : World} {base b b' : Nat} {ok ok' okv oku : Nat → Prop} {v u : Value} {xs : List α} {ys : List β}
theorem R_drew (h : d.R e w base ok v xs) : d.R e w.drew base ok v xs := R_below h (below_drew (Below.refl _ _))
theorem C_alloc {A : Option Addr} {n : Nat} (h : d.C w A n xs) (o : Obj) : d.C (w.alloc o) A n xs := C_below h (below_alloc (Below.refl _ _) o)
end
/-! #### scalars -/
section
variable {w W : World} {A : Option Addr} {n : Nat}
variable {α : Type} {enc : α → Value} {h1 : ∀ x, (enc x).oneCell' = true} {e base g cap : Nat} {ok : Nat → Prop} {xs : List α}
end

/-! #### events: a letter for what make and a literal leave -/
section
variable {P : Program} {ops : Array Oper} {rest : List Oper} {o : Oper} {a : Act} {Q : Exit → Act → World → Prop}
variable {α : Type}
end
end Kd
section
variable {P : Program}
end
/-- A row of one's own that may begin inside its block. -/
def QRow (w : World) (base : Nat) (e : TypeId) (size : Nat) (v : Value) (n : Nat) (xs : List Value) : Prop :=
  xs.length = n * size ∧
  ((n = 0 ∧ ∃ A, v = .slice A 0 0 ∧ ∀ a, A = some a → base ≤ a.block ∧ ∃ cur, w.heap[a.block]? = some (.cells cur e (0, 0))) ∨
   ∃ g off cap cur, v = .slice (some ⟨g, off * size, none⟩) n cap ∧ base ≤ g ∧ w.heap[g]? = some (.cells cur e (0, 0)) ∧ n ≤ cap ∧ off + cap ≤ maxLen ∧ cur.size = (off + cap) * size ∧ (cur.toList.drop (off * size)).take (n * size) = xs)
section
variable {w w1 : World} {base n size : Nat} {e : TypeId} {v : Value} {xs : List Value}
theorem add_at (g o j : Nat) : (⟨g, o, none⟩ : Addr).add j = ⟨g, o + j, none⟩ := by unfold Addr.add; split <;> simp_all
end
section
variable {P : Program}
end
/-! ### 28. The kinds' words for cuts: R_take; Q (a row that may begin inside its block) with all of R's movers -/
namespace Kd
def Q {α : Type} (d : Kd α) (e : Nat) (w : World) (base : Nat) (ok : Nat → Prop) (v : Value) (xs : List α) : Prop :=
  (∀ k, v.ownBlock = some k → ok k) ∧ ∃ inner, QRow w base e d.sz v xs.length inner ∧ Reps (d.M w base (fun k => ok k ∧ some k ≠ v.ownBlock)) d.sz xs inner
section
variable {α : Type} {d : Kd α} {e : Nat} {w w1 W : World} {base : Nat} {ok ok' : Nat → Prop} {v : Value} {xs : List α}
end
section
variable {P : Program} {ops : Array Oper} {rest : List Oper} {o : Oper} {a : Act} {Q' : Exit → Act → World → Prop} {Kc : Act → World → Prop} {α : Type}
end
end Kd
/-! ### 29. Movers that ask of another row no more than they need: for R and for Q -/
namespace Kd
section
variable {α : Type} {d : Kd α} {e e' : Nat} {w w1 W : World} {base : Nat} {ok : Nat → Prop} {u v : Value} {xs : List α}
end
end Kd
namespace Kd
section
variable {α : Type} {d : Kd α} {e base g n cap : Nat} {ok okp : Nat → Prop} {W : World} {xs : List α}
end
end Kd
/-! ### 31. What came in, put into what is made: 'fixed d w0' (read in w0, whatever happens since), 'or_ a b', 'mix' (a slice that came in, or one that is made) -/
namespace Kd
section
variable {α : Type} {F : Kd α → Kd α} {sz : Nat} {E : List Nat} {hs : ∀ n, (upto F sz E n).sz = sz} {hE : ∀ n q, q ∈ (upto F sz E n).E → q ∈ E}
end
end Kd
/-! ### 32. A whole row appended, of elements of any kind; copy onto a row of scalars of one's own -/
namespace Kd
theorem reps_append {α : Type} {R : α → List Value → Prop} {size : Nat} {ps qs : List α} {cs ds : List Value} (h : Reps R size ps cs) (h' : Reps R size qs ds) : Reps R size (ps ++ qs) (cs ++ ds) := by
  refine ⟨by rw [List.length_append, List.length_append, h.1, h'.1, Nat.add_mul], fun j p hj => ?_⟩
  rcases Nat.lt_or_ge j ps.length with hlt | hge
  · rw [List.getElem?_append_left hlt] at hj
    have hle : j * size + size ≤ cs.length := by rw [h.1, ← Nat.succ_mul]; exact Nat.mul_le_mul_right _ hlt
    rw [List.drop_append_of_le_length (by omega), List.take_append_of_le_length (by rw [List.length_drop]; omega)]
    exact h.2 j p hj
  · rw [List.getElem?_append_right hge] at hj
    have h2 := h'.2 (j - ps.length) p hj
    have hle : ps.length * size ≤ j * size := Nat.mul_le_mul_right _ hge
    rw [List.drop_append, List.drop_eq_nil_of_le (by rw [h.1]; exact hle), List.nil_append, h.1, ← Nat.sub_mul]
    exact h2
section
variable {P : Program} {ops : Array Oper} {rest : List Oper} {o : Oper} {a : Act} {Q : Exit → Act → World → Prop} {α : Type}
/-- append(v, ys...): Rr is what is known of a read element's cells (d.K W; or k<T>.K w0 for a row that came in), hKM: it may stand as_ made. -/
theorem R_append_rows (d : Kd α) {Rr : α → List Value → Prop} {w0 W : World} (base : Nat) (hgd : o.guard = none) (s x : Operand) (t e : TypeId) (z : Value) (bytes : Nat)
    (ho : o.op = .call { callee := .builtin .append, args := #[s, x], argTypes := #[t, t] })
    (ht : P.underlying t = some (.slice e)) (hinfo : (P.info? e).map (fun i => (i.zero, i.size, i.bytes)) = some (some z, d.sz, bytes)) (hz : z.cells.size = d.sz) (hs0 : 0 < d.sz) (hb0 : 0 < bytes)
    (v : Value) (xs ys : List α) (A : Option Addr) (m c : Nat) (ok okp : Nat → Prop) (hs : a.eval s = v) (hx : a.eval x = .slice A m c)
    (HO : d.R e W base ok v xs) (HR : ReadsRow Rr d.sz W A m ys) (hKM : ∀ x cs, Rr x cs → d.M W base okp x cs) (hokp : ∀ k, okp k → ok k ∧ some k ≠ v.ownBlock) (hfresh : ∀ k, W.heap.size ≤ k → ok k)
    (HB : Below base w0 W) (hbase : base ≤ W.heap.size) (hl : (xs.length + m) * bytes ≤ 140737488355328)
    (h : ∀ v1 w1, d.R e w1 base ok v1 (xs ++ ys) → Below base w0 w1 → W.grownBy w1 v.ownBlock → (v1.ownBlock = v.ownBlock ∨ ∃ b, v1.ownBlock = some b ∧ W.heap.size ≤ b) → wpList P ops Q rest (a.put o.dst v1) w1) :
    wpList P ops Q (o :: rest) a W := by
  obtain ⟨i0, hi, hzz⟩ := Option.map_eq_some_iff.1 hinfo
  simp only [Prod.mk.injEq] at hzz
  obtain ⟨hz0, hz1, hz2⟩ := hzz
  have hm : ys.length = m := HR.1
  have hlen : xs.length + m ≤ 140737488355328 := Nat.le_trans (Nat.le_mul_of_pos_right _ hb0) hl
  obtain ⟨hok, inner, hown, hr⟩ := HO
  have hrun : ∃ v1 w1, (Builtin.append_ #[t, t] o.type #[v, .slice A m c]).run P W = .ok v1 w1 ∧ d.R e w1 base ok v1 (xs ++ ys) ∧ W.grownBy w1 v.ownBlock ∧ (v1.ownBlock = v.ownBlock ∨ ∃ b, v1.ownBlock = some b ∧ W.heap.size ≤ b) := by
    rcases A with _ | ad
    · have h0 : m = 0 := by
        rcases Nat.eq_zero_or_pos m with h0 | h0
        · exact h0
        · obtain ⟨ad, h, _⟩ := HR.2.2 h0
          cases h
      subst h0
      obtain rfl : ys = [] := List.eq_nil_of_length_eq_zero hm
      refine ⟨v, W, ?_, by rw [List.append_nil]; exact ⟨hok, inner, hown, hr⟩, World.grownBy.refl W _, .inl rfl⟩
      rcases hown.2 with ⟨rfl, hn⟩ | ⟨g, cap, cur, rfl, _, _, hnc, _⟩
      · simp [Builtin.append_, run_underlying ht, sizeOf, typeInfo, hi, Builtin.lenOf, Builtin.firstCells]
      · simp [Builtin.append_, run_underlying ht, sizeOf, typeInfo, hi, Builtin.lenOf, Builtin.firstCells, hnc, storeCells]
    · obtain ⟨news, hnr, hnc⟩ := ReadsRow.inner_ HR
      have hnM : Reps (d.M W base okp) d.sz ys news := hnr.imp_ (fun p c hp => hKM p c hp)
      have hone : ∀ u ∈ news, u.oneCell' = true := by
        intro u hu
        obtain ⟨q, hq, rfl⟩ := List.mem_iff_getElem.1 hu
        have hql : q / d.sz < ys.length := by
          rw [Nat.div_lt_iff_lt_mul hs0]
          rw [← hnM.1]
          exact hq
        have hc := hnM.2 (q / d.sz) _ (List.getElem?_eq_getElem hql)
        refine d.K_one (d.K_of_M hc) _ ?_
        rw [List.mem_iff_getElem?]
        refine ⟨q % d.sz, ?_⟩
        rw [List.getElem?_take, if_pos (Nat.mod_lt _ hs0), List.getElem?_drop, Nat.mul_comm, Nat.div_add_mod, List.getElem?_eq_getElem hq]
      obtain ⟨v1, w1, hrun, h2, hg, _, hat⟩ := run_append_own_at (P := P) W base t o.type e i0 z d.sz bytes ht hi hz0 hz1 hz2 hz hs0 v xs.length inner hown ad m c news (by rw [hnM.1, hm]) hnc hone (by simp only [maxLen]; omega) hl hbase
      have hat' : v1.ownBlock = v.ownBlock ∨ ∃ b, v1.ownBlock = some b ∧ W.heap.size ≤ b := by
        rcases hat with hat | hat
        · exact .inl hat
        · exact .inr ⟨_, hat, Nat.le_refl _⟩
      have hne : ∀ k, some k ≠ v.ownBlock → k < W.heap.size → some k ≠ v1.ownBlock := by
        intro k hk hlt
        rcases hat' with hat | ⟨b, hb, hle⟩
        · rw [hat]; exact hk
        · rw [hb]
          intro he
          injection he with he
          omega
      have step : ∀ {q : α} {c : List Value} {o : Nat → Prop}, d.M W base o q c → (∀ k, o k → ok k ∧ some k ≠ v.ownBlock) → d.M w1 base (fun k => ok k ∧ some k ≠ v1.ownBlock) q c := by
        intro q c o hq ho
        have h1 := d.M_move (w1 := w1) (fun k hk => hg.block k hk.2.2.1 (ho k hk.1).2) (d.M_bound hq)
        exact d.M_mono (fun k hk => ⟨(ho k hk.1).1, hne k (ho k hk.1).2 hk.2.2.1⟩) h1
      refine ⟨v1, w1, hrun, ⟨fun k hk => ?_, inner ++ news, by rw [List.length_append, hm]; exact h2, reps_append (hr.imp_ (fun _ _ hq => step hq (fun _ hk => hk))) (hnM.imp_ (fun _ _ hq => step hq hokp))⟩, hg, hat'⟩
      rcases hat' with hat | ⟨b, hb, hle⟩
      · exact hok k (hat ▸ hk)
      · rw [hb] at hk
        injection hk with hk
        exact hfresh k (by omega)
  obtain ⟨v1, w1, hr1, h1, hg, hat⟩ := hrun
  refine wpList_plain hgd fun K hK => ?_
  unfold Oper.wp execOp
  simp only [ho, resolve, invoke, builtin, Sem.run_bind, Sem.run_pure, Result.andThen_ok, List.map_toArray, List.map_cons, List.map_nil, hs, hx, hr1]
  exact hK _ _ (h v1 w1 h1 (HB.grown hg hbase (own_base hown)) hg hat)
end
end Kd
namespace Kd
section
variable {P : Program} {ops : Array Oper} {rest : List Oper} {o : Oper} {a : Act} {Q : Exit → Act → World → Prop} {α : Type}
end
end Kd
/-! ### 34. Cuts that are only read, of any row -/
theorem add_add (a : Addr) (i j : Nat) : (a.add i).add j = a.add (i + j) := by
  unfold Addr.add
  by_cases h1 : i = 0 <;> by_cases h2 : j = 0 <;> simp [h1, h2, Nat.add_assoc]
namespace Kd
section
variable {α : Type} {k : Kd α} {w : World} {A : Option Addr} {xs : List α} {m c : Nat}
end
end Kd
section
variable {P : Program}
end
theorem ReadsInt.nil (W : World) (k : IntKind) : ReadsInt W k none ([] : List Int).length [] := ⟨rfl, by simp, fun h => absurd h (Nat.lt_irrefl 0)⟩
theorem ReadsInt.drewN {W : World} {k : IntKind} {A : Option Addr} {n : Nat} {xs : List Int} (h : ReadsInt W k A n xs) (m : Nat) : ReadsInt (W.drewN m) k A n xs := h
theorem keep_cell {w W : World} {g : Nat} (h : KeepBut w W g none) {a : Addr} {v : Value} (hc : w.cell? a = some v) (hne : a.block ≠ g) : W.cell? a = some v := by
  have := h.2 a.block (World.block_lt_of_cell? w a hc) hne (by simp)
  simpa [World.cell?, this] using hc
theorem add_block (a : Addr) (i : Nat) : (a.add i).block = a.block := by unfold Addr.add; split <;> rfl
theorem ReadsOf.nil {α : Type} (enc : α → Value) (d : α) (W : World) : ReadsOf enc d W none ([] : List α).length [] := ⟨rfl, by simp, fun h => absurd h (Nat.lt_irrefl 0)⟩
theorem ReadsOf.drewN {α : Type} {enc : α → Value} {d : α} {W : World} {A : Option Addr} {n : Nat} {xs : List α} (h : ReadsOf enc d W A n xs) (m : Nat) : ReadsOf enc d (W.drewN m) A n xs := h
theorem ReadsInt.keep {w W : World} {k : IntKind} {A : Option Addr} {n g : Nat} {xs : List Int} (h : ReadsInt w k A n xs) (hk : KeepBut w W g none) (hf : ∀ ad, A = some ad → 0 < n → ad.block ≠ g) : ReadsInt W k A n xs :=
  ⟨h.1, h.2.1, fun hn => by
    obtain ⟨ad, e, hc⟩ := h.2.2 hn
    exact ⟨ad, e, fun j hj => keep_cell hk (hc j hj) (by rw [add_block]; exact hf ad e hn)⟩⟩
theorem ReadsOf.keep {α : Type} {enc : α → Value} {d : α} {w W : World} {A : Option Addr} {n g : Nat} {xs : List α} (h : ReadsOf enc d w A n xs) (hk : KeepBut w W g none) (hf : ∀ ad, A = some ad → 0 < n → ad.block ≠ g) : ReadsOf enc d W A n xs :=
  ⟨h.1, h.2.1, fun hn => by
    obtain ⟨ad, e, hc⟩ := h.2.2 hn
    exact ⟨ad, e, fun j hj => keep_cell hk (hc j hj) (by rw [add_block]; exact hf ad e hn)⟩⟩
namespace Kd
section
variable {α β : Type} {d : Kd α} {d' : Kd β} {e e' base base' n : Nat} {ok ok' : Nat → Prop} {w W w1 W1 : World} {v u : Value} {xs : List α} {ys : List β} {A : Option Addr} {c : Nat}
end
section
variable {α : Type} {enc : α → Value} {h1 : ∀ x, (enc x).oneCell' = true} {w W : World} {A : Option Addr} {n g : Nat} {xs : List α}
end
end Kd
namespace Kd
section
variable {α : Type} {d : Kd α} {e base g : Nat} {ok : Nat → Prop} {w w1 : World} {v : Value} {xs : List α} {o : Obj}
end
end Kd
section
variable {P : Program} {ops : Array Oper} {rest : List Oper} {o : Oper} {a : Act} {Q : Exit → Act → World → Prop}
end
namespace Kd
section
variable {α : Type} {enc : α → Value} {h1 : ∀ x, (enc x).oneCell' = true} {e base g n cap : Nat} {ok : Nat → Prop} {W : World} {xs : List α}
end
end Kd
section
variable {P : Program} {ops : Array Oper} {rest : List Oper} {o : Oper} {a : Act} {Q : Exit → Act → World → Prop}
end
namespace Kd
section
variable {α : Type} {enc : α → Value} {h1 : ∀ x, (enc x).oneCell' = true} {e base g n cap : Nat} {ok : Nat → Prop} {W : World} {xs : List α}
end
end Kd
section
variable {P : Program} {ops : Array Oper} {rest : List Oper} {o : Oper} {a : Act} {Q : Exit → Act → World → Prop} {W : World}
end
/-! ### 36. Events as_ one step of a region that draws (for one_, two_, three_) -/
section
variable {P : Program} {ops : Array Oper} {o : Oper} {a : Act} {Q : Exit → Act → World → Prop} {Kc : Act → World → Prop}
namespace Kd
variable {α : Type}
theorem R_append_rows_step (d : Kd α) {Rr : α → List Value → Prop} {w0 W : World} (base : Nat) (hw : Region.wanted o (yielded ops a.tmps) = true) (s x : Operand) (t e : TypeId) (z : Value) (bytes : Nat)
    (ho : o.op = .call { callee := .builtin .append, args := #[s, x], argTypes := #[t, t] })
    (ht : P.underlying t = some (.slice e)) (hinfo : (P.info? e).map (fun i => (i.zero, i.size, i.bytes)) = some (some z, d.sz, bytes)) (hz : z.cells.size = d.sz) (hs0 : 0 < d.sz) (hb0 : 0 < bytes)
    (v : Value) (xs ys : List α) (A : Option Addr) (m c : Nat) (ok okp : Nat → Prop) (hs : a.eval s = v) (hx : a.eval x = .slice A m c)
    (HO : d.R e W base ok v xs) (HR : ReadsRow Rr d.sz W A m ys) (hKM : ∀ x cs, Rr x cs → d.M W base okp x cs) (hokp : ∀ k, okp k → ok k ∧ some k ≠ v.ownBlock) (hfresh : ∀ k, W.heap.size ≤ k → ok k)
    (HB : Below base w0 W) (hbase : base ≤ W.heap.size) (hl : (xs.length + m) * bytes ≤ 140737488355328)
    (h : ∀ v1 w1, d.R e w1 base ok v1 (xs ++ ys) → Below base w0 w1 → W.grownBy w1 v.ownBlock → (v1.ownBlock = v.ownBlock ∨ ∃ b, v1.ownBlock = some b ∧ W.heap.size ≤ b) → Kc (a.put o.dst v1) w1) :
    if Region.wanted o (yielded ops a.tmps) = true then Oper.wp P o a W Kc Q else Kc (a.put o.dst undef) W := by
  obtain ⟨i0, hi, hzz⟩ := Option.map_eq_some_iff.1 hinfo
  simp only [Prod.mk.injEq] at hzz
  obtain ⟨hz0, hz1, hz2⟩ := hzz
  have hm : ys.length = m := HR.1
  have hlen : xs.length + m ≤ 140737488355328 := Nat.le_trans (Nat.le_mul_of_pos_right _ hb0) hl
  obtain ⟨hok, inner, hown, hr⟩ := HO
  have hrun : ∃ v1 w1, (Builtin.append_ #[t, t] o.type #[v, .slice A m c]).run P W = .ok v1 w1 ∧ d.R e w1 base ok v1 (xs ++ ys) ∧ W.grownBy w1 v.ownBlock ∧ (v1.ownBlock = v.ownBlock ∨ ∃ b, v1.ownBlock = some b ∧ W.heap.size ≤ b) := by
    rcases A with _ | ad
    · have h0 : m = 0 := by
        rcases Nat.eq_zero_or_pos m with h0 | h0
        · exact h0
        · obtain ⟨ad, h, _⟩ := HR.2.2 h0
          cases h
      subst h0
      obtain rfl : ys = [] := List.eq_nil_of_length_eq_zero hm
      refine ⟨v, W, ?_, by rw [List.append_nil]; exact ⟨hok, inner, hown, hr⟩, World.grownBy.refl W _, .inl rfl⟩
      rcases hown.2 with ⟨rfl, hn⟩ | ⟨g, cap, cur, rfl, _, _, hnc, _⟩
      · simp [Builtin.append_, run_underlying ht, sizeOf, typeInfo, hi, Builtin.lenOf, Builtin.firstCells]
      · simp [Builtin.append_, run_underlying ht, sizeOf, typeInfo, hi, Builtin.lenOf, Builtin.firstCells, hnc, storeCells]
    · obtain ⟨news, hnr, hnc⟩ := ReadsRow.inner_ HR
      have hnM : Reps (d.M W base okp) d.sz ys news := hnr.imp_ (fun p c hp => hKM p c hp)
      have hone : ∀ u ∈ news, u.oneCell' = true := by
        intro u hu
        obtain ⟨q, hq, rfl⟩ := List.mem_iff_getElem.1 hu
        have hql : q / d.sz < ys.length := by
          rw [Nat.div_lt_iff_lt_mul hs0]
          rw [← hnM.1]
          exact hq
        have hc := hnM.2 (q / d.sz) _ (List.getElem?_eq_getElem hql)
        refine d.K_one (d.K_of_M hc) _ ?_
        rw [List.mem_iff_getElem?]
        refine ⟨q % d.sz, ?_⟩
        rw [List.getElem?_take, if_pos (Nat.mod_lt _ hs0), List.getElem?_drop, Nat.mul_comm, Nat.div_add_mod, List.getElem?_eq_getElem hq]
      obtain ⟨v1, w1, hrun, h2, hg, _, hat⟩ := run_append_own_at (P := P) W base t o.type e i0 z d.sz bytes ht hi hz0 hz1 hz2 hz hs0 v xs.length inner hown ad m c news (by rw [hnM.1, hm]) hnc hone (by simp only [maxLen]; omega) hl hbase
      have hat' : v1.ownBlock = v.ownBlock ∨ ∃ b, v1.ownBlock = some b ∧ W.heap.size ≤ b := by
        rcases hat with hat | hat
        · exact .inl hat
        · exact .inr ⟨_, hat, Nat.le_refl _⟩
      have hne : ∀ k, some k ≠ v.ownBlock → k < W.heap.size → some k ≠ v1.ownBlock := by
        intro k hk hlt
        rcases hat' with hat | ⟨b, hb, hle⟩
        · rw [hat]; exact hk
        · rw [hb]
          intro he
          injection he with he
          omega
      have step : ∀ {q : α} {c : List Value} {o : Nat → Prop}, d.M W base o q c → (∀ k, o k → ok k ∧ some k ≠ v.ownBlock) → d.M w1 base (fun k => ok k ∧ some k ≠ v1.ownBlock) q c := by
        intro q c o hq ho
        have h1 := d.M_move (w1 := w1) (fun k hk => hg.block k hk.2.2.1 (ho k hk.1).2) (d.M_bound hq)
        exact d.M_mono (fun k hk => ⟨(ho k hk.1).1, hne k (ho k hk.1).2 hk.2.2.1⟩) h1
      refine ⟨v1, w1, hrun, ⟨fun k hk => ?_, inner ++ news, by rw [List.length_append, hm]; exact h2, reps_append (hr.imp_ (fun _ _ hq => step hq (fun _ hk => hk))) (hnM.imp_ (fun _ _ hq => step hq hokp))⟩, hg, hat'⟩
      rcases hat' with hat | ⟨b, hb, hle⟩
      · exact hok k (hat ▸ hk)
      · rw [hb] at hk
        injection hk with hk
        exact hfresh k (by omega)
  obtain ⟨v1, w1, hr1, h1, hg, hat⟩ := hrun
  rw [if_pos hw]
  unfold Oper.wp execOp
  simp only [ho, resolve, invoke, builtin, Sem.run_bind, Sem.run_pure, Result.andThen_ok, List.map_toArray, List.map_cons, List.map_nil, hs, hx, hr1]
  exact h v1 w1 h1 (HB.grown hg hbase (own_base hown)) hg hat
end Kd
end
/-! ### 37. Results of any shape -/
inductive Vals (P : Program) (tmps : Array Value) (w : World) : List ResultVar → List Value → Prop where
  | nil : Vals P tmps w [] []
  | tmp {u : Tmp} {rs : List ResultVar} {vs : List Value} (h : Vals P tmps w rs vs) : Vals P tmps w (.tmp u :: rs) (tmps.getD u undef :: vs)
  | cell {p : Tmp} {ty : TypeId} {rs : List ResultVar} {vs : List Value} (g : Nat) (t : TypeId) (cs : Array Value) (fr : Nat × Nat) (d : TypeDesc)
      (hp : tmps.getD p undef = .pointer (some ⟨g, 0, none⟩)) (hg : w.heap[g]? = some (.cells cs t fr))
      (hu : P.underlying ty = some d) (hd : (match d with | .struct _ | .array _ _ => true | _ => false) = true) (hi : (P.info? ty).map (·.size) = some cs.size)
      (h : Vals P tmps w rs vs) : Vals P tmps w (.cell p ty :: rs) (.agg cs :: vs)
section
variable {P : Program} {tmps : Array Value} {w : World}
end
/-! ### 38. 'out = append(out[:k], out[k+1:]...)': an element taken out of a row of one's own, in place -/
namespace Kd
section
variable {P : Program} {α : Type}
end
section
variable {P : Program} {ops : Array Oper} {rest : List Oper} {o : Oper} {a : Act} {Q : Exit → Act → World → Prop} {Kc : Act → World → Prop} {α : Type}
end
end Kd

end Go.Proofs.YtplehdcnnaamkaaGreatDoorW.PrintWords

/- A string's iterator beside rows of the call's own: what moves past what. -/
namespace Go.Proofs.YtplehdcnnaamkaaGreatDoor
open Go.RowKit Go.Proofs.YtplehdcnnaamkaaGreatDoorW.PrintWords

section
variable {α : Type} {d : Kd α} {e : Nat} {w w1 : World} {base : Nat} {ok : Nat → Prop} {v : Value} {xs : List α} {k : Nat} {s : ByteArray} {pos : Nat}
/-- A row of the call's own stays while an iterator is moved on. -/
theorem R_iterAt (h : Kd.R d e w base ok v xs) (hk : w.heap[k]? = some (.stringIter s pos)) (pos' : Nat) : Kd.R d e (w.iterAt k s pos') base ok v xs :=
  Kd.R_mono (Kd.R_move (Kd.R_bound h) (fun j hj => by
    obtain ⟨_, _, _, q, _, cells, hc⟩ := hj
    refine Lib.iterAt_other w k j s pos' (fun e => ?_)
    rw [e, hk] at hc
    cases hc)) (fun _ hj => hj.1)
/-- An iterator stays while a row of the call's own is appended to. -/
theorem iter_grown (h : Kd.R d e w base ok v xs) (hg : w.grownBy w1 v.ownBlock) (hk : w.heap[k]? = some (.stringIter s pos)) : w1.heap[k]? = some (.stringIter s pos) := by
  have hlt : k < w.heap.size := (Array.getElem?_eq_some_iff.1 hk).1
  rw [hg.block k hlt ?_]
  · exact hk
  · intro hb
    obtain ⟨inner, ho⟩ := Kd.R_own h
    obtain ⟨cells, hc⟩ := own_typed ho k hb.symm
    rw [hk] at hc
    cases hc
theorem iter_below (hb : Below w.heap.size w w1) (hk : w.heap[k]? = some (.stringIter s pos)) : w1.heap[k]? = some (.stringIter s pos) := by
  have hlt : k < w.heap.size := (Array.getElem?_eq_some_iff.1 hk).1
  rw [hb.block k hlt]
  exact hk
end
end Go.Proofs.YtplehdcnnaamkaaGreatDoor

/-
  PRINTED WORDS, second file: A REGION THAT DRAWS ITS ORDER, WALKED BY HAND, where its last store writes what its own loads read ('x.f = append(x.f, f(i))'). Plain theorems; no macro, no elab. A claim may hold it (turn the namespace's name).
  A load may be taken first in every world that meets S; behind the operations of ds nothing is shown; sound because each of ds waits for what is taken (Region.lastB). The kernel checks it.
  By an AI agent of Go's test side, Mon Nov 16 2026. No person has read it.
-/
namespace Go.Proofs.YtplehdcnnaamkaaGreatDoorW.PrintLast

section
variable {P : Program} {ops : Array Oper} {Q : Exit → Act → World → Prop} {md : Region.Mode} {S : World → Prop} {ds : List Nat}

/-- Whatever order is picked from here on, AND 'S' HOLDS BEHIND EVERY OPERATION THAT IS CARRIED OUT, those of ds apart. -/
def wpAnyLast (P : Program) (md : Region.Mode) (ops : Array Oper) (Q : Exit → Act → World → Prop) (S : World → Prop) (ds : List Nat) : Nat → Array Bool → Act → World → Prop
  | 0, listed, a, w => Region.ready md ops listed = [] ∧ Q .normal a w
  | fuel + 1, listed, a, w =>
    (Region.ready md ops listed = [] → Q .normal a w) ∧
    ∀ i ∈ Region.ready md ops listed, wpOp P ops Q i (fun a' w' => (i ∉ ds → S w → S w') ∧ wpAnyLast P md ops Q S ds fuel (listed.setIfInBounds i true) a' w') a w

end

section
variable {P : Program} {ops : Array Oper} {Q : Exit → Act → World → Prop} {md : Region.Mode} {S : World → Prop} {ds : List Nat}

def AllReadyL (P : Program) (md : Region.Mode) (ops : Array Oper) (Q : Exit → Act → World → Prop) (S : World → Prop) (ds : List Nat) (fuel : Nat) (listed : Array Bool) (a : Act) (w : World) (rs : List Nat) : Prop :=
  ∀ i ∈ rs, wpOp P ops Q i (fun a' w' => (i ∉ ds → S w → S w') ∧ wpAnyLast P md ops Q S ds fuel (listed.setIfInBounds i true) a' w') a w
theorem AllReadyL.nil {fuel : Nat} {listed : Array Bool} {a : Act} {w : World} : AllReadyL P md ops Q S ds fuel listed a w [] := fun _ h => by cases h
theorem AllReadyL.cons {fuel : Nat} {listed : Array Bool} {a : Act} {w : World} {i : Nat} {o : Oper} {rs : List Nat} (ho : ops[i]? = some o) (hd : i ∉ ds)
    (h : ∀ K' : Act → World → Prop, Shut (∀ a w, S w → (S w → wpAnyLast P md ops Q S ds fuel (listed.setIfInBounds i true) a w) → K' a w) → if Region.wanted o (yielded ops a.tmps) = true then Oper.wp P o a w K' Q else K' (a.put o.dst undef) w)
    (hs : AllReadyL P md ops Q S ds fuel listed a w rs) : AllReadyL P md ops Q S ds fuel listed a w (i :: rs) := fun j hj => by
  rcases List.mem_cons.1 hj with rfl | hj
  · exact wpOp_step ho (fun K' hK => h K' (fun a w hS hW => hK a w ⟨fun _ _ => hS, hW hS⟩))
  · exact hs j hj
end
end Go.Proofs.YtplehdcnnaamkaaGreatDoorW.PrintLast

/- Small lemmas of this session's own, of no program. -/
namespace Go.Proofs.YtplehdcnnaamkaaGreatDoor
open Go.RowKit Go.Proofs.YtplehdcnnaamkaaGreatDoorW.PrintWords

theorem C_int_at {k : IntKind} {w : World} {ad : Addr} {n : Nat} {xs : List Int} (h : Kd.C (Kd.int k) w (some ad) n xs) (j : Nat) (hlt : j < xs.length) : w.cell? (ad.add j) = some (.int k (xs[j]'hlt)) := by
  obtain ⟨hl, _, hc⟩ := h
  obtain ⟨ad', e, hc⟩ := hc (by omega)
  obtain rfl := Option.some.inj e
  obtain ⟨c, hc1, hc2, hc3⟩ := hc j (xs[j]'hlt) (List.getElem?_eq_getElem hlt)
  obtain rfl : c = [.int k (xs[j]'hlt)] := hc2
  have := hc3 0 (.int k (xs[j]'hlt)) rfl
  have hsz : (Kd.int k).sz = 1 := rfl
  rw [hsz] at this
  rw [show j * 1 + 0 = j by omega] at this
  exact this
theorem C_some {α : Type} {d : Kd α} {w : World} {A : Option Addr} {n : Nat} {xs : List α} (h : Kd.C d w A n xs) (hn : 0 < n) : ∃ ad, A = some ad := by
  obtain ⟨_, _, hc⟩ := h
  obtain ⟨ad, e, _⟩ := hc hn
  exact ⟨ad, e⟩

/-- The UTF-8 of some numbers. -/
def textL (l : List Int) : List UInt8 := l.flatMap Lib.encodeRune
def textOf (l : List Int) : ByteArray := ⟨(textL l).toArray⟩
theorem textL_snoc (l : List Int) (r : Int) : textL (l ++ [r]) = textL l ++ Lib.encodeRune r := by simp [textL]
theorem encodeRune_length (r : Int) : (Lib.encodeRune r).length ≤ 4 := by
  have := Lib.runeCells_le r
  rw [Lib.runeCells_length] at this
  exact this.2
theorem textL_length (l : List Int) : (textL l).length ≤ 4 * l.length := by
  induction l with
  | nil => simp [textL]
  | cons r l ih =>
    have h := encodeRune_length r
    simp only [textL, List.flatMap_cons, List.length_append, List.length_cons] at *
    omega
theorem BuilderAtF_below {T e : TypeId} {B b : Nat} {p : Value} {bs : List Value} {w w1 : World} (h : Lib.BuilderAtF T e B b p bs w) (hb : Below w.heap.size w w1) : Lib.BuilderAtF T e B b p bs w1 := by
  have hlt := h.lt
  obtain ⟨hB, v, hv, hown, hne⟩ := h
  exact ⟨hB, v, (hb.block b hlt).trans hv, hown.kept (grown_of_below hb none) (by cases v.ownBlock <;> simp), hne⟩
theorem IsBuilderF_below {T e : TypeId} {B b : Nat} {bs : List Value} {w w1 : World} (h : Lib.IsBuilderF T e B b bs w) (hb : Below w.heap.size w w1) : Lib.IsBuilderF T e B b bs w1 :=
  h.elim (fun x => .inl (BuilderAtF_below x hb)) (fun x => .inr (BuilderAtF_below x hb))
/-- A new one-cell row reads as its one element. -/
theorem C_one (k : IntKind) (w : World) (x : Int) (e : TypeId) : Kd.C (Kd.int k) (w.alloc (.cells #[.int k x] e)) (some ⟨w.heap.size, 0, none⟩) 1 [x] := by
  refine ⟨rfl, by omega, fun _ => ⟨_, rfl, fun j p hj => ?_⟩⟩
  have : j = 0 := by
    rcases j with _ | j
    · rfl
    · simp at hj
  subst this
  obtain rfl : x = p := by simpa using hj
  refine ⟨[.int k x], rfl, rfl, fun i u hi => ?_⟩
  have : i = 0 := by
    rcases i with _ | i
    · rfl
    · simp at hi
  subst this
  obtain rfl : Value.int k x = u := by simpa using hi
  show (w.alloc _).cell? ((⟨w.heap.size, 0, none⟩ : Addr).add _) = _
  rw [add_plain]
  simp
theorem take_byte (q : ByteArray) (j : Nat) (h : j < q.size) : q.data.toList.take (j + 1) = q.data.toList.take j ++ [q[j]'h] := by
  rw [List.take_succ_eq_append_getElem (by simpa using h)]
  rfl
section
variable {P : Program} {ops : Array Oper} {o : Oper} {a : Act} {Q : Exit → Act → World → Prop} {Kc : Act → World → Prop} {α : Type}
end
/-- A new row of numbers reads as its numbers. -/
theorem C_new (k : IntKind) (w : World) (xs : List Int) (e : TypeId) (hn : xs.length ≤ 9223372036854775807) : Kd.C (Kd.int k) (w.alloc (.cells (xs.map (Value.int k)).toArray e)) (some ⟨w.heap.size, 0, none⟩) xs.length xs := by
  refine ⟨rfl, hn, fun _ => ⟨_, rfl, fun j p hj => ⟨[.int k p], rfl, rfl, fun i u hi => ?_⟩⟩⟩
  have : i = 0 := by
    rcases i with _ | i
    · rfl
    · simp at hi
  subst this
  obtain rfl : Value.int k p = u := by simpa using hi
  have hsz : (Kd.int k).sz = 1 := rfl
  rw [hsz, add_plain]
  have hlt : j < xs.length := (List.getElem?_eq_some_iff.1 hj).1
  have hx : xs[j] = p := (List.getElem?_eq_some_iff.1 hj).2
  simp only [World.cell?, heap_alloc_new]
  simp [hlt, hx]
theorem wf_u64 {n : Int} (h : (Lit.int .u64 n).wf = true) : 0 ≤ n ∧ n ≤ 18446744073709551615 := by
  have a : IntKind.u64.min = 0 := rfl
  have b : IntKind.u64.max = 18446744073709551615 := rfl
  simp [Lit.wf, a, b] at h
  omega
theorem wf_i64 {n : Int} (h : (Lit.int .i64 n).wf = true) : (-9223372036854775808) ≤ n ∧ n ≤ 9223372036854775807 := by
  have a : IntKind.i64.min = (-9223372036854775808) := rfl
  have b : IntKind.i64.max = 9223372036854775807 := rfl
  simp [Lit.wf, a, b] at h
  omega
theorem ret_two {k : IntKind} {x y : Int} {a b : Bool} (h : x = y) (h' : a = b) : Ending.returned (.tuple #[.int k x, .bool a]) = .returned (.tuple #[.int k y, .bool b]) := by rw [h, h']
theorem ret_string {a b : ByteArray} (h : a = b) : Ending.returned (.string a) = .returned (.string b) := by rw [h]
theorem ret_bool {a b : Bool} (h : a = b) : Ending.returned (.bool a) = .returned (.bool b) := by rw [h]
theorem ret_int {k : IntKind} {a b : Int} (h : a = b) : Ending.returned (.int k a) = .returned (.int k b) := by rw [h]
end Go.Proofs.YtplehdcnnaamkaaGreatDoor

/-! ### 40. Elements whose inner rows lie apart: what is stored into one says nothing of the others.
   S: as R, with an owner function f (block to element's index). H: as S with a hole: of element i its cells alone are told, its blocks are oki. -/
namespace Go.Proofs.YtplehdcnnaamkaaGreatDoorW.PrintWords
open Go.RowKit
namespace Kd
/-- An element with its index: its blocks are those that f gives to it. -/
def tag {α : Type} (f : Nat → Nat) (d : Kd α) : Kd (α × Nat) where
  sz := d.sz
  E := d.E
  K := fun w x cs => d.K w x.1 cs
  M := fun w base ok x cs => d.M w base (fun k => ok k ∧ f k = x.2) x.1 cs
  K_len := fun h => d.K_len h
  K_one := fun h => d.K_one h
  K_below := fun hb h => d.K_below hb h
  K_of_M := fun h => d.K_of_M h
  M_mono := fun hok h => d.M_mono (fun k hk => ⟨hok k hk.1, hk.2⟩) h
  M_bound := fun h => d.M_mono (fun _ hk => ⟨⟨hk.1.1, hk.2⟩, hk.1.2⟩) (d.M_bound h)
  M_move := fun hm h => d.M_move (fun k hk => hm k hk.1) h
  M_lower := fun hb h => d.M_lower hb h
/-- The cells themselves. -/
def raw (sz : Nat) : Kd (List Value) where
  sz := sz
  E := []
  K := fun _ x cs => cs = x ∧ cs.length = sz ∧ ∀ u ∈ cs, u.oneCell' = true
  M := fun _ _ _ x cs => cs = x ∧ cs.length = sz ∧ ∀ u ∈ cs, u.oneCell' = true
  K_len := fun h => h.2.1
  K_one := fun h => h.2.2
  K_below := fun _ h => h
  K_of_M := fun h => h
  M_mono := fun _ h => h
  M_bound := fun h => h
  M_move := fun _ h => h
  M_lower := fun _ h => h
/-- A row of elements (type e) of the call's own, no two of which lead to one block. -/
def S {α : Type} (d : Kd α) (e : Nat) (w : World) (base : Nat) (ok : Nat → Prop) (v : Value) (xs : List α) : Prop := ∃ f, (tag f d).R e w base ok v xs.zipIdx
section
variable {α β : Type} {d : Kd α} {d' : Kd β} {e e' : Nat} {w w1 W : World} {base b : Nat} {ok ok' okv oku : Nat → Prop} {u v : Value} {xs : List α} {ys : List β}
end
section
variable {α β : Type} {d : Kd α} {d' : Kd β} {e e' g : Nat} {w w1 W : World} {base b : Nat} {ok ok' okv oku : Nat → Prop} {u v : Value} {xs : List α} {ys : List β}
end
/-! #### append, make, literals: the new element's blocks are none of the elder ones' -/
section
variable {P : Program} {ops : Array Oper} {rest : List Oper} {o : Oper} {a : Act} {Q : Exit → Act → World → Prop} {Kc : Act → World → Prop} {α : Type}
end
/-! #### a row with a hole: element i is lent, its blocks are oki; of it the row says its cells alone -/
/-- Element i is these cells; the others are d's. -/
def gap {α : Type} (f : Nat → Nat) (d : Kd α) (i : Nat) (c : List Value) : Kd (α × Nat) where
  sz := d.sz
  E := d.E
  K := fun w x cs => (x.2 = i → cs = c ∧ cs.length = d.sz ∧ ∀ u ∈ cs, u.oneCell' = true) ∧ (x.2 ≠ i → d.K w x.1 cs)
  M := fun w base ok x cs => (x.2 = i → cs = c ∧ cs.length = d.sz ∧ ∀ u ∈ cs, u.oneCell' = true) ∧ (x.2 ≠ i → d.M w base (fun k => ok k ∧ f k = x.2) x.1 cs)
  K_len := fun {w x cs} h => by
    by_cases hx : x.2 = i
    · exact (h.1 hx).2.1
    · exact d.K_len (h.2 hx)
  K_one := fun {w x cs} h => by
    by_cases hx : x.2 = i
    · exact (h.1 hx).2.2
    · exact d.K_one (h.2 hx)
  K_below := fun hb h => ⟨h.1, fun hx => d.K_below hb (h.2 hx)⟩
  K_of_M := fun h => ⟨h.1, fun hx => d.K_of_M (h.2 hx)⟩
  M_mono := fun hok h => ⟨h.1, fun hx => d.M_mono (fun k hk => ⟨hok k hk.1, hk.2⟩) (h.2 hx)⟩
  M_bound := fun h => ⟨h.1, fun hx => d.M_mono (fun _ hk => ⟨⟨hk.1.1, hk.2⟩, hk.1.2⟩) (d.M_bound (h.2 hx))⟩
  M_move := fun hm h => ⟨h.1, fun hx => d.M_move (fun k hk => hm k hk.1) (h.2 hx)⟩
  M_lower := fun hb h => ⟨h.1, fun hx => d.M_lower hb (h.2 hx)⟩
def H {α : Type} (d : Kd α) (e : Nat) (w : World) (base : Nat) (ok : Nat → Prop) (v : Value) (xs : List α) (i : Int) (oki : Nat → Prop) (c : List Value) : Prop :=
  (∀ k, oki k → ok k) ∧ ∃ f, (gap f d i.toNat c).R e w base (fun k => ok k ∧ ¬ oki k) v xs.zipIdx
section
variable {α β : Type} {d : Kd α} {e e' g n cap : Nat} {w w1 W : World} {base : Nat} {ok ok' oki okp : Nat → Prop} {u v : Value} {xs : List α} {i : Int} {c : List Value}
end
section
variable {P : Program} {ops : Array Oper} {rest : List Oper} {o : Oper} {a : Act} {Q : Exit → Act → World → Prop} {α : Type}
end
end Kd
end Go.Proofs.YtplehdcnnaamkaaGreatDoorW.PrintWords

/-! ### 43. What is read beside a state: it stays read whatever the state's calls turn ('∀ W', KeepBut w W' g none → d.C W' A n xs') -/
namespace Go.Proofs.YtplehdcnnaamkaaGreatDoorW.PrintWords
open Go.RowKit
namespace Kd
/-- What a kind reads lies in the blocks: nothing else of the world is looked at. -/
structure Heap {α : Type} (d : Kd α) : Prop where
  K : ∀ {w w1 : World} {x : α} {cs : List Value}, (∀ k, k < w.heap.size → w1.heap[k]? = w.heap[k]?) → d.K w x cs → d.K w1 x cs
theorem cell_heap {w w1 : World} (hb : ∀ k, k < w.heap.size → w1.heap[k]? = w.heap[k]?) {a : Addr} {v : Value} (h : w.cell? a = some v) : w1.cell? a = some v := by
  have := hb a.block (World.block_lt_of_cell? w a h)
  simpa [World.cell?, this] using h
theorem Heap.C {α : Type} {d : Kd α} (hd : Heap d) {w w1 : World} {A : Option Addr} {n : Nat} {xs : List α} (hb : ∀ k, k < w.heap.size → w1.heap[k]? = w.heap[k]?) (h : d.C w A n xs) : d.C w1 A n xs :=
  ⟨h.1, h.2.1, fun hn => by
    obtain ⟨ad, e, hc⟩ := h.2.2 hn
    refine ⟨ad, e, fun j p hj => ?_⟩
    obtain ⟨c, hs, hr, hcell⟩ := hc j p hj
    exact ⟨c, hs, hd.K hb hr, fun i u hu => cell_heap hb (hcell i u hu)⟩⟩
section
variable {α : Type} {d : Kd α} {e base g n c : Nat} {ok : Nat → Prop} {w w0 W : World} {A : Option Addr} {xs : List α}
end
end Kd
end Go.Proofs.YtplehdcnnaamkaaGreatDoorW.PrintWords

/-! ### 45. What a call keeps: all but the blocks of S (the rows that it was given to write) and what is new since -/
namespace Go.Proofs.YtplehdcnnaamkaaGreatDoorW.PrintWords
open Go.RowKit
def Kept (w W : World) (S : Nat → Prop) : Prop := w.heap.size ≤ W.heap.size ∧ ∀ i, i < w.heap.size → ¬ S i → W.heap[i]? = w.heap[i]?
section
variable {w W W2 : World} {S S2 S' : Nat → Prop}
theorem Kept.refl (w : World) (S : Nat → Prop) : Kept w w S := ⟨Nat.le_refl _, fun _ _ _ => rfl⟩
theorem Kept.of_below (h : Below w.heap.size w W) (S : Nat → Prop) : Kept w W S := ⟨h.size, fun i hi _ => h.block i hi⟩
theorem Kept.mono (h : Kept w W S) (hs : ∀ k, S k → S' k) : Kept w W S' := ⟨h.1, fun i hi hn => h.2 i hi (fun hk => hn (hs i hk))⟩
theorem Kept.then_ (h : Kept w W S) (k : Kept W W2 S2) (hs : ∀ k, S2 k → S k ∨ w.heap.size ≤ k) : Kept w W2 S :=
  ⟨Nat.le_trans h.1 k.1, fun i hi hn => (k.2 i (Nat.lt_of_lt_of_le hi h.1) (fun h2 => (hs i h2).elim hn (fun h3 => by omega))).trans (h.2 i hi hn)⟩
theorem Kept.below (h : Kept w W S) (hb : Below W.heap.size W W2) : Kept w W2 S := h.then_ (Kept.of_below hb (fun _ => False)) (fun _ hk => hk.elim)
theorem Kept.alloc (h : Kept w W S) (o : Obj) : Kept w (W.alloc o) S := h.below (below_alloc (Below.refl _ _) o)
theorem Kept.drew (h : Kept w W S) : Kept w W.drew S := h
theorem Kept.drewN (h : Kept w W S) (m : Nat) : Kept w (W.drewN m) S := h
theorem Kept.setCell (h : Kept w W S) {p : Addr} (hp : S p.block ∨ w.heap.size ≤ p.block) (u : Value) : Kept w (W.setCell p u) S :=
  h.then_ (S2 := fun k => k = p.block) ⟨by simp [World.setCell], fun i _ hn => Below.heap_setCell W p u i hn⟩ (fun k hk => by rw [hk]; exact hp)
/-- Beside a state: what was written is new since. -/
theorem Kept.keep {g : Nat} (h : KeepBut w W g none) (k : Kept W W2 S2) (hs : ∀ k, S2 k → w.heap.size ≤ k) : KeepBut w W2 g none :=
  ⟨Nat.le_trans h.1 k.1, fun i hi hg hr => (k.2 i (Nat.lt_of_lt_of_le hi h.1) (fun h2 => by have := hs i h2; omega)).trans (h.2 i hi hg hr)⟩
end
namespace Kd
section
variable {α : Type} {d : Kd α} {e base n c : Nat} {ok oki S S2 : Nat → Prop} {w w0 W W1 W2 : World} {v : Value} {A : Option Addr} {xs : List α} {i : Int} {cs : List Value}
end
end Kd
end Go.Proofs.YtplehdcnnaamkaaGreatDoorW.PrintWords

/-! ### 46. Values that share: what is only read, with the blocks it lies in (its footprint 'ok'): Foot, F (a row that is read), FK (an element's cells) -/
namespace Go.Proofs.YtplehdcnnaamkaaGreatDoorW.PrintWords
open Go.RowKit
/-- P holds in W and in every world that has W's blocks of ok. -/
def Foot (P : World → Prop) (W : World) (ok : Nat → Prop) : Prop := ∀ W' : World, (∀ k, ok k → k < W.heap.size → W'.heap[k]? = W.heap[k]?) → P W'
theorem heap_lt {W W1 : World} {k : Nat} (h : W1.heap[k]? = W.heap[k]?) (hlt : k < W.heap.size) : k < W1.heap.size := by
  rw [Array.getElem?_eq_getElem hlt] at h
  exact (Array.getElem?_eq_some_iff.1 h).1
namespace Foot
variable {P Q : World → Prop} {W W1 : World} {ok ok' : Nat → Prop}
theorem mono (h : Foot P W ok) (hok : ∀ k, ok k → ok' k) : Foot P W ok' := fun W' hW => h W' (fun k hk hlt => hW k (hok k hk) hlt)
theorem step (h : Foot P W ok) (hm : ∀ k, ok k → k < W.heap.size → W1.heap[k]? = W.heap[k]?) : Foot P W1 ok := fun W' hW => h W' (fun k hk hlt => (hW k hk (heap_lt (hm k hk hlt) hlt)).trans (hm k hk hlt))
theorem imp (h : Foot P W ok) (hi : ∀ W', P W' → Q W') : Foot Q W ok := fun W' hW => hi W' (h W' hW)
end Foot
namespace Kd
/-- A row that is only read: what it leads to lies in ok. -/
def F {α : Type} (d : Kd α) (W : World) (ok : Nat → Prop) (A : Option Addr) (n : Nat) (xs : List α) : Prop := Foot (fun W => d.C W A n xs) W ok
/-- An element's cells: what they lead to lies in ok. -/
def FK {α : Type} (d : Kd α) (W : World) (ok : Nat → Prop) (x : α) (c : List Value) : Prop := Foot (fun W => d.K W x c) W ok
section
variable {α β : Type} {d : Kd α} {e base n n' cc g N : Nat} {ok ok' okp S : Nat → Prop} {w w0 w1 W W1 : World} {A A' : Option Addr} {u v v1 : Value} {xs : List α} {xs' : List β} {d' : Kd β} {x : α} {c : List Value}
end
end Kd
end Go.Proofs.YtplehdcnnaamkaaGreatDoorW.PrintWords

/-! ### 47. N: a row of the call's own whose elements share (what they lead to is only read) -/
namespace Go.Proofs.YtplehdcnnaamkaaGreatDoorW.PrintWords
open Go.RowKit
namespace Kd
section
variable {α : Type} {d : Kd α} {e base n cc g : Nat} {ok ok' okp S : Nat → Prop} {w w1 W W1 : World} {A : Option Addr} {u v v1 : Value} {xs : List α} {x : α} {c : List Value}
/-- A row of elements (type e) of the call's own; what the elements lead to is only read, and is not this row. -/
def N {α : Type} (d : Kd α) (e : Nat) (w : World) (base : Nat) (ok : Nat → Prop) (v : Value) (xs : List α) : Prop :=
  (∀ k, v.ownBlock = some k → ok k) ∧ ∃ rows : List (List Value), rows.length = xs.length ∧ (raw d.sz).R e w base (fun k => some k = v.ownBlock) v rows ∧ ∀ (j : Nat) (x : α) (c : List Value), xs[j]? = some x → rows[j]? = some c → FK d w (fun k => ok k ∧ some k ≠ v.ownBlock) x c
end
end Kd
end Go.Proofs.YtplehdcnnaamkaaGreatDoorW.PrintWords

-- PRINTED WORDS (module Derived/Print/More.lean): go-gate-2's additions: an AI agent of Go's test side, Tue Nov 17 2026; no person has read it. Lean checks it.
namespace Go.Proofs.YtplehdcnnaamkaaGreatDoorW.PrintMore
open Go.RowKit Go.Proofs.YtplehdcnnaamkaaGreatDoorW.PrintWords
namespace Kd
open Go.Proofs.YtplehdcnnaamkaaGreatDoorW.PrintWords.Kd
end Kd

namespace Kd
open Go.Proofs.YtplehdcnnaamkaaGreatDoorW.PrintWords.Kd
section
variable {α : Type} {d : Kd α} {e base g N : Nat} {ok : Nat → Prop} {W w1 : World} {u v : Value} {xs : List α}
end
end Kd
end Go.Proofs.YtplehdcnnaamkaaGreatDoorW.PrintMore
namespace Go.Proofs.YtplehdcnnaamkaaGreatDoorW.PrintWords
open Go.RowKit
section
variable {P : Program} {ops : Array Oper} {rest : List Oper} {o : Oper} {a : Act} {Q : Exit → Act → World → Prop} {W : World}
/-- The operation is a builtin over these places. -/
theorem gate_builtin {b : Builtin} {xs : Array Operand} {ts : Array TypeId} (_ho : o.op = .call { callee := .builtin b, args := xs, argTypes := ts }) (h : wpList P ops Q (o :: rest) a W) : wpList P ops Q (o :: rest) a W := h
end
/-- The greater of two whole numbers, as Go's max tells it. -/
def mx (a b : Int) : Int := if a < b then b else a
namespace Kd
section
variable {α : Type} {d : Kd α} {e base : Nat} {ok : Nat → Prop} {W w1 : World} {v : Value} {xs : List α}
end
section
variable {α : Type} {d : Kd α} {e base g n cap : Nat} {ok oki okp : Nat → Prop} {W : World} {xs : List α} {i : Int} {c : List Value}
end
section
variable {α : Type} {d : Kd α} {e base b b' g N : Nat} {ok ok1 : Nat → Prop} {W W2 w1 : World} {u v : Value} {xs ys : List α} {S : Nat → Prop}
end
end Kd
end Go.Proofs.YtplehdcnnaamkaaGreatDoorW.PrintWords
namespace Go.Proofs.YtplehdcnnaamkaaGreatDoorW.PrintWords
open Go.RowKit
namespace Kd
section
variable {α β : Type} {d : Kd α} {e base base' n m c g N' lo hi : Nat} {ok ok' S : Nat → Prop} {w W w1 : World} {A : Option Addr} {ad : Addr} {u v v1 : Value} {xs : List α}
end
end Kd
end Go.Proofs.YtplehdcnnaamkaaGreatDoorW.PrintWords

/- The head that all walks of this seat import. -/
namespace Go.Proofs.YtplehdcnnaamkaaGreatDoor
theorem info_u8 : (Tryz.prog.info? 5).map (fun i => (i.zero, i.size, i.bytes)) = some (some (.int .u8 0), 1, 1) := by kernel_rfl
theorem info_rune : (Tryz.prog.info? 21).map (fun i => (i.zero, i.size, i.bytes)) = some (some (.int .i32 0), 1, 4) := by kernel_rfl
theorem info_string : (Tryz.prog.info? 9).map (fun i => (i.zero, i.size, i.bytes)) = some (some (.string ⟨#[]⟩), 1, 16) := by kernel_rfl
end Go.Proofs.YtplehdcnnaamkaaGreatDoor

/- Addresses of eight pieces: put together of pieces (six.of), told as pieces. -/
namespace Go.Proofs.YtplehdcnnaamkaaGreatDoor
open Go.RowKit Go.Proofs.YtplehdcnnaamkaaGreatDoorW.PrintWords Go.Proofs.YtplehdcnnaamkaaGreatDoorW.PrintMore

/-- Pieces, put together. -/
def half (xs : List Int) : Int := xs.foldl (fun a x => a * 65536 + x) 0
def preH (xs : List Int) (j : Nat) : Int := half ((xs.take 4).take j)
def preL (xs : List Int) (j : Nat) : Int := half ((xs.drop 4).take (j - 4))
theorem idx8 (a b c d e f g h : Value) (j : Nat) (hj : j < 8) (w : World) : (Instr.index 103 (.agg #[a, b, c, d, e, f, g, h]) (.int .i64 j)).run Tryz.prog w = .ok (#[a, b, c, d, e, f, g, h].getD j undef) w := by
  have hs := Tryz.sizeOf102
  have ha := Tryz.isAgg102
  have hj8 : j = 0 ∨ j = 1 ∨ j = 2 ∨ j = 3 ∨ j = 4 ∨ j = 5 ∨ j = 6 ∨ j = 7 := by omega
  rcases hj8 with rfl | rfl | rfl | rfl | rfl | rfl | rfl | rfl <;> simp [Instr.index, run_underlying Tryz.underlying103, asIntOf, go_sem, part, hs, ha]

theorem heap_alloc_new' (w : World) (o : Obj) (k : Nat) (h : k = w.heap.size) : (w.alloc o).heap[k]? = some o := by
  subst h
  exact heap_alloc_new w o
theorem heap_alloc_old' (w : World) (o : Obj) (k : Nat) (h : k < w.heap.size) : (w.alloc o).heap[k]? = w.heap[k]? := by
  show (w.heap.push o)[k]? = _
  rw [Array.getElem?_push, if_neg (by omega)]
theorem heap_set0 {w : World} {g : Nat} {a b : Value} {t : TypeId} (v : Value) (hg : w.heap[g]? = some (.cells #[a, b] t (0, 0))) : (w.setCell ⟨g, 0, none⟩ v).heap[g]? = some (.cells #[v, b] t (0, 0)) := by
  rw [setCell_eq_setRow w g 0 #[a, b] t (0, 0) v hg]
  exact setRow_heap w g _ _ t _ hg
theorem heap_set1 {w : World} {g : Nat} {a b : Value} {t : TypeId} (v : Value) (hg : w.heap[g]? = some (.cells #[a, b] t (0, 0))) : (w.setCell ⟨g, 1, none⟩ v).heap[g]? = some (.cells #[a, v] t (0, 0)) := by
  rw [setCell_eq_setRow w g 1 #[a, b] t (0, 0) v hg]
  exact setRow_heap w g _ _ t _ hg
theorem heap_cell {w : World} {g j : Nat} {cs : Array Value} {t : TypeId} {v : Value} (hg : w.heap[g]? = some (.cells cs t (0, 0))) (h : cs[j]? = some v) : w.cell? ⟨g, j, none⟩ = some v ∧ w.frozen? ⟨g, j, none⟩ = false := by
  have hj := (Array.getElem?_eq_some_iff.1 h).1
  exact ⟨by rw [cell_of_row w g j cs t (0, 0) hg, h], by simp [World.frozen?, hg]⟩
theorem heap_set_other {w : World} {g k : Nat} {off : Nat} (v : Value) (h : k ≠ g) : (w.setCell ⟨g, off, none⟩ v).heap[k]? = w.heap[k]? := by
  exact Below.heap_setCell w ⟨g, off, none⟩ v k h

set_option maxHeartbeats 2000000 in
set_option maxRecDepth 100000 in
theorem of_calls (x0 x1 x2 x3 x4 x5 x6 x7 : Int) (h0 : 0 ≤ x0 ∧ x0 ≤ 65535) (h1 : 0 ≤ x1 ∧ x1 ≤ 65535) (h2 : 0 ≤ x2 ∧ x2 ≤ 65535) (h3 : 0 ≤ x3 ∧ x3 ≤ 65535) (h4 : 0 ≤ x4 ∧ x4 ≤ 65535) (h5 : 0 ≤ x5 ∧ x5 ≤ 65535) (h6 : 0 ≤ x6 ∧ x6 ≤ 65535) (h7 : 0 ≤ x7 ∧ x7 ≤ 65535) (w : World) :
    Calls Tryz.prog 93 #[.agg #[.int .u16 x0, .int .u16 x1, .int .u16 x2, .int .u16 x3, .int .u16 x4, .int .u16 x5, .int .u16 x6, .int .u16 x7]] w fun e w' => e = .returned (.agg #[.int .u64 (half [x0, x1, x2, x3]), .int .u64 (half [x4, x5, x6, x7])]) ∧ Below w.heap.size w w' := by
  go_enter Tryz.func93, Tryz.ntmps93
  go_wp2_with fail
  go_loopw [7] (fun ii wr => ∃ (j : Nat) (h l : Int), ii = .int .i64 j ∧ j ≤ 8 ∧ Aside0 (h = preH [x0, x1, x2, x3, x4, x5, x6, x7] j) ∧ Aside0 (l = preL [x0, x1, x2, x3, x4, x5, x6, x7] j) ∧ Aside0 (wr.heap[w.heap.size + 1 + 1]? = some (.cells #[.int .u64 h, .int .u64 l] 34 (0, 0))) ∧ Aside0 (wr.heap[w.heap.size + 1]? = some (.cells #[.int .u64 0, .int .u64 0] 34 (0, 0))) ∧ Aside0 (Below w.heap.size w wr)) (fun i _ => 8 - (intOf i).toNat)
  case atStart =>
    refine ⟨0, 0, 0, rfl, by omega, ⟨rfl⟩, ⟨rfl⟩, ⟨?_⟩, ⟨?_⟩, ⟨((((Below.refl _ _).alloc (Nat.le_refl _) _).alloc (by simp) _).alloc (by simp; omega) _)⟩⟩
    · exact heap_alloc_new' _ _ _ (by simp)
    · rw [heap_alloc_old' _ _ _ (by simp)]
      exact heap_alloc_new' _ _ _ (by simp)
  case round =>
    obtain ⟨j, h, l, rfl, hj, eh, el, hg, hr, hbw⟩ := hrel
    have c0 := heap_cell (j := 0) hg.out rfl
    have c1 := heap_cell (j := 1) hg.out rfl
    obtain ⟨c0, f0⟩ := c0
    obtain ⟨c1, f1⟩ := c1
    by_cases hlt : j < 8
    · have hix := idx8 (.int .u16 x0) (.int .u16 x1) (.int .u16 x2) (.int .u16 x3) (.int .u16 x4) (.int .u16 x5) (.int .u16 x6) (.int .u16 x7) j hlt
      have hj8 : j = 0 ∨ j = 1 ∨ j = 2 ∨ j = 3 ∨ j = 4 ∨ j = 5 ∨ j = 6 ∨ j = 7 := by omega
      rcases hj8 with rfl | rfl | rfl | rfl | rfl | rfl | rfl | rfl
      all_goals
        simp only [Int.cast_ofNat_Int, Array.getD_eq_getD_getElem?] at hix
        have eh1 := eh.out
        have el1 := el.out
        simp only [preH, preL, half, List.take, List.drop, List.foldl, Nat.reduceSub] at eh1 el1
        have EH := Lib.hid eh1
        have EL := Lib.hid el1
      · have hb : 0 ≤ h ∧ h < 281474976710656 := by omega
        have hor := or_u64 16 h x0 (by omega) (by omega) (by simp only [Int.reducePow]; omega) (by simp only [Int.reducePow]; omega) (by omega)
        simp only [Int.reducePow] at hor
        clear eh1 el1
        go_wp2_with fail
        go_roundw
        case rel => exact ⟨1, h * 65536 + x0, l, rfl, by omega, ⟨by simp only [preH, half, List.take, List.foldl]; rw [EH.out]⟩, ⟨by simp only [preL, half, List.take, List.drop, List.foldl, Nat.reduceSub]; rw [EL.out]⟩, ⟨heap_set0 _ hg.out⟩, ⟨(heap_set_other _ (by omega)).trans hr.out⟩, ⟨hbw.out.setCell (by show w.heap.size ≤ w.heap.size + 1 + 1; omega) _⟩⟩
        case measure => simp [intOf]
      · have hb : 0 ≤ h ∧ h < 281474976710656 := by omega
        have hor := or_u64 16 h x1 (by omega) (by omega) (by simp only [Int.reducePow]; omega) (by simp only [Int.reducePow]; omega) (by omega)
        simp only [Int.reducePow] at hor
        clear eh1 el1
        go_wp2_with fail
        go_roundw
        case rel => exact ⟨2, h * 65536 + x1, l, rfl, by omega, ⟨by simp only [preH, half, List.take, List.foldl]; rw [EH.out]⟩, ⟨by simp only [preL, half, List.take, List.drop, List.foldl, Nat.reduceSub]; rw [EL.out]⟩, ⟨heap_set0 _ hg.out⟩, ⟨(heap_set_other _ (by omega)).trans hr.out⟩, ⟨hbw.out.setCell (by show w.heap.size ≤ w.heap.size + 1 + 1; omega) _⟩⟩
        case measure => simp [intOf]
      · have hb : 0 ≤ h ∧ h < 281474976710656 := by omega
        have hor := or_u64 16 h x2 (by omega) (by omega) (by simp only [Int.reducePow]; omega) (by simp only [Int.reducePow]; omega) (by omega)
        simp only [Int.reducePow] at hor
        clear eh1 el1
        go_wp2_with fail
        go_roundw
        case rel => exact ⟨3, h * 65536 + x2, l, rfl, by omega, ⟨by simp only [preH, half, List.take, List.foldl]; rw [EH.out]⟩, ⟨by simp only [preL, half, List.take, List.drop, List.foldl, Nat.reduceSub]; rw [EL.out]⟩, ⟨heap_set0 _ hg.out⟩, ⟨(heap_set_other _ (by omega)).trans hr.out⟩, ⟨hbw.out.setCell (by show w.heap.size ≤ w.heap.size + 1 + 1; omega) _⟩⟩
        case measure => simp [intOf]
      · have hb : 0 ≤ h ∧ h < 281474976710656 := by omega
        have hor := or_u64 16 h x3 (by omega) (by omega) (by simp only [Int.reducePow]; omega) (by simp only [Int.reducePow]; omega) (by omega)
        simp only [Int.reducePow] at hor
        clear eh1 el1
        go_wp2_with fail
        go_roundw
        case rel => exact ⟨4, h * 65536 + x3, l, rfl, by omega, ⟨by simp only [preH, half, List.take, List.foldl]; rw [EH.out]⟩, ⟨by simp only [preL, half, List.take, List.drop, List.foldl, Nat.reduceSub]; rw [EL.out]⟩, ⟨heap_set0 _ hg.out⟩, ⟨(heap_set_other _ (by omega)).trans hr.out⟩, ⟨hbw.out.setCell (by show w.heap.size ≤ w.heap.size + 1 + 1; omega) _⟩⟩
        case measure => simp [intOf]
      · have hb : 0 ≤ l ∧ l < 281474976710656 := by omega
        have hor := or_u64 16 l x4 (by omega) (by omega) (by simp only [Int.reducePow]; omega) (by simp only [Int.reducePow]; omega) (by omega)
        simp only [Int.reducePow] at hor
        clear eh1 el1
        go_wp2_with fail
        go_roundw
        case rel => exact ⟨5, h, l * 65536 + x4, rfl, by omega, ⟨by simp only [preH, half, List.take, List.foldl]; rw [EH.out]⟩, ⟨by simp only [preL, half, List.take, List.drop, List.foldl, Nat.reduceSub]; rw [EL.out]⟩, ⟨heap_set1 _ hg.out⟩, ⟨(heap_set_other _ (by omega)).trans hr.out⟩, ⟨hbw.out.setCell (by show w.heap.size ≤ w.heap.size + 1 + 1; omega) _⟩⟩
        case measure => simp [intOf]
      · have hb : 0 ≤ l ∧ l < 281474976710656 := by omega
        have hor := or_u64 16 l x5 (by omega) (by omega) (by simp only [Int.reducePow]; omega) (by simp only [Int.reducePow]; omega) (by omega)
        simp only [Int.reducePow] at hor
        clear eh1 el1
        go_wp2_with fail
        go_roundw
        case rel => exact ⟨6, h, l * 65536 + x5, rfl, by omega, ⟨by simp only [preH, half, List.take, List.foldl]; rw [EH.out]⟩, ⟨by simp only [preL, half, List.take, List.drop, List.foldl, Nat.reduceSub]; rw [EL.out]⟩, ⟨heap_set1 _ hg.out⟩, ⟨(heap_set_other _ (by omega)).trans hr.out⟩, ⟨hbw.out.setCell (by show w.heap.size ≤ w.heap.size + 1 + 1; omega) _⟩⟩
        case measure => simp [intOf]
      · have hb : 0 ≤ l ∧ l < 281474976710656 := by omega
        have hor := or_u64 16 l x6 (by omega) (by omega) (by simp only [Int.reducePow]; omega) (by simp only [Int.reducePow]; omega) (by omega)
        simp only [Int.reducePow] at hor
        clear eh1 el1
        go_wp2_with fail
        go_roundw
        case rel => exact ⟨7, h, l * 65536 + x6, rfl, by omega, ⟨by simp only [preH, half, List.take, List.foldl]; rw [EH.out]⟩, ⟨by simp only [preL, half, List.take, List.drop, List.foldl, Nat.reduceSub]; rw [EL.out]⟩, ⟨heap_set1 _ hg.out⟩, ⟨(heap_set_other _ (by omega)).trans hr.out⟩, ⟨hbw.out.setCell (by show w.heap.size ≤ w.heap.size + 1 + 1; omega) _⟩⟩
        case measure => simp [intOf]
      · have hb : 0 ≤ l ∧ l < 281474976710656 := by omega
        have hor := or_u64 16 l x7 (by omega) (by omega) (by simp only [Int.reducePow]; omega) (by simp only [Int.reducePow]; omega) (by omega)
        simp only [Int.reducePow] at hor
        clear eh1 el1
        go_wp2_with fail
        go_roundw
        case rel => exact ⟨8, h, l * 65536 + x7, rfl, by omega, ⟨by simp only [preH, half, List.take, List.foldl]; rw [EH.out]⟩, ⟨by simp only [preL, half, List.take, List.drop, List.foldl, Nat.reduceSub]; rw [EL.out]⟩, ⟨heap_set1 _ hg.out⟩, ⟨(heap_set_other _ (by omega)).trans hr.out⟩, ⟨hbw.out.setCell (by show w.heap.size ≤ w.heap.size + 1 + 1; omega) _⟩⟩
        case measure => simp [intOf]
    · obtain rfl : j = 8 := by omega
      obtain ⟨r0, g0⟩ := heap_cell (j := 0) hr.out rfl
      obtain ⟨r1, g1⟩ := heap_cell (j := 1) hr.out rfl
      go_wp2_with fail
      refine bodyPost_ret (results_cell_row rfl _ _ (w.heap.size + 1) 34 _ (0, 0) _ rfl (heap_set1 _ (heap_set0 _ hr.out)) Tryz.underlying34 rfl (by kernel_rfl)) rfl ?_
      refine ⟨?_, (hbw.out.setCell (by show w.heap.size ≤ w.heap.size + 1; omega) _).setCell (by show w.heap.size ≤ w.heap.size + 1; omega) _⟩
      rw [eh.out, el.out]
      rfl
end Go.Proofs.YtplehdcnnaamkaaGreatDoor

/- Prefixes: the mask, walked. -/
namespace Go.Proofs.YtplehdcnnaamkaaGreatDoor
open Go.RowKit Go.Proofs.YtplehdcnnaamkaaGreatDoorW.PrintWords Go.Proofs.YtplehdcnnaamkaaGreatDoorW.PrintMore

theorem wrap_low (k : Nat) (hk : k ≤ 64) : IntKind.u64.wrap (IntKind.u64.wrap (2 ^ k) - 1) = 2 ^ k - 1 := by
  have e : ∀ n, IntKind.u64.wrap n = n % 18446744073709551616 := fun n => by simp [IntKind.wrap, IntKind.signed, IntKind.bits]
  have hp : (2 : Int) ^ k ≤ 18446744073709551616 := by
    have : 2 ^ k ≤ 2 ^ 64 := Nat.pow_le_pow_right (by omega) hk
    have h2 : ((2 ^ k : Nat) : Int) = (2 : Int) ^ k := by rw [Int.natCast_pow]; rfl
    omega
  have hq : (0 : Int) < 2 ^ k := Int.pow_pos (by omega)
  rw [e, e]
  generalize (2 : Int) ^ k = x at hp hq
  omega
set_option maxRecDepth 100000 in
theorem mask_calls (hi lo : Int) (n : Nat) (hn : n ≤ 128) (h0 : 0 ≤ hi ∧ hi < 18446744073709551616) (h1 : 0 ≤ lo ∧ lo < 18446744073709551616) (w : World) :
    Calls Tryz.prog 69 #[.int .u64 hi, .int .u64 lo, .int .i64 n] w fun e w' => e = .returned (.tuple #[.int .u64 (if n < 64 then hi - hi % 2 ^ (64 - n) else hi), .int .u64 (if n < 64 then 0 else lo - lo % 2 ^ (128 - n))]) ∧ Below w.heap.size w w' := by
  by_cases h : n < 64
  · have E := Lib.hid (show bits .andNot .u64 hi (IntKind.u64.wrap (IntKind.u64.wrap (2 ^ (64 - n)) - 1)) = hi - hi % 2 ^ (64 - n) by rw [wrap_low _ (by omega), strike_low hi _ h0.1 h0.2 (by omega)])
    go_enter Tryz.func69, Tryz.ntmps69
    go_wp2_with fail
    go_ret2
    refine ⟨?_, Below.refl _ _⟩
    show Ending.returned (.tuple #[.int .u64 (bits .andNot .u64 hi (IntKind.u64.wrap (IntKind.u64.wrap (2 ^ (64 - n)) - 1))), .int .u64 0]) = _
    rw [E.out]
  · have E := Lib.hid (show bits .andNot .u64 lo (IntKind.u64.wrap (IntKind.u64.wrap (2 ^ (128 - n)) - 1)) = lo - lo % 2 ^ (128 - n) by rw [wrap_low _ (by omega), strike_low lo _ h1.1 h1.2 (by omega)])
    go_enter Tryz.func69, Tryz.ntmps69
    go_wp2_with fail
    go_region
    all_goals
      go_wp2_with fail
      go_ret2
      refine ⟨?_, (Below.refl _ _).drew⟩
      show Ending.returned (.tuple #[.int .u64 hi, .int .u64 (bits .andNot .u64 lo (IntKind.u64.wrap (IntKind.u64.wrap (2 ^ (128 - n)) - 1)))]) = _
      rw [E.out]
end Go.Proofs.YtplehdcnnaamkaaGreatDoor

/- Prefixes: is it one; its bits; walked. -/
namespace Go.Proofs.YtplehdcnnaamkaaGreatDoor
open Go.RowKit Go.Proofs.YtplehdcnnaamkaaGreatDoorW.PrintWords Go.Proofs.YtplehdcnnaamkaaGreatDoorW.PrintMore

theorem mask_calls' (hi lo : Int) (n : Nat) (hn : n ≤ 128) (h0 : 0 ≤ hi ∧ hi < 18446744073709551616) (h1 : 0 ≤ lo ∧ lo < 18446744073709551616) (w : World) :
    Calls Tryz.prog 69 #[.int .u64 hi, .int .u64 lo, .int .i64 n] w fun e w' => e = .returned (.tuple #[.int .u64 (mHi hi n), .int .u64 (mLo lo n)]) ∧ Below w.heap.size w w' := mask_calls hi lo n hn h0 h1 w
set_option maxRecDepth 100000 in
theorem Right_calls (hi lo n : Int) (h0 : 0 ≤ hi ∧ hi < 18446744073709551616) (h1 : 0 ≤ lo ∧ lo < 18446744073709551616) (w : World) :
    Calls Tryz.prog 22 #[.agg #[.int .u64 hi, .int .u64 lo, .int .i64 n]] w fun e w' => e = .returned (.bool (rightP hi lo n)) ∧ Below w.heap.size w w' := by
  obtain ⟨W0, hW0⟩ : ∃ W0, W0 = w.alloc (.cells #[.int .u64 hi, .int .u64 lo, .int .i64 n] 25) := ⟨_, rfl⟩
  have hg : W0.heap[w.heap.size]? = some (.cells #[.int .u64 hi, .int .u64 lo, .int .i64 n] 25 (0, 0)) := by rw [hW0]; exact heap_alloc_new' _ _ _ rfl
  have hl : w.heap.size < W0.heap.size := by rw [hW0]; simp
  have B0 : Aside0 (Below w.heap.size w W0) := ⟨by rw [hW0]; exact (Below.refl _ _).alloc (Nat.le_refl _) _⟩
  have HW := Lib.hid hW0
  have HG := Aside0.mk hg
  clear hg hW0
  by_cases hn : n < 0
  · have E := Lib.hid (rightP_neg hi lo n (by omega))
    go_enter Tryz.func22, Tryz.ntmps22
    go_wp2_with fail
    go_ret
    exact ⟨ret_bool E.out.symm, by rw [← HW.out]; exact B0.out⟩
  · by_cases hm : 128 < n
    · have E := Lib.hid (rightP_neg hi lo n (by omega))
      go_enter Tryz.func22, Tryz.ntmps22
      go_wp2_with fail
      go_ret
      exact ⟨ret_bool E.out.symm, by rw [← HW.out]; exact B0.out⟩
    · obtain ⟨m, rfl⟩ : ∃ m : Nat, n = m := ⟨n.toNat, by omega⟩
      have E := Lib.hid (show rightP hi lo m = (mHi hi m == hi && mLo lo m == lo) by rw [rightP, decide_eq_true (by omega), Bool.true_and, Int.toNat_natCast])
      go_enter Tryz.func22, Tryz.ntmps22
      go_wp2_with fail
      rw [← HW.out]
      refine (mask_calls' hi lo m (by omega) h0 h1 _).mono ?_
      rintro e w1 ⟨rfl, b1⟩
      have hg1 := (b1.block _ hl).trans HG.out
      have B1 := Aside0.mk (below_then B0.out B0.out.size b1)
      obtain ⟨k0, _⟩ := heap_cell (j := 0) hg1 rfl
      obtain ⟨k1, _⟩ := heap_cell (j := 1) hg1 rfl
      clear b1 hg1
      generalize mHi hi m = x at E ⊢
      generalize mLo lo m = y at E ⊢
      by_cases hx : x = hi
      · subst hx
        go_wp2_with fail
        go_ret
        exact ⟨ret_bool (by rw [E.out]; simp; try rfl), B1.out⟩
      · have hx' : (x == hi) = false := by simpa using hx
        have E2 := Lib.hid (show rightP hi lo m = false by rw [E.out, hx', Bool.false_and])
        go_wp2_with fail
        go_ret
        exact ⟨ret_bool (by rw [E2.out]), B1.out⟩
end Go.Proofs.YtplehdcnnaamkaaGreatDoor

/- The document's bits, prefixes; walked. -/
namespace Go.Proofs.YtplehdcnnaamkaaGreatDoor
open Go.RowKit Go.Proofs.YtplehdcnnaamkaaGreatDoorW.PrintWords Go.Proofs.YtplehdcnnaamkaaGreatDoorW.PrintMore

/-- A struct's block, laid for a parameter. -/
theorem box3 {w W0 : World} {a b c : Value} {t : TypeId} (hW0 : W0 = w.alloc (.cells #[a, b, c] t)) : W0.heap[w.heap.size]? = some (.cells #[a, b, c] t (0, 0)) ∧ w.heap.size < W0.heap.size ∧ Below w.heap.size w W0 := by
  subst hW0
  exact ⟨heap_alloc_new' _ _ _ rfl, by simp, (Below.refl _ _).alloc (Nat.le_refl _) _⟩
end Go.Proofs.YtplehdcnnaamkaaGreatDoor

/- Prefixes: a bit; what the document's prefix has, of an address; walked. -/
namespace Go.Proofs.YtplehdcnnaamkaaGreatDoor
open Go.RowKit Go.Proofs.YtplehdcnnaamkaaGreatDoorW.PrintWords Go.Proofs.YtplehdcnnaamkaaGreatDoorW.PrintMore

theorem bit_and (x : Int) (k : Nat) (h : 0 ≤ x ∧ x < 18446744073709551616) : wrap64 (bits .and .u64 (x / 2 ^ k) 1) = tb x k := by
  have h1 : 0 ≤ x / 2 ^ k := Int.ediv_nonneg h.1 (Int.le_of_lt (pow64 k))
  have h2 : x / 2 ^ k ≤ x := Int.ediv_le_self _ h.1
  have e := and_low (x / 2 ^ k) 1 h1 (by omega) (by omega)
  rw [show (2 : Int) ^ 1 - 1 = 1 from rfl, show (2 : Int) ^ 1 = 2 from rfl] at e
  rw [e, tb]
  unfold wrap64
  omega
set_option maxRecDepth 100000 in
theorem Bit_calls (hi lo n : Int) (i : Nat) (hi' : i < 128) (h0 : 0 ≤ hi ∧ hi < 18446744073709551616) (h1 : 0 ≤ lo ∧ lo < 18446744073709551616) (w : World) :
    Calls Tryz.prog 20 #[.agg #[.int .u64 hi, .int .u64 lo, .int .i64 n], .int .i64 i] w fun e w' => e = .returned (.int .i64 (pBit hi lo i)) ∧ Below w.heap.size w w' := by
  obtain ⟨W0, hW0⟩ : ∃ W0, W0 = w.alloc (.cells #[.int .u64 hi, .int .u64 lo, .int .i64 n] 25) := ⟨_, rfl⟩
  obtain ⟨hg, hl, hb⟩ := box3 hW0
  have B0 := Aside0.mk hb
  have HW := Lib.hid hW0
  clear hg hW0 hb
  by_cases h : i < 64
  · have E := Lib.hid (show wrap64 (bits .and .u64 (hi / 2 ^ (63 - i)) 1) = pBit hi lo i by rw [bit_and hi _ h0, pBit, if_pos h])
    go_enter Tryz.func20, Tryz.ntmps20
    go_wp2_with fail
    go_ret
    exact ⟨ret_int E.out, by rw [← HW.out]; exact B0.out⟩
  · have E := Lib.hid (show wrap64 (bits .and .u64 (lo / 2 ^ (127 - i)) 1) = pBit hi lo i by rw [bit_and lo _ h1, pBit, if_neg h])
    go_enter Tryz.func20, Tryz.ntmps20
    go_wp2_with fail
    go_ret
    exact ⟨ret_int E.out, by rw [← HW.out]; exact B0.out⟩
set_option maxRecDepth 100000 in
/-- Outside the number there is no bit. -/
theorem Bit_out (hi lo n i : Int) (ho : i < 0 ∨ 128 ≤ i) (w : World) :
    Calls Tryz.prog 20 #[.agg #[.int .u64 hi, .int .u64 lo, .int .i64 n], .int .i64 i] w fun e w' => e = .returned (.int .i64 0) ∧ Below w.heap.size w w' := by
  by_cases h : i < 0
  · go_enter Tryz.func20, Tryz.ntmps20
    go_wp2_with fail
    go_ret
    exact ⟨rfl, (Below.refl _ _).alloc (Nat.le_refl _) _⟩
  · have h' : 128 ≤ i := by omega
    go_enter Tryz.func20, Tryz.ntmps20
    go_wp2_with fail
    go_ret
    exact ⟨rfl, (Below.refl _ _).alloc (Nat.le_refl _) _⟩

theorem cell_of_lt {w : World} {g : Nat} {j : Nat} {v : Value} (h : w.cell? ⟨g, j, none⟩ = some v) : g < w.heap.size := World.block_lt_of_cell? _ _ h
theorem hasP_wrong (hi lo n a b : Int) (h : rightP hi lo n = false) : hasP hi lo n a b = false := by
  rw [hasP, h, Bool.false_and]
end Go.Proofs.YtplehdcnnaamkaaGreatDoor

/- Or of whole numbers of 64 bits with a sign; shifts of 16 bits: plain Lean. -/
namespace Go.Proofs.YtplehdcnnaamkaaGreatDoor

theorem bits_or_i64_nat (a b : Nat) (ha : a < 9223372036854775808) (hb : b < 9223372036854775808) :
    bits .or .i64 (a : Int) (b : Int) = ((a ||| b : Nat) : Int) := by
  have hx : a ||| b < 2 ^ 63 := Nat.or_lt_two_pow (by omega) (by omega)
  have h1 : (BitVec.ofInt 64 (a : Int)).toNat = a := by
    rw [BitVec.ofInt_natCast, BitVec.toNat_ofNat]; exact Nat.mod_eq_of_lt (by omega)
  have h2 : (BitVec.ofInt 64 (b : Int)).toNat = b := by
    rw [BitVec.ofInt_natCast, BitVec.toNat_ofNat]; exact Nat.mod_eq_of_lt (by omega)
  show IntKind.i64.wrap ((BitVec.ofInt 64 (a : Int) ||| BitVec.ofInt 64 (b : Int)).toNat : Int) = _
  rw [BitVec.toNat_or, h1, h2]
  have hw : ∀ n : Nat, n < 9223372036854775808 → IntKind.i64.wrap (n : Int) = (n : Int) := fun n hn => by
    simp [IntKind.wrap, IntKind.signed, IntKind.bits]
    omega
  exact hw _ (by omega)
theorem or_i64 (k : Nat) (x y : Int) (hx : 0 ≤ x) (hy : 0 ≤ y) (hk : y < 2 ^ k) (hb : x * 2 ^ k < 9223372036854775808) (hyb : y < 9223372036854775808) : bits .or .i64 (x * 2 ^ k) y = x * 2 ^ k + y := by
  obtain ⟨a, rfl⟩ : ∃ a : Nat, x = a := ⟨x.toNat, by omega⟩
  obtain ⟨b, rfl⟩ : ∃ b : Nat, y = b := ⟨y.toNat, by omega⟩
  have hk' : b < 2 ^ k := by
    rw [show (2 : Int) ^ k = ((2 ^ k : Nat) : Int) by simp] at hk
    omega
  have e : (a : Int) * 2 ^ k = ((a * 2 ^ k : Nat) : Int) := by simp only [Int.natCast_mul, Int.natCast_pow]; rfl
  rw [e] at hb
  have hb' : a * 2 ^ k < 9223372036854775808 := by omega
  rw [e, bits_or_i64_nat _ _ hb' (by omega), or_mul k a b hk']
  rw [Int.natCast_add]
theorem bits_or_u16_nat (a b : Nat) (ha : a < 65536) (hb : b < 65536) :
    bits .or .u16 (a : Int) (b : Int) = ((a ||| b : Nat) : Int) := by
  have hx : a ||| b < 2 ^ 16 := Nat.or_lt_two_pow (by omega) (by omega)
  have h1 : (BitVec.ofInt 16 (a : Int)).toNat = a := by
    rw [BitVec.ofInt_natCast, BitVec.toNat_ofNat]; exact Nat.mod_eq_of_lt (by omega)
  have h2 : (BitVec.ofInt 16 (b : Int)).toNat = b := by
    rw [BitVec.ofInt_natCast, BitVec.toNat_ofNat]; exact Nat.mod_eq_of_lt (by omega)
  show IntKind.u16.wrap ((BitVec.ofInt 16 (a : Int) ||| BitVec.ofInt 16 (b : Int)).toNat : Int) = _
  rw [BitVec.toNat_or, h1, h2, show ∀ n, IntKind.u16.wrap n = n % 65536 from fun n => by simp [IntKind.wrap, IntKind.signed, IntKind.bits]]
  omega
theorem or_u16 (k : Nat) (x y : Int) (hx : 0 ≤ x) (hy : 0 ≤ y) (hk : y < 2 ^ k) (hb : x * 2 ^ k < 65536) (hyb : y < 65536) : bits .or .u16 (x * 2 ^ k) y = x * 2 ^ k + y := by
  obtain ⟨a, rfl⟩ : ∃ a : Nat, x = a := ⟨x.toNat, by omega⟩
  obtain ⟨b, rfl⟩ : ∃ b : Nat, y = b := ⟨y.toNat, by omega⟩
  have hk' : b < 2 ^ k := by
    rw [show (2 : Int) ^ k = ((2 ^ k : Nat) : Int) by simp] at hk
    omega
  have e : (a : Int) * 2 ^ k = ((a * 2 ^ k : Nat) : Int) := by simp only [Int.natCast_mul, Int.natCast_pow]; rfl
  rw [e] at hb
  have hb' : a * 2 ^ k < 65536 := by omega
  rw [e, bits_or_u16_nat _ _ hb' (by omega), or_mul k a b hk']
  rw [Int.natCast_add]
end Go.Proofs.YtplehdcnnaamkaaGreatDoor

/- Digits' values. -/
namespace Go.Proofs.YtplehdcnnaamkaaGreatDoor
open Go.RowKit

/-- A digit's value to the base 16; -1: it is none. -/
def hexV (r : Int) : Int := if 48 ≤ r ∧ r ≤ 57 then r - 48 else if 65 ≤ r ∧ r ≤ 70 then r - 55 else if 97 ≤ r ∧ r ≤ 102 then r - 87 else -1
theorem hexV_bd (r : Int) : -1 ≤ hexV r ∧ hexV r ≤ 15 := by unfold hexV; split <;> (try split) <;> (try split) <;> omega
def isDig (r : Int) : Bool := decide (48 ≤ r) && decide (r ≤ 57)

set_option maxHeartbeats 400000 in
theorem Digit_calls (r : Int) (w : World) : Calls Tryz.prog 143 #[.int .i32 r] w fun e w' => e = .returned (.bool (isDig r)) ∧ w = w' := by
  by_cases h1 : 48 ≤ r
  · go_enter Tryz.func143, Tryz.ntmps143
    go_wp2
    go_ret
    exact ⟨by simp [isDig, h1], rfl⟩
  · go_enter Tryz.func143, Tryz.ntmps143
    go_wp2
    go_ret
    exact ⟨by simp [isDig]; omega, rfl⟩

theorem hexV_cases (r : Int) : (r < 48 ∧ hexV r = -1) ∨ (48 ≤ r ∧ r ≤ 57 ∧ hexV r = r - 48) ∨ (57 < r ∧ r < 65 ∧ hexV r = -1) ∨ (65 ≤ r ∧ r ≤ 70 ∧ hexV r = r - 55) ∨ (70 < r ∧ r < 97 ∧ hexV r = -1) ∨ (97 ≤ r ∧ r ≤ 102 ∧ hexV r = r - 87) ∨ (102 < r ∧ hexV r = -1) := by
  unfold hexV; split <;> (try split) <;> (try split) <;> omega

set_option maxHeartbeats 1000000 in
theorem Value_calls (r : Int) (w : World) : Calls Tryz.prog 154 #[.int .i32 r] w fun e w' => e = .returned (.int .i64 (hexV r)) ∧ w = w' := by
  rcases hexV_cases r with ⟨h1, h⟩ | ⟨h1, h2, h⟩ | ⟨h1, h2, h⟩ | ⟨h1, h2, h⟩ | ⟨h1, h2, h⟩ | ⟨h1, h2, h⟩ | ⟨h1, h⟩
  all_goals
    have H := Lib.hid h
    clear h
    go_enter Tryz.func154, Tryz.ntmps154
    go_wp2
    go_ret
    exact ⟨ret_int (by rw [H.out]; try omega), rfl⟩

end Go.Proofs.YtplehdcnnaamkaaGreatDoor

