/- Addresses of four bytes, as they are written and read again: plain Lean. -/
import Derived.Test.YtfcnfkedoihpoaaDoorFourP
import Derived.Test.YtfcnfkedoihpoaaDoorNumD
namespace Go.Proofs.YtfcnfkedoihpoaaDoor
open Go.RowKit Go.Proofs.YtfcnfkedoihpoaaDoorW.PrintWords

/-- The parts, each a decimal number of at most 255. -/
def sumS : Int → List (List UInt8) → Option Int
  | a, [] => some a
  | a, p :: ps => if decOk p 255 = true then sumS (a * 256 + decN p 255) ps else none
def strictP (P : List (List UInt8)) : Option Int := if P.length = 4 then sumS 0 P else none
def strictL (l : List UInt8) : Option Int := strictP (splitL (isAt ⟨#[46]⟩) l)
def strictN (l : List UInt8) : Int := (strictL l).getD 0
def strictOk (l : List UInt8) : Bool := (strictL l).isSome
/-- An address, written. -/
def fourT (n : Nat) : List UInt8 := digB 10 (n / 16777216) ++ 46 :: (digB 10 (n / 65536 % 256) ++ 46 :: (digB 10 (n / 256 % 256) ++ 46 :: digB 10 (n % 256)))

theorem split_join (a r : List UInt8) (h : ∀ c ∈ a, c ≠ 46) : splitL (isAt ⟨#[46]⟩) (a ++ 46 :: r) = a :: splitL (isAt ⟨#[46]⟩) r := by
  rw [splitL_append _ 46 r (by rw [dot_at]; rfl) a, split_none a h]
  rfl
theorem dig_dot (u : Nat) : ∀ c ∈ digB 10 u, c ≠ 46 := digB_dot 10 (by omega) (by omega) u
theorem split_text (n : Nat) : splitL (isAt ⟨#[46]⟩) (fourT n) = [digB 10 (n / 16777216), digB 10 (n / 65536 % 256), digB 10 (n / 256 % 256), digB 10 (n % 256)] := by
  rw [fourT, split_join _ _ (dig_dot _), split_join _ _ (dig_dot _), split_join _ _ (dig_dot _), split_none _ (dig_dot _)]
theorem dec_dig (u : Nat) (h : u ≤ 255) : decOk (digB 10 u) 255 = true ∧ decN (digB 10 u) 255 = u := by
  have h1 : decOk (digB 10 u) 255 = true := by
    rw [decOk, plain_dig, decV_dig, Bool.true_and, decide_eq_true_eq]
    omega
  exact ⟨h1, by rw [decN, if_pos h1, decV_dig]⟩
theorem strict_text (n : Nat) (hn : n < 4294967296) : strictL (fourT n) = some (n : Int) := by
  have d1 := dec_dig (n / 16777216) (by omega)
  have d2 := dec_dig (n / 65536 % 256) (by omega)
  have d3 := dec_dig (n / 256 % 256) (by omega)
  have d4 := dec_dig (n % 256) (by omega)
  rw [strictL, split_text, strictP, if_pos (by rfl), sumS, if_pos d1.1, d1.2, sumS, if_pos d2.1, d2.2, sumS, if_pos d3.1, d3.2, sumS, if_pos d4.1, d4.2, sumS]
  congr 1
  omega
theorem parse_small (u : Nat) (h : u ≤ 1099511627776) : parseL (digB 10 u) = some (u : Int) := by
  rw [parse_dec]
  congr 1
  omega
theorem partsF_last (P : List (List UInt8)) (h : P.getD (P.length - 1) [] ≠ []) : partsF P = P := by
  rw [partsF, if_neg (fun h' => h h'.2)]
theorem partsF_snoc (P : List (List UInt8)) (h : P ≠ []) : partsF (P ++ [[]]) = P := by
  have e : (P ++ [([] : List UInt8)]).length - 1 = P.length := by simp
  have := List.length_pos_iff.2 h
  rw [partsF, e, getD_snoc, if_pos ⟨by simp; omega, rfl⟩]
  simp
theorem four_text (n : Nat) (hn : n < 4294967296) : fourL (fourT n) = some (n : Int) := by
  rw [fourL, split_text, partsF_last [digB 10 (n / 16777216), digB 10 (n / 65536 % 256), digB 10 (n / 256 % 256), digB 10 (n % 256)] (digB_ne 10 (n % 256)), fourP, if_neg (by simp)]
  show sumF 4 0 0 _ = _
  rw [sumF, parse_small _ (by omega)]
  simp only [Nat.reduceAdd, Nat.reduceEqDiff, if_false]
  rw [if_neg (by omega), sumF, parse_small _ (by omega)]
  simp only [Nat.reduceAdd, Nat.reduceEqDiff, if_false]
  rw [if_neg (by omega), sumF, parse_small _ (by omega)]
  simp only [Nat.reduceAdd, Nat.reduceEqDiff, if_false]
  rw [if_neg (by omega), sumF, parse_small _ (by omega)]
  simp only [Nat.reduceAdd, if_true]
  rw [if_neg (by omega), sumF]
  simp only [Nat.reduceSub, Int.reducePow]
  congr 1
  omega

/-! ### What is read strictly is what is written -/
def joinL : List (List UInt8) → List UInt8
  | [] => []
  | [x] => x
  | x :: y :: t => x ++ 46 :: joinL (y :: t)
theorem joinL_cons (x : List UInt8) (L : List (List UInt8)) (h : L ≠ []) : joinL (x :: L) = x ++ 46 :: joinL L := by
  rcases L with _ | ⟨y, t⟩
  · exact absurd rfl h
  · rfl
theorem join_split : ∀ l : List UInt8, joinL (splitL (isAt ⟨#[46]⟩) l) = l
  | [] => rfl
  | c :: r => by
    have ih := join_split r
    rw [splitL]
    split
    · rename_i hc
      rw [joinL_cons _ _ (splitL_ne _ r), ih]
      rw [dot_at] at hc
      rw [show c = 46 by simpa using hc]
      rfl
    · rcases hs : splitL (isAt ⟨#[46]⟩) r with _ | ⟨x, t⟩
      · exact absurd hs (splitL_ne _ r)
      · rw [hs] at ih
        show joinL ((c :: x) :: t) = _
        rcases t with _ | ⟨y, t⟩
        · show c :: x = _
          rw [← ih]
          rfl
        · rw [joinL_cons _ _ (by simp)]
          rw [joinL_cons _ _ (by simp)] at ih
          rw [List.cons_append, ih]
theorem decV_snoc (q : List UInt8) (c : UInt8) : decV (q ++ [c]) = 10 * decV q + ((c.toNat : Int) - 48) := by
  rw [decV, intsOf_append, accD_append]
  rfl
theorem hexCh_dig (c : UInt8) (h0 : 48 ≤ c.toNat) (h1 : c.toNat ≤ 57) : hexCh (c.toNat - 48) = c := by
  rw [hexCh, if_pos (by omega)]
  apply UInt8.toNat_inj.1
  rw [UInt8.toNat_ofNat']
  omega
theorem all_dig_snoc (q : List UInt8) (c : UInt8) (h : (intsOf (q ++ [c])).all isDig = true) : (intsOf q).all isDig = true ∧ 48 ≤ c.toNat ∧ c.toNat ≤ 57 := by
  rw [intsOf_append, List.all_append, Bool.and_eq_true] at h
  have h2 := h.2
  rw [show intsOf [c] = [(c.toNat : Int)] from rfl, List.all_cons, Bool.and_eq_true] at h2
  have := (isDig_iff _).1 h2.1
  exact ⟨h.1, by omega, by omega⟩
/-- Digits without a nought ahead. -/
theorem dig_lead : ∀ (k : Nat) (q : List UInt8), q.length = k → q ≠ [] → (intsOf q).all isDig = true → q.head? ≠ some 48 → ∃ u : Nat, 1 ≤ u ∧ decV q = u ∧ digB 10 u = q
  | 0, q, hk, hq, _, _ => absurd (List.eq_nil_of_length_eq_zero hk) hq
  | k + 1, q, hk, hq, hd, hh => by
    obtain ⟨r, c, rfl⟩ : ∃ r c, q = r ++ [c] := ⟨q.dropLast, q.getLast hq, (List.dropLast_concat_getLast hq).symm⟩
    have ⟨hr, h0, h1⟩ := all_dig_snoc r c hd
    rcases Classical.em (r = []) with rfl | hne
    · have hc : c ≠ 48 := fun h => hh (by rw [h]; rfl)
      have hc' : c.toNat ≠ 48 := fun h => hc (UInt8.toNat_inj.1 h)
      refine ⟨c.toNat - 48, by omega, ?_, ?_⟩
      · rw [List.nil_append, decV, show intsOf [c] = [(c.toNat : Int)] from rfl, accD, accD]
        omega
      · rw [digB_small (by omega), hexCh_dig c h0 h1]
        rfl
    · obtain ⟨u, hu, hv, hg⟩ := dig_lead k r (by simp at hk; exact hk) hne hr (by
        rcases r with _ | ⟨x, r⟩
        · exact absurd rfl hne
        · simpa using hh)
      refine ⟨10 * u + (c.toNat - 48), by omega, ?_, ?_⟩
      · rw [decV_snoc, hv]
        omega
      · rw [digB_big (by omega) (by omega), show (10 * u + (c.toNat - 48)) / 10 = u by omega, show (10 * u + (c.toNat - 48)) % 10 = c.toNat - 48 by omega, hg, hexCh_dig c h0 h1]
theorem plain_inv (p : List UInt8) (h : plainD p = true) : ∃ u : Nat, decV p = u ∧ digB 10 u = p := by
  rw [plainD, digitsL, Bool.and_eq_true, Bool.and_eq_true, Bool.not_eq_true', Bool.not_eq_true'] at h
  obtain ⟨⟨hne, hd⟩, hl⟩ := h
  have hne' : p ≠ [] := by simpa using hne
  by_cases hh : p.head? = some 48
  · rw [hh] at hl
    obtain ⟨c, r, rfl⟩ : ∃ c r, p = c :: r := by
      rcases p with _ | ⟨c, r⟩
      · exact absurd rfl hne'
      · exact ⟨c, r, rfl⟩
    have hr : r = [] := by
      simp at hl
      exact hl
    obtain rfl : c = 48 := by simpa using hh
    subst hr
    exact ⟨0, rfl, by rw [digB_small (by omega)]; rfl⟩
  · obtain ⟨u, _, h1, h2⟩ := dig_lead p.length p rfl hne' hd hh
    exact ⟨u, h1, h2⟩
theorem dec_inv (p : List UInt8) (h : decOk p 255 = true) : ∃ u : Nat, u ≤ 255 ∧ decN p 255 = u ∧ digB 10 u = p := by
  have h' := h
  rw [decOk, Bool.and_eq_true, decide_eq_true_eq] at h
  obtain ⟨u, h1, h2⟩ := plain_inv p h.1
  exact ⟨u, by omega, by rw [decN, if_pos h', h1], h2⟩
theorem sumS_inv (a x : Int) (p : List UInt8) (ps : List (List UInt8)) (h : sumS a (p :: ps) = some x) : ∃ u : Nat, u ≤ 255 ∧ digB 10 u = p ∧ sumS (a * 256 + u) ps = some x := by
  rw [sumS] at h
  split at h
  · rename_i hp
    obtain ⟨u, h1, h2, h3⟩ := dec_inv p hp
    exact ⟨u, h1, h3, by rw [← h2]; exact h⟩
  · cases h
theorem strict_inv (l : List UInt8) (x : Int) (h : strictL l = some x) : ∃ n : Nat, n < 4294967296 ∧ x = n ∧ l = fourT n := by
  have hj := join_split l
  rw [strictL, strictP] at h
  split at h
  · rename_i h4
    rcases hs : splitL (isAt ⟨#[46]⟩) l with _ | ⟨a, _ | ⟨b, _ | ⟨c, _ | ⟨d, _ | ⟨e, t⟩⟩⟩⟩⟩
    all_goals rw [hs] at h4 h hj
    · cases h4
    · cases h4
    · cases h4
    · cases h4
    · obtain ⟨u1, b1, g1, h⟩ := sumS_inv _ _ _ _ h
      obtain ⟨u2, b2, g2, h⟩ := sumS_inv _ _ _ _ h
      obtain ⟨u3, b3, g3, h⟩ := sumS_inv _ _ _ _ h
      obtain ⟨u4, b4, g4, h⟩ := sumS_inv _ _ _ _ h
      rw [sumS] at h
      have hx := Option.some.inj h
      refine ⟨((u1 * 256 + u2) * 256 + u3) * 256 + u4, by omega, by omega, ?_⟩
      rw [fourT, show (((u1 * 256 + u2) * 256 + u3) * 256 + u4) / 16777216 = u1 by omega, show (((u1 * 256 + u2) * 256 + u3) * 256 + u4) / 65536 % 256 = u2 by omega, show (((u1 * 256 + u2) * 256 + u3) * 256 + u4) / 256 % 256 = u3 by omega, show (((u1 * 256 + u2) * 256 + u3) * 256 + u4) % 256 = u4 by omega, g1, g2, g3, g4, ← hj]
      rfl
    · simp at h4
  · cases h
theorem strict_point (n : Nat) : strictL (fourT n ++ [46]) = none := by
  rw [strictL, splitL_append _ 46 [] (by rw [dot_at]; rfl), split_text, strictP, if_neg (by simp [splitL])]
theorem strict_nought (n : Nat) : strictL (48 :: fourT n) = none := by
  have e : splitL (isAt ⟨#[46]⟩) (48 :: fourT n) = [48 :: digB 10 (n / 16777216), digB 10 (n / 65536 % 256), digB 10 (n / 256 % 256), digB 10 (n % 256)] := by
    rw [splitL, if_neg (by rw [dot_at]; decide), split_text]
  rw [strictL, e, strictP, if_pos (by rfl), sumS, if_neg]
  rw [decOk, plain_nought]
  simp
theorem strict_val (l : List UInt8) : (strictL l = none ∧ strictOk l = false ∧ strictN l = 0) ∨ ∃ n : Nat, n < 4294967296 ∧ strictL l = some (n : Int) ∧ strictOk l = true ∧ strictN l = n ∧ l = fourT n := by
  rcases h : strictL l with _ | x
  · exact .inl ⟨rfl, by rw [strictOk, h]; rfl, by rw [strictN, h]; rfl⟩
  · obtain ⟨n, hn, rfl, hl⟩ := strict_inv l x h
    exact .inr ⟨n, hn, rfl, by rw [strictOk, h]; rfl, by rw [strictN, h]; rfl, hl⟩
end Go.Proofs.YtfcnfkedoihpoaaDoor
