/- Addresses of four bytes, as they are read: plain Lean. -/
import Derived.Test.YtfcnfkedoihpoaaDoorEndsP
import Derived.Test.YtfcnfkedoihpoaaDoorDecP
namespace Go.Proofs.YtfcnfkedoihpoaaDoor
open Go.RowKit Go.Proofs.YtfcnfkedoihpoaaDoorW.PrintWords

/-- The parts of an address: an empty one behind the last point is left out. -/
def partsF (P : List (List UInt8)) : List (List UInt8) := if 1 < P.length ∧ P.getD (P.length - 1) [] = [] then P.take (P.length - 1) else P
/-- The parts from place j on, added up. -/
def sumF (n : Nat) : Nat → Int → List (List UInt8) → Option Int
  | _, s, [] => some (s % 4294967296)
  | j, s, p :: ps => match parseL p with
    | none => none
    | some x => if j + 1 = n then (if (256 : Int) ^ (5 - n) ≤ x then none else sumF n (j + 1) (s + x) ps) else if 256 ≤ x then none else sumF n (j + 1) (s + x * (256 : Int) ^ (3 - j)) ps
def fourP (Q : List (List UInt8)) : Option Int := if 4 < Q.length then none else sumF Q.length 0 0 Q
def fourL (l : List UInt8) : Option Int := fourP (partsF (splitL (isAt ⟨#[46]⟩) l))
def fourN (l : List UInt8) : Int := (fourL l).getD 0
def fourOk (l : List UInt8) : Bool := (fourL l).isSome
theorem partsF_ne (P : List (List UInt8)) (h : P ≠ []) : partsF P ≠ [] := by
  unfold partsF
  split
  · rename_i hc
    intro he
    have := congrArg List.length he
    rw [List.length_take] at this
    simp at this
    omega
  · exact h
theorem partsF_get (P : List (List UInt8)) (j : Nat) (h : j < (partsF P).length) : (partsF P).getD j [] = P.getD j [] ∧ j < P.length := by
  unfold partsF at h ⊢
  split
  · rename_i hc
    rw [if_pos hc, List.length_take] at h
    refine ⟨?_, by omega⟩
    rw [List.getD_eq_getElem?_getD, List.getD_eq_getElem?_getD, List.getElem?_take, if_pos (by omega)]
  · rename_i hc
    rw [if_neg hc] at h
    exact ⟨rfl, h⟩
theorem drop_getD (Q : List (List UInt8)) (j : Nat) (h : j < Q.length) : Q.drop j = Q.getD j [] :: Q.drop (j + 1) := by
  rw [List.drop_eq_getElem_cons h, List.getD_eq_getElem?_getD, List.getElem?_eq_getElem h]
  rfl
theorem sumF_step (n j : Nat) (s : Int) (Q : List (List UInt8)) (h : j < Q.length) : sumF n j s (Q.drop j) = match parseL (Q.getD j []) with
    | none => none
    | some x => if j + 1 = n then (if (256 : Int) ^ (5 - n) ≤ x then none else sumF n (j + 1) (s + x) (Q.drop (j + 1))) else if 256 ≤ x then none else sumF n (j + 1) (s + x * (256 : Int) ^ (3 - j)) (Q.drop (j + 1)) := by
  rw [drop_getD Q j h, sumF]
theorem parse_val (p : List UInt8) : (parseL p = none ∧ parseOk p = false ∧ parseN p = 0) ∨ ∃ x, parseL p = some x ∧ parseOk p = true ∧ parseN p = x ∧ 0 ≤ x ∧ x ≤ 1099511627776 := by
  rcases h : parseL p with _ | x
  · left
    exact ⟨rfl, by rw [parseOk, h]; rfl, by rw [parseN, h]; rfl⟩
  · right
    have hb : 0 ≤ x ∧ x ≤ 1099511627776 := by
      unfold parseL at h
      split at h
      · cases h
      · exact accN_bd _ (by have := baseL_bd p; omega) _ 0 x (by omega) (by omega) h
    exact ⟨x, rfl, by rw [parseOk, h]; rfl, by rw [parseN, h]; rfl, hb⟩
end Go.Proofs.YtfcnfkedoihpoaaDoor
