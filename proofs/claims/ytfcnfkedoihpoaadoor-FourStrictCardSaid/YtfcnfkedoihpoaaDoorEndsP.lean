/- The last part of a name: plain Lean. -/
import Derived.Test.YtfcnfkedoihpoaaDoorEnds
import Derived.Lib.IndexAny
namespace Go.Proofs.YtfcnfkedoihpoaaDoor
open Go.RowKit Go.Proofs.YtfcnfkedoihpoaaDoorW.PrintWords

theorem splitL_append (p : UInt8 → Bool) (c : UInt8) (r : List UInt8) (h : p c = true) : ∀ a : List UInt8, splitL p (a ++ c :: r) = splitL p a ++ splitL p r
  | [] => by
    show splitL p (c :: r) = [] :: splitL p r
    rw [splitL, if_pos h]
  | d :: a => by
    have ih := splitL_append p c r h a
    rw [List.cons_append, splitL, splitL, ih]
    split
    · rfl
    · rcases hs : splitL p a with _ | ⟨x, t⟩
      · exact absurd hs (splitL_ne p a)
      · rfl
theorem splitL_clean (p : UInt8 → Bool) : ∀ l : List UInt8, ∀ x ∈ splitL p l, ∀ c ∈ x, p c = false
  | [], x, h, c, hc => by simp [splitL] at h; subst h; simp at hc
  | d :: r, x, h, c, hc => by
    unfold splitL at h
    split at h
    · rcases List.mem_cons.1 h with rfl | h
      · simp at hc
      · exact splitL_clean p r x h c hc
    · rename_i hd
      split at h
      · rename_i hs
        exact absurd hs (splitL_ne p r)
      · rename_i a t hs
        rcases List.mem_cons.1 h with rfl | h
        · rcases List.mem_cons.1 hc with rfl | hc
          · simpa using hd
          · exact splitL_clean p r a (by rw [hs]; simp) c hc
        · exact splitL_clean p r x (by rw [hs]; simp [h]) c hc
theorem splitL_one (p : UInt8 → Bool) : ∀ l : List UInt8, (∀ c ∈ l, p c = false) → splitL p l = [l]
  | [], _ => rfl
  | d :: r, h => by
    rw [splitL, if_neg (by rw [h d (by simp)]; decide), splitL_one p r (fun c hc => h c (by simp [hc]))]
theorem getD_snoc (L : List (List UInt8)) (x d : List UInt8) : (L ++ [x]).getD L.length d = x := by
  rw [List.getD_eq_getElem?_getD, List.getElem?_append_right (Nat.le_refl _), Nat.sub_self]
  rfl
theorem lastP_snoc (L : List (List UInt8)) (x : List UInt8) (h : x ≠ []) : lastP (L ++ [x]) = x := by
  have e : (L ++ [x]).length - 1 = L.length := by simp
  rw [lastP, e, getD_snoc, if_neg (fun h' => h h'.1)]
theorem lastP_gap (L : List (List UInt8)) (x : List UInt8) : lastP (L ++ [x] ++ [[]]) = x := by
  have e : (L ++ [x] ++ [[]]).length - 1 = (L ++ [x]).length := by simp
  have e2 : (L ++ [x] ++ [[]]).length - 2 = L.length := by simp
  rw [lastP, e, getD_snoc, if_pos ⟨rfl, by simp⟩, e2]
  rw [List.getD_eq_getElem?_getD, List.getElem?_append_left (by simp), List.getElem?_append_right (Nat.le_refl _), Nat.sub_self]
  rfl
theorem dot_at (c : UInt8) : isAt ⟨#[46]⟩ c = (c == 46) := by
  rw [isAt, ← Lib.contains_iff_indexByte]
  rw [Bool.eq_iff_iff]
  simp
def lastOk (x : List UInt8) : Bool := parseOk x || digitsL x
theorem ends_of (l : List UInt8) (L : List (List UInt8)) (x : List UInt8) (hx : x ≠ []) (h : splitL (isAt ⟨#[46]⟩) l = L ++ [x]) : endsL l = lastOk x := by
  rw [endsL, h, lastP_snoc L x hx]
  rfl
theorem ends_point (l : List UInt8) (L : List (List UInt8)) (x : List UInt8) (h : splitL (isAt ⟨#[46]⟩) l = L ++ [x]) : endsL (l ++ [46]) = lastOk x := by
  rw [endsL, splitL_append _ 46 [] (by rw [dot_at]; rfl), h, show splitL (isAt ⟨#[46]⟩) [] = [[]] from rfl, lastP_gap]
  rfl
theorem ends_ahead (a l : List UInt8) (L : List (List UInt8)) (x : List UInt8) (hx : x ≠ []) (h : splitL (isAt ⟨#[46]⟩) l = L ++ [x]) : endsL (a ++ 46 :: l) = lastOk x := by
  rw [endsL, splitL_append _ 46 l (by rw [dot_at]; rfl), h, ← List.append_assoc, lastP_snoc _ x hx]
  rfl
theorem ends_last (l : List UInt8) (L : List (List UInt8)) (x : List UInt8) (hx : x ≠ []) (h : splitL (isAt ⟨#[46]⟩) l = L ++ [x]) : endsL x = lastOk x := by
  refine ends_of x [] x hx ?_
  rw [splitL_one _ x (splitL_clean _ l x (by rw [h]; simp))]
  rfl
theorem ends_two (l : List UInt8) : endsL (l ++ [46, 46]) = false := by
  have e : l ++ [46, 46] = (l ++ [46]) ++ [46] := by simp
  rw [e, endsL, splitL_append _ 46 [] (by rw [dot_at]; rfl), splitL_append _ 46 [] (by rw [dot_at]; rfl), show splitL (isAt ⟨#[46]⟩) [] = [[]] from rfl, lastP_gap]
  rfl
theorem ends_nil : endsL [] = false := rfl
end Go.Proofs.YtfcnfkedoihpoaaDoor
