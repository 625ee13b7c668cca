/- A string's iterator beside rows of the call's own: what moves past what. -/
import Derived.Test.YtfcnfkedoihpoaaDoorRn
import Derived.Test.YtfcnfkedoihpoaaDoorWWords
namespace Go.Proofs.YtfcnfkedoihpoaaDoor
open Go.RowKit Go.Proofs.YtfcnfkedoihpoaaDoorW.PrintWords

section
variable {α : Type} {d : Kd α} {e : Nat} {w w1 : World} {base : Nat} {ok : Nat → Prop} {v : Value} {xs : List α} {k : Nat} {s : ByteArray} {pos : Nat}
/-- A row of the call's own stays while an iterator is moved on. -/
theorem R_iterAt (h : Kd.R d e w base ok v xs) (hk : w.heap[k]? = some (.stringIter s pos)) (pos' : Nat) : Kd.R d e (w.iterAt k s pos') base ok v xs :=
  Kd.R_mono (Kd.R_move (Kd.R_bound h) (fun j hj => by
    obtain ⟨_, _, _, q, _, cells, hc⟩ := hj
    refine Lib.iterAt_other w k j s pos' (fun e => ?_)
    rw [e, hk] at hc
    cases hc)) (fun _ hj => hj.1)
/-- An iterator stays while a row of the call's own is appended to. -/
theorem iter_grown (h : Kd.R d e w base ok v xs) (hg : w.grownBy w1 v.ownBlock) (hk : w.heap[k]? = some (.stringIter s pos)) : w1.heap[k]? = some (.stringIter s pos) := by
  have hlt : k < w.heap.size := (Array.getElem?_eq_some_iff.1 hk).1
  rw [hg.block k hlt ?_]
  · exact hk
  · intro hb
    obtain ⟨inner, ho⟩ := Kd.R_own h
    obtain ⟨cells, hc⟩ := own_typed ho k hb.symm
    rw [hk] at hc
    cases hc
theorem iter_below (hb : Below w.heap.size w w1) (hk : w.heap[k]? = some (.stringIter s pos)) : w1.heap[k]? = some (.stringIter s pos) := by
  have hlt : k < w.heap.size := (Array.getElem?_eq_some_iff.1 hk).1
  rw [hb.block k hlt]
  exact hk
end
end Go.Proofs.YtfcnfkedoihpoaaDoor
