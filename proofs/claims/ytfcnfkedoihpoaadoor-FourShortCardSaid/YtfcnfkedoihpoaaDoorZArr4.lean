/- An array of four numbers, handed in by value: opened and shut. -/
import Derived.Test.YtfcnfkedoihpoaaDoorProg
import Derived.ChangeShapes
import Derived.Laws.IdiomArrays
namespace Go.Proofs.YtfcnfkedoihpoaaDoor
open Go.ChangeShapes

section
variable {H : Type} {enc : TypeId × Value → H} {P : Program} {w : World} {base : Nat} {spare : Nat → Bool} {held : Bool}
theorem open_arr4 {r : Reach} {b0 : Nat} {t e : TypeId} {k : IntKind} {v : Value} {d : DataW H} {ps : List MemPlace} (ht : P.underlying t = some (.array 4 e)) (he : P.underlying e = some (.int k)) (hce : P.cellsOf e = 1) (hct : P.cellsOf t = 4)
    (hval : Value.okWide P w r b0 t v) (hd : DataW.Trod enc P w base spare held t v d ps) :
    ∃ x0 x1 x2 x3, v = .agg #[.int k x0, .int k x1, .int k x2, .int k x3] ∧ d = .agg [.lit (.int k x0), .lit (.int k x1), .lit (.int k x2), .lit (.int k x3)] ∧ ps = [] ∧ (Lit.int k x0).wf = true ∧ (Lit.int k x1).wf = true ∧ (Lit.int k x2).wf = true ∧ (Lit.int k x3).wf = true := by
  obtain ⟨cs, rfl, hsz, _⟩ : ∃ cs, v = .agg cs ∧ cs.size = P.cellsOf t ∧ Row.okWide P w r b0 t cs := by simpa [Value.okWide, ht] using hval
  rw [hct] at hsz
  obtain ⟨l⟩ := cs
  obtain ⟨c0, c1, c2, c3, rfl⟩ : ∃ c0 c1 c2 c3, l = [c0, c1, c2, c3] := by
    rcases l with _ | ⟨a, _ | ⟨b, _ | ⟨c, _ | ⟨d, _ | ⟨e, l⟩⟩⟩⟩⟩ <;> simp at hsz
    exact ⟨_, _, _, _, rfl⟩
  obtain ⟨fuel, hf⟩ := hd
  obtain ⟨y0, y1, y2, y3, m, hx, hy0, hy1, hy2, hy3⟩ := trod_array4 ht hce hf
  obtain ⟨x0, e0, rfl, w0⟩ := DataW.trod_int he hy0
  obtain ⟨x1, e1, rfl, w1⟩ := DataW.trod_int he hy1
  obtain ⟨x2, e2, rfl, w2⟩ := DataW.trod_int he hy2
  obtain ⟨x3, e3, rfl, w3⟩ := DataW.trod_int he hy3
  simp at e0 e1 e2 e3
  subst e0 e1 e2 e3
  simp only [Prod.mk.injEq] at hx
  exact ⟨x0, x1, x2, x3, rfl, hx.1, hx.2, w0, w1, w2, w3⟩
theorem shut_arr4 {t e : TypeId} {k : IntKind} {x0 x1 x2 x3 : Int} (ht : P.underlying t = some (.array 4 e)) (he : P.underlying e = some (.int k)) (hce : P.cellsOf e = 1) (hct : P.cellsOf t = 4)
    (w0 : (Lit.int k x0).wf = true) (w1 : (Lit.int k x1).wf = true) (w2 : (Lit.int k x2).wf = true) (w3 : (Lit.int k x3).wf = true) :
    DataW.Trod enc P w base spare held t (.agg #[.int k x0, .int k x1, .int k x2, .int k x3]) (.agg [.lit (.int k x0), .lit (.int k x1), .lit (.int k x2), .lit (.int k x3)]) [] := by
  refine ⟨2, ?_⟩
  have r4 : List.range 4 = [0, 1, 2, 3] := rfl
  simp [DataW.trod, Value.cells, ht, he, hce, hct, r4, w0, w1, w2, w3]
end
end Go.Proofs.YtfcnfkedoihpoaaDoor
