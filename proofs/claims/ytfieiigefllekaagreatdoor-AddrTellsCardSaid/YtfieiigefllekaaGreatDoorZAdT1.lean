/- What AddrTells leans on: Must, its panics; the document's order; walked. -/
import Derived.Test.YtfieiigefllekaaGreatDoorZAdN
import Derived.Test.YtfieiigefllekaaGreatDoorZAdO
import Derived.Test.YtfieiigefllekaaGreatDoorZAd2
namespace Go.Proofs.YtfieiigefllekaaGreatDoor
open Go.RowKit Go.Proofs.YtfieiigefllekaaGreatDoorW.PrintWords Go.Proofs.YtfieiigefllekaaGreatDoorW.PrintMore

set_option maxRecDepth 100000 in
theorem Must4 (n : Int) (w : World) : Calls Tryz.prog 45 #[.iface 57 (.int .u32 n)] w fun e w' => (∃ v, e = .panicked [{ v := .iface 15 v, recovered := false }]) ∧ Below w.heap.size w w' := by
  obtain ⟨v, o, hq⟩ := ta_p4 n (w.alloc (.cells #[.int .u64 0, .int .u64 0] 25))
  go_enter Tryz.func45, Tryz.ntmps45
  go_wp2_with fail
  exact ⟨rfl, ⟨_, rfl⟩, ((Below.refl _ _).alloc (Nat.le_refl _) _).alloc (by simp) _⟩
set_option maxRecDepth 100000 in
theorem Must6 (hi lo : Int) (w : World) : Calls Tryz.prog 45 #[.iface 25 (.agg #[.int .u64 hi, .int .u64 lo])] w fun e w' => e = .returned (.agg #[.int .u64 hi, .int .u64 lo]) ∧ Below w.heap.size w w' := by
  have q := ta_m6
  go_enter Tryz.func45, Tryz.ntmps45
  go_wp2_with fail
  refine bodyPost_ret (results_cell_row rfl _ _ w.heap.size 25 #[.int .u64 hi, .int .u64 lo] (0, 0) _ rfl (heap_alloc_new' _ _ _ rfl) Tryz.underlying25 rfl (by kernel_rfl)) rfl ?_
  exact ⟨rfl, (Below.refl _ _).alloc (Nat.le_refl _) _⟩
set_option maxRecDepth 100000 in
theorem panics4 (n : Int) (w : World) : Calls Tryz.prog 35 #[.iface 57 (.int .u32 n)] w fun e w' => e = .returned (.bool true) ∧ Below w.heap.size w w' := by
  have hmf : ∀ (fn : Fn) (first cap : Array Value) (w : World), (Instr.makeFunc fn first cap).run Tryz.prog w = .ok (.func fn first cap) w := fun _ _ _ _ => rfl
  go_enter_defers Tryz.func35, Tryz.ntmps35
  go_wp2_with fail
  refine (Must4 n _).mono ?_
  rintro e w1 ⟨⟨v, rfl⟩, b1⟩
  have hg0 : (w.alloc (.cells #[.bool false] 4)).heap[w.heap.size]? = some (.cells #[.bool false] 4 (0, 0)) := heap_alloc_new' _ _ _ rfl
  have hg1 := (b1.block w.heap.size (by simp)).trans hg0
  have B1 := Aside0.mk (below_then ((Below.refl w.heap.size w).alloc (Nat.le_refl _) _) (by simp) b1)
  obtain ⟨c0, f0⟩ := heap_cell (j := 0) hg1 rfl
  have hb2 : (w1.setCell ⟨w.heap.size, 0, none⟩ (.bool true)).cell? ⟨w.heap.size, 0, none⟩ = some (.bool true) := (heap_cell (j := 0) (heap_setN (.bool true) hg1) rfl).1
  go_wp2_with fail
  refine leaves_cons (f := 82) (args := #[.pointer (some ⟨w.heap.size, 0, none⟩)]) (by simp) (by simp [go_sem]) ?_
  refine (catch_panicking ⟨w.heap.size, 0, none⟩ false 15 v [] _ c0 f0).mono ?_
  rintro e u' w2 ⟨rfl, rfl, rfl⟩
  simp [Leaves, settle, results, Tryz.results35, go_sem, hb2]
  exact B1.out.setCell (Nat.le_refl _) _
set_option maxRecDepth 100000 in
theorem panics6 (hi lo : Int) (w : World) : Calls Tryz.prog 35 #[.iface 25 (.agg #[.int .u64 hi, .int .u64 lo])] w fun e w' => e = .returned (.bool false) ∧ Below w.heap.size w w' := by
  have hmf : ∀ (fn : Fn) (first cap : Array Value) (w : World), (Instr.makeFunc fn first cap).run Tryz.prog w = .ok (.func fn first cap) w := fun _ _ _ _ => rfl
  go_enter_defers Tryz.func35, Tryz.ntmps35
  go_wp2_with fail
  refine (Must6 hi lo _).mono ?_
  rintro e w1 ⟨rfl, b1⟩
  have hg0 : (w.alloc (.cells #[.bool false] 4)).heap[w.heap.size]? = some (.cells #[.bool false] 4 (0, 0)) := heap_alloc_new' _ _ _ rfl
  have hg1 := (b1.block w.heap.size (by simp)).trans hg0
  have B1 := Aside0.mk (below_then ((Below.refl w.heap.size w).alloc (Nat.le_refl _) _) (by simp) b1)
  obtain ⟨c0, f0⟩ := heap_cell (j := 0) hg1 rfl
  have hg2 := heap_setN (j := 0) (.bool false) hg1
  obtain ⟨c2, f2⟩ := heap_cell (j := 0) hg2 rfl
  have hb2 := (heap_cell (j := 0) (heap_setN (j := 0) (.bool false) hg2) rfl).1
  go_wp2_with fail
  refine leaves_cons (f := 82) (args := #[.pointer (some ⟨w.heap.size, 0, none⟩)]) (by simp) (by simp [go_sem]) ?_
  refine (catch_idle ⟨w.heap.size, 0, none⟩ false _ c2 f2).mono ?_
  rintro e u' w2 ⟨rfl, rfl, rfl⟩
  simp [Leaves, settle, results, Tryz.results35, go_sem, hb2]
  exact (B1.out.setCell (Nat.le_refl _) _).setCell (Nat.le_refl _) _
set_option maxRecDepth 100000 in
theorem FourA4 (n : Int) (w : World) : Calls Tryz.prog 34 #[.iface 57 (.int .u32 n)] w fun e w' => e = .returned (.tuple #[.int .u32 n, .bool true]) ∧ w' = w := by
  have q := ta_44
  go_enter Tryz.func34, Tryz.ntmps34
  go_wp2_with fail
  go_ret2
  exact ⟨rfl, rfl⟩
set_option maxRecDepth 100000 in
theorem FourA6 (hi lo : Int) (w : World) : Calls Tryz.prog 34 #[.iface 25 (.agg #[.int .u64 hi, .int .u64 lo])] w fun e w' => e = .returned (.tuple #[.int .u32 0, .bool false]) ∧ w' = w := by
  have q := ta_64
  go_enter Tryz.func34, Tryz.ntmps34
  go_wp2_with fail
  go_ret2
  exact ⟨rfl, rfl⟩
/-- The document's order. -/
def refCmp (s : Bool) (h l : Int) (s' : Bool) (h' l' : Int) : Int := if h < h' ∨ (h = h' ∧ l < l') then -1 else if h' < h ∨ l' < l then 1 else if s = false ∧ s' = true then -1 else if s = true ∧ s' = false then 1 else 0
theorem refCmp_is (a b : Bool × Int × Int) : refCmp a.1 (adHi a) (adLo a) b.1 (adHi b) (adLo b) = cmpA a b := by
  have h := cmpA_val a b
  obtain ⟨sx, hi, lo⟩ := a
  obtain ⟨sy, hi', lo'⟩ := b
  rw [refCmp]
  generalize cmpA (sx, hi, lo) (sy, hi', lo') = k at h ⊢
  cases sx <;> cases sy <;> simp only [adRank, Bool.false_eq_true, reduceCtorEq, and_true, and_false, and_self, if_false, if_true] at h ⊢ <;> (repeat' split) <;> omega
end Go.Proofs.YtfieiigefllekaaGreatDoor
