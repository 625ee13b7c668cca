/- Whether Must panics: the deferred closure, walked. -/
import Derived.Test.YtfieiigefllekaaGreatDoorZAd1
import Derived.Test.YtfieiigefllekaaGreatDoorJH
import Derived.Defers
import Derived.Recover
import Derived.Laws.Pointers
namespace Go.Proofs.YtfieiigefllekaaGreatDoor
open Go.RowKit Go.Proofs.YtfieiigefllekaaGreatDoorW.PrintWords Go.Proofs.YtfieiigefllekaaGreatDoorW.PrintMore

theorem catch_panicking (p : Addr) (x : Bool) (u : TypeId) (pv : Value) (older : List PanicEntry) (w : World) (hc : w.cell? p = some (.bool x)) (hz : w.frozen? p = false) :
    CallsD Tryz.prog 82 #[.pointer (some p)] (.panicking ({ v := .iface u pv, recovered := false } :: older)) w fun e u' w' =>
      e = .returned (.tuple #[]) ∧ u' = .panicking ({ v := .iface u pv, recovered := true } :: older) ∧ w' = w.setCell p (.bool true) := by
  refine callsD_of_wpS Tryz.func82 rfl fun c₀ cs hu => ?_
  apply wpS_region
  simp [wpOpsS, go_sem, recoverD, hu, Tryz.ntmps82, hc, hz, bodyPostS, results, Tryz.results82]
theorem catch_idle (p : Addr) (x : Bool) (w : World) (hc : w.cell? p = some (.bool x)) (hz : w.frozen? p = false) :
    CallsD Tryz.prog 82 #[.pointer (some p)] .returning w fun e u' w' => e = .returned (.tuple #[]) ∧ u' = .returning ∧ w' = w.setCell p (.bool false) := by
  refine callsD_of_wpS Tryz.func82 rfl fun c₀ cs hu => ?_
  apply wpS_region
  simp [wpOpsS, go_sem, recoverD, hu, Tryz.ntmps82, hc, hz, bodyPostS, results, Tryz.results82]
  cases c₀
  simp_all
set_option maxRecDepth 100000 in
theorem ta_p0 (w : World) : ∃ v o, (Instr.typeAssert .nilIface 44 25 false).run Tryz.prog w = .halt (.panic (.iface 15 v)) (w.alloc o) :=
  ⟨.pointer (some ⟨w.heap.size, 0, none⟩), .cells #[typeHandle Tryz.prog 44, .pointer none, typeHandle Tryz.prog 25, strVal ""] 209, by
    simp [Instr.typeAssert, run_underlying Tryz.underlying25, runtimePanic, run_program, elemOf, run_underlying Tryz.underlying15, go_sem]⟩
set_option maxRecDepth 100000 in
theorem ta_p4 (n : Int) (w : World) : ∃ v o, (Instr.typeAssert (.iface 57 (.int .u32 n)) 44 25 false).run Tryz.prog w = .halt (.panic (.iface 15 v)) (w.alloc o) :=
  ⟨.pointer (some ⟨w.heap.size, 0, none⟩), .cells #[typeHandle Tryz.prog 44, typeHandle Tryz.prog 57, typeHandle Tryz.prog 25, strVal ""] 209, by
    simp [Instr.typeAssert, run_underlying Tryz.underlying25, runtimePanic, run_program, elemOf, run_underlying Tryz.underlying15, go_sem]⟩
theorem ta_m6 (hi lo : Int) (w : World) : (Instr.typeAssert (.iface 25 (.agg #[.int .u64 hi, .int .u64 lo])) 44 25 false).run Tryz.prog w = .ok (.agg #[.int .u64 hi, .int .u64 lo]) w := by kernel_rfl
set_option maxRecDepth 100000 in
theorem Must0 (w : World) : Calls Tryz.prog 45 #[.nilIface] w fun e w' => (∃ v, e = .panicked [{ v := .iface 15 v, recovered := false }]) ∧ Below w.heap.size w w' := by
  obtain ⟨v, o, hq⟩ := ta_p0 (w.alloc (.cells #[.int .u64 0, .int .u64 0] 25))
  go_enter Tryz.func45, Tryz.ntmps45
  go_wp2_with fail
  exact ⟨rfl, ⟨_, rfl⟩, ((Below.refl _ _).alloc (Nat.le_refl _) _).alloc (by simp) _⟩
set_option maxRecDepth 100000 in
theorem panics0 (w : World) : Calls Tryz.prog 35 #[.nilIface] w fun e w' => e = .returned (.bool true) ∧ Below w.heap.size w w' := by
  have hmf : ∀ (fn : Fn) (first cap : Array Value) (w : World), (Instr.makeFunc fn first cap).run Tryz.prog w = .ok (.func fn first cap) w := fun _ _ _ _ => rfl
  go_enter_defers Tryz.func35, Tryz.ntmps35
  go_wp2_with fail
  refine (Must0 _).mono ?_
  rintro e w1 ⟨⟨v, rfl⟩, b1⟩
  have hg0 : (w.alloc (.cells #[.bool false] 4)).heap[w.heap.size]? = some (.cells #[.bool false] 4 (0, 0)) := heap_alloc_new' _ _ _ rfl
  have hg1 := (b1.block w.heap.size (by simp)).trans hg0
  have B1 := Aside0.mk (below_then ((Below.refl w.heap.size w).alloc (Nat.le_refl _) _) (by simp) b1)
  obtain ⟨c0, f0⟩ := heap_cell (j := 0) hg1 rfl
  have hb2 : (w1.setCell ⟨w.heap.size, 0, none⟩ (.bool true)).cell? ⟨w.heap.size, 0, none⟩ = some (.bool true) := (heap_cell (j := 0) (heap_setN (.bool true) hg1) rfl).1
  go_wp2_with fail
  refine leaves_cons (f := 82) (args := #[.pointer (some ⟨w.heap.size, 0, none⟩)]) (by simp) (by simp [go_sem]) ?_
  refine (catch_panicking ⟨w.heap.size, 0, none⟩ false 15 v [] _ c0 f0).mono ?_
  rintro e u' w2 ⟨rfl, rfl, rfl⟩
  simp [Leaves, settle, results, Tryz.results35, go_sem, hb2]
  exact B1.out.setCell (Nat.le_refl _) _
end Go.Proofs.YtfieiigefllekaaGreatDoor
