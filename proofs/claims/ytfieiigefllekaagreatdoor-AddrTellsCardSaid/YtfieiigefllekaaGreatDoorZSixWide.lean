/- An address of eight pieces as a wide number. -/
import Derived.Test.YtfieiigefllekaaGreatDoorJH
namespace Go.Proofs.YtfieiigefllekaaGreatDoor
open Go.RowKit Go.Proofs.YtfieiigefllekaaGreatDoorW.PrintWords Go.Proofs.YtfieiigefllekaaGreatDoorW.PrintMore

theorem Wide6_calls (hi lo : Int) (w : World) : Calls Tryz.prog 20 #[.agg #[.int .u64 hi, .int .u64 lo]] w fun e w' => e = .returned (.tuple #[.int .u64 hi, .int .u64 lo]) ∧ Below w.heap.size w w' := by
  go_enter Tryz.func20, Tryz.ntmps20
  go_wp2_with fail
  have hg : (w.alloc (.cells #[.int .u64 hi, .int .u64 lo] 25)).heap[w.heap.size]? = some (.cells #[.int .u64 hi, .int .u64 lo] 25 (0, 0)) := heap_alloc_new' _ _ _ rfl
  have hb : Below w.heap.size w (w.alloc (.cells #[.int .u64 hi, .int .u64 lo] 25)) := (Below.refl _ _).alloc (Nat.le_refl _) _
  generalize w.alloc (.cells #[.int .u64 hi, .int .u64 lo] 25) = W at hg hb ⊢
  have HB := Aside0.mk hb
  obtain ⟨c0, _⟩ := heap_cell (j := 0) hg rfl
  obtain ⟨c1, _⟩ := heap_cell (j := 1) hg rfl
  clear hb hg
  go_region
  all_goals
    go_wp2_with fail
    go_ret2
    exact ⟨rfl, HB.out.drew⟩
end Go.Proofs.YtfieiigefllekaaGreatDoor
