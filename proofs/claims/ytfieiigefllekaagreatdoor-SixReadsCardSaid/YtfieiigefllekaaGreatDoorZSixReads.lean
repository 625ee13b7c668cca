/- The law SixReads, walked: the reader's answer is the document's. -/
import Derived.Test.YtfieiigefllekaaGreatDoorJI
import Derived.Test.YtfieiigefllekaaGreatDoorJK
namespace Go.Proofs.YtfieiigefllekaaGreatDoor
open Go.RowKit Go.Proofs.YtfieiigefllekaaGreatDoorW.PrintWords Go.Proofs.YtfieiigefllekaaGreatDoorW.PrintMore

set_option maxHeartbeats 4000000 in
set_option maxRecDepth 100000 in
theorem SixReads_row (s : ByteArray) (w : World) (_hw : s.size ≤ 140737488351232) (hP : Aside0 (Pows w)) (hT : Aside0 (Debr w)) (hE : Aside0 (Errs w)) (hM : Aside0 (Mx w)) :
    Calls Tryz.prog 3 #[.string s] w fun e w' => e = .returned (.bool true) ∧ Below w.heap.size w w' := by
  by_cases h5 : s.size ≤ 500
  · go_enter Tryz.func3, Tryz.ntmps3
    go_wp2_with fail
    refine (awake5_calls _ hE hM hP hT).mono ?_
    rintro e w1 ⟨rfl, b1⟩
    have B1 := Aside0.mk b1
    go_wp2_with fail
    refine (SixParse_calls s w1 (by omega) ⟨hE.out.stays b1⟩ ⟨hM.out.stays b1⟩).mono ?_
    rintro e w2 ⟨rfl, b2⟩
    have B2 := Aside0.mk (below_then B1.out B1.out.size b2)
    clear b1 b2
    go_wp2_with fail
    refine (rParse5_calls s _ (by omega)).mono ?_
    rintro e w3 ⟨rfl, b3⟩
    have hW0 : (w2.alloc (.cells #[.int .u64 (sixHi s.data.toList), .int .u64 (sixLo s.data.toList)] 25)).heap[w2.heap.size]? = some (.cells #[.int .u64 (sixHi s.data.toList), .int .u64 (sixLo s.data.toList)] 25 (0, 0)) := heap_alloc_new' _ _ _ rfl
    have hW := (b3.block w2.heap.size (by simp)).trans hW0
    have B3 := Aside0.mk (below_then B2.out B2.out.size (below_then ((Below.refl w2.heap.size w2).alloc (Nat.le_refl _) _) (by simp) b3))
    clear b3 hW0
    generalize sixHi s.data.toList = hi at hW ⊢
    generalize sixLo s.data.toList = lo at hW ⊢
    generalize sixOk s.data.toList = ok
    obtain ⟨c0, _⟩ := heap_cell (j := 0) hW rfl
    obtain ⟨c1, _⟩ := heap_cell (j := 1) hW rfl
    clear hW
    cases ok <;> go_wp2_with fail
    all_goals
      go_ret
      exact ⟨rfl, B3.out⟩
  · go_enter Tryz.func3, Tryz.ntmps3
    go_wp2_with fail
    refine (awake5_calls _ hE hM hP hT).mono ?_
    rintro e w1 ⟨rfl, b1⟩
    go_wp2
    go_ret
    exact ⟨rfl, b1⟩
end Go.Proofs.YtfieiigefllekaaGreatDoor
