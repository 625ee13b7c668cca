/- The chapter's examples of layer 4, walked. -/
import Derived.Test.YtfcnfkedoihpoaaDoorFourW
import Derived.Test.YtfcnfkedoihpoaaDoorAwN
namespace Go.Proofs.YtfcnfkedoihpoaaDoor
open Go.RowKit Go.Proofs.YtfcnfkedoihpoaaDoorW.PrintWords Go.Proofs.YtfcnfkedoihpoaaDoorW.PrintMore

theorem four_x1 : fourN [48, 120, 55, 102, 46, 49] = 2130706433 ∧ fourOk [48, 120, 55, 102, 46, 49] = true := by decide +kernel
theorem four_x2 : fourOk [49, 46, 50, 46, 51, 46, 50, 53, 54] = false := by decide +kernel
theorem four_x3 : fourN [50, 53, 54] = 256 ∧ fourOk [50, 53, 54] = true := by decide +kernel
theorem AwakeL3_calls (w : World) : Calls Tryd.prog 40 #[] w fun e w' => e = .returned (.bool true) ∧ Below w.heap.size w w' := by
  go_enter Tryd.func40, Tryd.ntmps40
  go_wp2_with fail
  refine (awake3_calls _).mono ?_
  rintro e w1 ⟨rfl, hb⟩
  go_wp2
  go_ret
  exact ⟨rfl, hb⟩
set_option maxHeartbeats 1000000 in
theorem awake4_calls (w : World) : Calls Tryd.prog 15 #[] w fun e w' => e = .returned (.bool true) ∧ Below w.heap.size w w' := by
  go_enter Tryd.func15, Tryd.ntmps15
  go_wp2_with fail
  refine (Four_calls _ _ (by decide)).mono ?_
  rintro e w1 ⟨rfl, b1⟩
  rw [show (ByteArray.mk #[48, 120, 55, 102, 46, 49]).data.toList = [48, 120, 55, 102, 46, 49] from rfl, four_x1.1, four_x1.2]
  go_wp2_with fail
  refine (Four_calls _ _ (by decide)).mono ?_
  rintro e w2 ⟨rfl, b2⟩
  rw [show (ByteArray.mk #[49, 46, 50, 46, 51, 46, 50, 53, 54]).data.toList = [49, 46, 50, 46, 51, 46, 50, 53, 54] from rfl, four_x2]
  go_wp2_with fail
  refine (Four_calls _ _ (by decide)).mono ?_
  rintro e w3 ⟨rfl, b3⟩
  rw [show (ByteArray.mk #[50, 53, 54]).data.toList = [50, 53, 54] from rfl, four_x3.1, four_x3.2]
  go_wp2_with fail
  refine (AwakeL3_calls _).mono ?_
  rintro e w4 ⟨rfl, b4⟩
  have B2 := Aside0.mk (below_then b1 b1.size b2)
  have B3 := Aside0.mk (below_then B2.out B2.out.size b3)
  have B4 := Aside0.mk (below_then B3.out B3.out.size b4)
  clear b1 b2 b3 b4
  go_wp2_with fail
  refine (Of_calls 127 0 0 1 (by omega) (by omega) (by omega) (by omega) _).mono ?_
  rintro e w5 ⟨rfl, rfl⟩
  simp only [Int.reduceMul, Int.reduceAdd]
  go_wp2_with fail
  refine (Of_calls 0 0 1 0 (by omega) (by omega) (by omega) (by omega) _).mono ?_
  rintro e w6 ⟨rfl, rfl⟩
  simp only [Int.reduceMul, Int.reduceAdd]
  go_wp2_with fail
  go_ret
  exact ⟨rfl, B4.out⟩
end Go.Proofs.YtfcnfkedoihpoaaDoor
