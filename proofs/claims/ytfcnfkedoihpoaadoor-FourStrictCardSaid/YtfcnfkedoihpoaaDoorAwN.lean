/- The chapters' examples of layers 2 and 3, walked. -/
import Derived.Test.YtfcnfkedoihpoaaDoorEndsP
import Derived.Test.YtfcnfkedoihpoaaDoorAwake
namespace Go.Proofs.YtfcnfkedoihpoaaDoor
open Go.RowKit Go.Proofs.YtfcnfkedoihpoaaDoorW.PrintWords Go.Proofs.YtfcnfkedoihpoaaDoorW.PrintMore

theorem parse_x1 : parseN [48, 120, 55, 102] = 127 ∧ parseOk [48, 120, 55, 102] = true := by decide +kernel
theorem parse_x2 : parseN [48, 49, 55] = 15 ∧ parseOk [48, 49, 55] = true := by decide +kernel
theorem parse_x3 : parseOk [48, 56] = false := by decide +kernel
theorem ends_x : endsL [97, 46, 48, 120] = true := by decide +kernel

theorem AwakeL2_calls (w : World) : Calls Tryd.prog 90 #[] w fun e w' => e = .returned (.bool true) ∧ Below w.heap.size w w' := by
  go_enter Tryd.func90, Tryd.ntmps90
  go_wp2_with fail
  refine (awake2_calls _).mono ?_
  rintro e w1 ⟨rfl, hb⟩
  go_wp2
  go_ret
  exact ⟨rfl, hb⟩

set_option maxHeartbeats 1000000 in
theorem awake3_calls (w : World) : Calls Tryd.prog 64 #[] w fun e w' => e = .returned (.bool true) ∧ Below w.heap.size w w' := by
  go_enter Tryd.func64, Tryd.ntmps64
  go_wp2_with fail
  refine (Parse_calls _ (by decide) _).mono ?_
  rintro e w1 ⟨rfl, b1⟩
  rw [show (ByteArray.mk #[48, 120, 55, 102]).data.toList = [48, 120, 55, 102] from rfl, parse_x1.1, parse_x1.2]
  go_wp2_with fail
  refine (Parse_calls _ (by decide) _).mono ?_
  rintro e w2 ⟨rfl, b2⟩
  rw [show (ByteArray.mk #[48, 49, 55]).data.toList = [48, 49, 55] from rfl, parse_x2.1, parse_x2.2]
  go_wp2_with fail
  refine (Parse_calls _ (by decide) _).mono ?_
  rintro e w3 ⟨rfl, b3⟩
  rw [show (ByteArray.mk #[48, 56]).data.toList = [48, 56] from rfl, parse_x3]
  go_wp2_with fail
  refine (AwakeL2_calls _).mono ?_
  rintro e w4 ⟨rfl, b4⟩
  go_wp2_with fail
  refine (Ends_calls _ _ (by decide)).mono ?_
  rintro e w5 ⟨rfl, b5⟩
  rw [show (ByteArray.mk #[97, 46, 48, 120]).data.toList = [97, 46, 48, 120] from rfl, ends_x]
  go_wp2
  go_ret
  have B2 := below_then b1 b1.size b2
  have B3 := below_then B2 B2.size b3
  have B4 := below_then B3 B3.size b4
  exact ⟨rfl, below_then B4 B4.size b5⟩
end Go.Proofs.YtfcnfkedoihpoaaDoor
