/- The laws FourReads and FourStrict, walked. -/
import Derived.Test.YtfcnfkedoihpoaaDoorAw4
import Derived.Test.YtfcnfkedoihpoaaDoorFour2
namespace Go.Proofs.YtfcnfkedoihpoaaDoor
open Go.RowKit Go.Proofs.YtfcnfkedoihpoaaDoorW.PrintWords Go.Proofs.YtfcnfkedoihpoaaDoorW.PrintMore

set_option maxHeartbeats 1000000 in
theorem FourReads_row (s : ByteArray) (w : World) (_ : s.size ≤ 140737488351232) (hE : Aside0 (Errs w)) :
    Calls Tryd.prog 5 #[.string s] w fun e w' => e = .returned (.bool true) ∧ Below w.heap.size w w' := by
  by_cases h5 : s.size ≤ 500
  · go_enter Tryd.func5, Tryd.ntmps5
    go_wp2_with fail
    refine (awake4_calls _).mono ?_
    rintro e w1 ⟨rfl, b1⟩
    have B1 := Aside0.mk b1
    clear b1
    go_wp2_with fail
    refine (Four_calls s _ (by omega)).mono ?_
    rintro e w2 ⟨rfl, b2⟩
    have B2 := Aside0.mk (below_then B1.out B1.out.size b2)
    clear b2
    go_wp2_with fail
    refine (rFour_calls s _ (by omega)).mono ?_
    rintro e w3 ⟨rfl, b3⟩
    have B3 := Aside0.mk (below_then B2.out B2.out.size b3)
    clear b3
    go_wp2_with fail
    refine (Strict_calls s _ (by omega) ⟨hE.out.stays B3.out⟩).mono ?_
    rintro e w4 ⟨rfl, b4⟩
    have B4 := Aside0.mk (below_then B3.out B3.out.size b4)
    clear b4
    go_wp2_with fail
    refine (rStrict_calls s _ (by omega)).mono ?_
    rintro e w5 ⟨rfl, b5⟩
    have B5 := Aside0.mk (below_then B4.out B4.out.size b5)
    clear b5
    go_wp2_with fail
    go_ret
    exact ⟨by simp, B5.out⟩
  · go_enter Tryd.func5, Tryd.ntmps5
    go_wp2_with fail
    refine (awake4_calls _).mono ?_
    rintro e w1 ⟨rfl, b1⟩
    go_wp2
    go_ret
    exact ⟨rfl, b1⟩
end Go.Proofs.YtfcnfkedoihpoaaDoor
