/- The law NumberReads, walked. -/
import Derived.Test.YtajcndaealonbaaDoorRDecim
namespace Go.Proofs.YtajcndaealonbaaDoor
open Go.RowKit Go.Proofs.YtajcndaealonbaaDoorW.PrintWords Go.Proofs.YtajcndaealonbaaDoorW.PrintMore

set_option maxHeartbeats 1000000 in
theorem NumberReads_calls (s : ByteArray) (most : Int) (hm : most ≤ 9223372036854775807) (w : World) (hE : Aside0 (Errs w)) :
    Calls Tryd.prog 5 #[.string s, .int .i64 most] w fun e w' => e = .returned (.bool true) ∧ Below w.heap.size w w' := by
  have hW : ∀ (w2 : World), Below w.heap.size w w2 → Errs w2 := fun w2 hb => hE.out.stays hb
  have HW := Lib.hid hW
  clear hW
  by_cases hs : s.size ≤ 500
  · go_enter Tryd.func5, Tryd.ntmps5
    go_wp2_with fail
    refine (awake3_calls _).mono ?_
    rintro e w1 ⟨rfl, b1⟩
    have B1 := Aside0.mk b1
    clear b1
    go_wp2_with fail
    refine (Parse_calls s (by omega) _).mono ?_
    rintro e w2 ⟨rfl, b2⟩
    have B2 := Aside0.mk (below_then B1.out B1.out.size b2)
    clear b2
    go_wp2_with fail
    refine (rParse_calls s (by omega) _).mono ?_
    rintro e w3 ⟨rfl, b3⟩
    have B3 := Aside0.mk (below_then B2.out B2.out.size b3.below)
    clear b3
    go_wp2_with fail
    refine (Decimal_calls s (by omega) most hm _ ⟨HW.out _ B3.out⟩).mono ?_
    rintro e w4 ⟨rfl, b4⟩
    have B4 := Aside0.mk (below_then B3.out B3.out.size b4)
    clear b4
    go_wp2_with fail
    refine (rDecimal_calls s (by omega) most hm _).mono ?_
    rintro e w5 ⟨rfl, rfl⟩
    go_wp2_with fail
    refine (Ends_calls s _ (by omega)).mono ?_
    rintro e w6 ⟨rfl, b6⟩
    have B6 := Aside0.mk (below_then B4.out B4.out.size b6)
    clear b6
    go_wp2_with fail
    refine (rEnds_calls s _ (by omega)).mono ?_
    rintro e w7 ⟨rfl, b7⟩
    have B7 := Aside0.mk (below_then B6.out B6.out.size b7)
    clear b7
    go_wp2_with fail
    go_ret
    exact ⟨ret_bool (by simp), B7.out⟩
  · go_enter Tryd.func5, Tryd.ntmps5
    go_wp2_with fail
    refine (awake3_calls _).mono ?_
    rintro e w1 ⟨rfl, b1⟩
    have B1 := Aside0.mk b1
    clear b1
    go_wp2_with fail
    go_ret
    exact ⟨rfl, B1.out⟩
theorem NumberReads_row (s : ByteArray) (most : Int) (w : World) (_ : s.size ≤ 140737488351232) (hw : (Lit.int .i64 most).wf = true) (hE : Aside0 (Errs w)) :
    Calls Tryd.prog 5 #[.string s, .int .i64 most] w fun e w' => e = .returned (.bool true) ∧ Below w.heap.size w w' :=
  NumberReads_calls s most (wf_i64 hw).2 w hE
end Go.Proofs.YtajcndaealonbaaDoor
