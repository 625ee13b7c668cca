/- The law PercentReads, walked. -/
import Derived.Test.YtcillbkedocooaaAwake
import Derived.Test.YtcillbkedocooaaRDec
namespace Go.Proofs.Ytcillbkedocooaa
open Go.RowKit Go.Proofs.YtcillbkedocooaaW.PrintWords Go.Proofs.YtcillbkedocooaaW.PrintMore

set_option maxHeartbeats 1000000 in
theorem PercentReads_calls (t : ByteArray) (w : World) (hs : t.size ≤ 140737488351232) :
    Calls Try.prog 4 #[.string t] w fun e w' => e = .returned (.bool true) ∧ Below w.heap.size w w' := by
  by_cases h : t.size ≤ 2000
  · go_enter Try.func4, Try.ntmps4
    go_wp2_with fail
    refine (awake2_calls _).mono ?_
    rintro e w1 ⟨rfl, b1⟩
    go_wp2_with fail
    refine (Decode_calls _ (by omega) _).mono ?_
    rintro e w2 ⟨rfl, b2⟩
    go_wp2_with fail
    refine (rDecode_calls _ (by omega) _).mono ?_
    rintro e w3 ⟨rfl, b3⟩
    go_wp2_with fail
    refine (Right_calls _ (by omega) _).mono ?_
    rintro e w4 ⟨rfl, b4⟩
    go_wp2_with fail
    refine (rRight_calls _ (by omega) _).mono ?_
    rintro e w5 ⟨rfl, rfl⟩
    go_wp2
    go_ret
    have B3 := below_then (below_then b1 b1.size b2) (Nat.le_trans b1.size b2.size) b3
    exact ⟨by simp, below_then B3 B3.size b4.below⟩
  · go_enter Try.func4, Try.ntmps4
    go_wp2_with fail
    refine (awake2_calls _).mono ?_
    rintro e w1 ⟨rfl, b1⟩
    go_wp2
    go_ret
    exact ⟨rfl, b1⟩
end Go.Proofs.Ytcillbkedocooaa
