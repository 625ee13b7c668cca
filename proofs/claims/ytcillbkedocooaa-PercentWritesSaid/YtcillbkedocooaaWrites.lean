/- The law PercentWrites, walked. -/
import Derived.Test.YtcillbkedocooaaREnc
import Derived.Test.YtcillbkedocooaaAwake
namespace Go.Proofs.Ytcillbkedocooaa
open Go.RowKit Go.Proofs.YtcillbkedocooaaW.PrintWords Go.Proofs.YtcillbkedocooaaW.PrintMore

set_option maxHeartbeats 1000000 in
theorem PercentWrites_calls (s : Int) (t : ByteArray) (r c : Int) (w : World) (hs : (Lit.int .u8 s).wf = true) (ht : t.size ≤ 140737488351232) (_hr : (Lit.int .i32 r).wf = true) (hc : (Lit.int .u8 c).wf = true) :
    Calls Try.prog 3 #[.int .u8 s, .string t, .int .i32 r, .int .u8 c] w fun e w' => e = .returned (.bool true) ∧ Below w.heap.size w w' := by
  obtain ⟨hs0, hs1⟩ := wf_u8 hs
  obtain ⟨hc0, hc1⟩ := wf_u8 hc
  clear hs hc
  by_cases h : t.size ≤ 2000
  · go_enter Try.func3, Try.ntmps3
    go_wp2_with fail
    refine (awake2_calls _).mono ?_
    rintro e w1 ⟨rfl, b1⟩
    go_wp2_with fail
    refine (In_calls _ _ _).mono ?_
    rintro e w2 ⟨rfl, b2⟩
    go_wp2_with fail
    refine (rIn_calls _ _ hs0 hs1 _).mono ?_
    rintro e w3 ⟨rfl, rfl⟩
    go_wp2_with fail
    refine (Encode_calls _ _ _ (by omega)).mono ?_
    rintro e w4 ⟨rfl, b4⟩
    go_wp2_with fail
    refine (rEncode_calls _ hs0 hs1 _ _ (by omega)).mono ?_
    rintro e w5 ⟨rfl, b5⟩
    go_wp2_with fail
    refine (Byte_calls _ hc0 hc1 _).mono ?_
    rintro e w6 ⟨rfl, b6⟩
    go_wp2_with fail
    refine (rByte_calls _ hc0 hc1 _).mono ?_
    rintro e w7 ⟨rfl, rfl⟩
    go_wp2
    go_ret
    have B2 := below_then b1 b1.size b2
    have B4 := below_then B2 B2.size b4
    have B5 := below_then B4 B4.size b5
    exact ⟨by simp, below_then B5 B5.size b6⟩
  · go_enter Try.func3, Try.ntmps3
    go_wp2_with fail
    refine (awake2_calls _).mono ?_
    rintro e w1 ⟨rfl, b1⟩
    go_wp2
    go_ret
    exact ⟨rfl, b1⟩
end Go.Proofs.Ytcillbkedocooaa
