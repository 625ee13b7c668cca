/- The law AddrNone, walked: of nil nothing is told. -/
import Derived.Test.YtfieiigefllekaaGreatDoorZAw6
import Derived.Test.YtfieiigefllekaaGreatDoorZAdN
namespace Go.Proofs.YtfieiigefllekaaGreatDoor
open Go.RowKit Go.Proofs.YtfieiigefllekaaGreatDoorW.PrintWords Go.Proofs.YtfieiigefllekaaGreatDoorW.PrintMore

set_option maxRecDepth 100000 in
theorem Four0 (w : World) : Calls Tryz.prog 34 #[.nilIface] w fun e w' => e = .returned (.tuple #[.int .u32 0, .bool false]) ∧ w' = w := by
  have q := ta_04
  go_enter Tryz.func34, Tryz.ntmps34
  go_wp2_with fail
  go_ret2
  exact ⟨rfl, rfl⟩
set_option maxRecDepth 100000 in
theorem Inner0 (w : World) : Calls Tryz.prog 28 #[.nilIface] w fun e w' => e = .returned (.slice none 0 0) ∧ Below w.heap.size w w' := by
  have q := ta_06
  go_enter Tryz.func28, Tryz.ntmps28
  go_wp2_with fail
  go_ret
  exact ⟨rfl, (Below.refl _ _).alloc (Nat.le_refl _) _⟩
set_option maxRecDepth 100000 in
theorem Cmp00 (w : World) : Calls Tryz.prog 30 #[.nilIface, .nilIface] w fun e w' => e = .returned (.int .i64 0) ∧ w' = w := by
  go_enter Tryz.func30, Tryz.ntmps30
  go_wp2_with fail
  refine (rank0_calls _).mono ?_
  rintro e w1 ⟨rfl, rfl⟩
  go_wp2_with fail
  refine (rank0_calls _).mono ?_
  rintro e w2 ⟨rfl, rfl⟩
  go_wp2_with fail
  refine (cmpN_calls 0 0 _).mono ?_
  rintro e w3 ⟨rfl, rfl⟩
  go_wp2_with fail
  go_ret
  exact ⟨rfl, rfl⟩
set_option maxRecDepth 100000 in
theorem Cmp04 (w : World) : Calls Tryz.prog 30 #[.nilIface, .iface 57 (.int .u32 0)] w fun e w' => e = .returned (.int .i64 (-1)) ∧ w' = w := by
  have R := Aside0.mk (rank_calls (false, 0, 0))
  go_enter Tryz.func30, Tryz.ntmps30
  go_wp2_with fail
  refine (rank0_calls _).mono ?_
  rintro e w1 ⟨rfl, rfl⟩
  go_wp2_with fail
  refine (R.out _).mono ?_
  rintro e w2 ⟨rfl, rfl⟩
  go_wp2_with fail
  refine (cmpN_calls 0 1 _).mono ?_
  rintro e w3 ⟨rfl, rfl⟩
  go_wp2_with fail
  go_ret
  exact ⟨rfl, rfl⟩
set_option maxRecDepth 100000 in
theorem Cmp60 (w : World) : Calls Tryz.prog 30 #[.iface 25 (.agg #[.int .u64 0, .int .u64 0]), .nilIface] w fun e w' => e = .returned (.int .i64 1) ∧ w' = w := by
  have R := Aside0.mk (rank_calls (true, 0, 0))
  go_enter Tryz.func30, Tryz.ntmps30
  go_wp2_with fail
  refine (R.out _).mono ?_
  rintro e w1 ⟨rfl, rfl⟩
  go_wp2_with fail
  refine (rank0_calls _).mono ?_
  rintro e w2 ⟨rfl, rfl⟩
  go_wp2_with fail
  refine (cmpN_calls 2 0 _).mono ?_
  rintro e w3 ⟨rfl, rfl⟩
  go_wp2_with fail
  go_ret
  exact ⟨rfl, rfl⟩
set_option maxHeartbeats 4000000 in
set_option maxRecDepth 100000 in
theorem AddrNone_row (w : World) (hP : Aside0 (Pows w)) (hT : Aside0 (Debr w)) (hE : Aside0 (Errs w)) (hM : Aside0 (Mx w)) :
    Calls Tryz.prog 9 #[] w fun e w' => e = .returned (.bool true) ∧ Below w.heap.size w w' := by
  go_enter Tryz.func9, Tryz.ntmps9
  go_wp2_with fail
  refine (Four0 _).mono ?_
  rintro e w1 ⟨rfl, rfl⟩
  go_wp2_with fail
  refine (awake6_calls _ hE hM hP hT).mono ?_
  rintro e w2 ⟨rfl, b2⟩
  have B2 := Aside0.mk b2
  clear b2
  go_wp2_with fail
  refine (panics0 _).mono ?_
  rintro e w3 ⟨rfl, b3⟩
  have B3 := Aside0.mk (below_then B2.out B2.out.size b3)
  clear b3
  go_wp2_with fail
  refine (Inner0 _).mono ?_
  rintro e w4 ⟨rfl, b4⟩
  have B4 := Aside0.mk (below_then B3.out B3.out.size b4)
  clear b4
  go_wp2_with fail
  refine (Cmp00 _).mono ?_
  rintro e w5 ⟨rfl, rfl⟩
  go_wp2_with fail
  refine (Cmp04 _).mono ?_
  rintro e w6 ⟨rfl, rfl⟩
  go_wp2_with fail
  refine (Cmp60 _).mono ?_
  rintro e w7 ⟨rfl, rfl⟩
  go_wp2_with fail
  go_ret
  exact ⟨rfl, B4.out⟩
end Go.Proofs.YtfieiigefllekaaGreatDoor
