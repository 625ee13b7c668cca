/- Layer 6 is awake. -/
import Derived.Test.YtfieiigefllekaaGreatDoorZAd2
import Derived.Test.YtfieiigefllekaaGreatDoorZAd3
import Derived.Test.YtfieiigefllekaaGreatDoorZAdE
import Derived.Test.YtfieiigefllekaaGreatDoorJI
namespace Go.Proofs.YtfieiigefllekaaGreatDoor
open Go.RowKit Go.Proofs.YtfieiigefllekaaGreatDoorW.PrintWords Go.Proofs.YtfieiigefllekaaGreatDoorW.PrintMore

theorem ad_x1 : adOf [58, 58, 102, 102, 102, 102, 58, 55, 102, 48, 48, 58, 49] = some (true, 0, 281472812449793) := by decide +kernel
theorem ad_x2 : adOf [50, 48, 48, 50, 58, 55, 102, 48, 48, 58, 49, 58, 58] = some (true, 2306545597143908352, 0) := by decide +kernel
theorem in_x1 : inL4 0 281472812449793 = [2130706433] := by decide
theorem in_x2 : inL4 2306545597143908352 0 = [2130706433] := by decide
theorem AwakeL5_calls (w : World) (hE : Aside0 (Errs w)) (hM : Aside0 (Mx w)) (hP : Aside0 (Pows w)) (hT : Aside0 (Debr w)) : Calls Tryz.prog 67 #[] w fun e w' => e = .returned (.bool true) ∧ Below w.heap.size w w' := by
  go_enter Tryz.func67, Tryz.ntmps67
  go_wp2_with fail
  refine (awake5_calls _ hE hM hP hT).mono ?_
  rintro e w1 ⟨rfl, b1⟩
  go_wp2_with fail
  go_ret
  exact ⟨rfl, b1⟩
set_option maxHeartbeats 4000000 in
set_option maxRecDepth 100000 in
theorem awake6_calls (w : World) (hE : Aside0 (Errs w)) (hM : Aside0 (Mx w)) (hP : Aside0 (Pows w)) (hT : Aside0 (Debr w)) : Calls Tryz.prog 23 #[] w fun e w' => e = .returned (.bool true) ∧ Below w.heap.size w w' := by
  go_enter Tryz.func23, Tryz.ntmps23
  go_wp2_with fail
  refine (AdParse_calls _ _ (by decide) hE hM).mono ?_
  rw [show (ByteArray.mk #[58, 58, 102, 102, 102, 102, 58, 55, 102, 48, 48, 58, 49]).data.toList = [58, 58, 102, 102, 102, 102, 58, 55, 102, 48, 48, 58, 49] from rfl, ad_x1]
  simp only [adVo, adV, Option.isSome]
  rintro e w1 ⟨rfl, b1⟩
  have B1 := Aside0.mk b1
  clear b1
  go_wp2_with fail
  refine (AdParse_calls _ _ (by decide) ⟨hE.out.stays B1.out⟩ ⟨hM.out.stays B1.out⟩).mono ?_
  rw [show (ByteArray.mk #[50, 48, 48, 50, 58, 55, 102, 48, 48, 58, 49, 58, 58]).data.toList = [50, 48, 48, 50, 58, 55, 102, 48, 48, 58, 49, 58, 58] from rfl, ad_x2]
  simp only [adVo, adV, Option.isSome]
  rintro e w2 ⟨rfl, b2⟩
  have B2 := Aside0.mk (below_then B1.out B1.out.size b2)
  clear b2
  go_wp2_with fail
  refine (AwakeL5_calls _ ⟨hE.out.stays B2.out⟩ ⟨hM.out.stays B2.out⟩ ⟨hP.out.stays B2.out⟩ ⟨hT.out.stays B2.out⟩).mono ?_
  rintro e w3 ⟨rfl, b3⟩
  have B3 := Aside0.mk (below_then B2.out B2.out.size b3)
  clear b3
  go_wp2_with fail
  refine (Inner6_calls 0 281472812449793 (by omega) (by omega) _).mono ?_
  rw [in_x1]
  rintro e w4 ⟨v, rfl, hR, b4⟩
  have B4 := Aside0.mk (below_then B3.out B3.out.size b4)
  obtain ⟨A, c, rfl, hcap, hC⟩ := Kd.R_reads hR
  simp only [List.length_cons, List.length_nil, Nat.zero_add]
  have HC := Aside0.mk hC
  clear hR hC b4
  go_wp2_with fail
  refine (EqualF_calls [2130706433] [2130706433] 1 1 rfl rfl A (some ⟨w4.heap.size, 0, none⟩) c 1 _ (by omega) (fun j hj => C_kget (Kd.C_alloc HC.out _) j hj) (fun j hj => C_kget (C_new .u32 w4 [2130706433] _ (by decide)) j hj)).mono ?_
  rw [show decide (([2130706433] : List Int) = [2130706433]) = true from rfl]
  rintro e w5 ⟨rfl, b5⟩
  have B5 : Aside0 (Below w.heap.size w w5) := ⟨below_then (B4.out.alloc B4.out.size _) (by have := B4.out.size; simp; omega) b5⟩
  clear b5 HC hcap
  go_wp2_with fail
  refine (Inner6_calls 2306545597143908352 0 (by omega) (by omega) _).mono ?_
  rw [in_x2]
  rintro e w6 ⟨v, rfl, hR, b6⟩
  have B6 := Aside0.mk (below_then B5.out B5.out.size b6)
  obtain ⟨A2, c2, rfl, hcap, hC⟩ := Kd.R_reads hR
  simp only [List.length_cons, List.length_nil, Nat.zero_add]
  have HC := Aside0.mk hC
  clear hR hC b6
  go_wp2_with fail
  refine (EqualF_calls [2130706433] [2130706433] 1 1 rfl rfl A2 (some ⟨w6.heap.size, 0, none⟩) c2 1 _ (by omega) (fun j hj => C_kget (Kd.C_alloc HC.out _) j hj) (fun j hj => C_kget (C_new .u32 w6 [2130706433] _ (by decide)) j hj)).mono ?_
  rw [show decide (([2130706433] : List Int) = [2130706433]) = true from rfl]
  rintro e w7 ⟨rfl, b7⟩
  have B7 : Aside0 (Below w.heap.size w w7) := ⟨below_then (B6.out.alloc B6.out.size _) (by have := B6.out.size; simp; omega) b7⟩
  clear b7
  go_wp2_with fail
  go_ret
  exact ⟨rfl, B7.out⟩
end Go.Proofs.YtfieiigefllekaaGreatDoor
