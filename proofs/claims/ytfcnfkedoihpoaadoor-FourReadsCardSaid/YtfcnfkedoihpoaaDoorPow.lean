/- The document's powers of 256. -/
import Derived.Test.YtfcnfkedoihpoaaDoorFourP
namespace Go.Proofs.YtfcnfkedoihpoaaDoor
open Go.RowKit Go.Proofs.YtfcnfkedoihpoaaDoorW.PrintWords Go.Proofs.YtfcnfkedoihpoaaDoorW.PrintMore

theorem pow_bd : ∀ j : Fin 8, 1 ≤ (256 : Int) ^ j.val ∧ (256 : Int) ^ j.val ≤ 72057594037927936 := by decide +kernel
theorem Power_calls (k : Nat) (hk : k ≤ 6) (w : World) :
    Calls Tryd.prog 46 #[.int .i64 k] w fun e w' => e = .returned (.int .u64 ((256 : Int) ^ k)) ∧ w = w' := by
  go_enter Tryd.func46, Tryd.ntmps46
  go_wp2
  go_loop [3, 4] (fun p i => ∃ (j : Nat) (x : Int), i = .int .i64 j ∧ p = .int .u64 x ∧ j ≤ k ∧ 1 ≤ x ∧ x ≤ 72057594037927936 ∧ Aside0 (x = (256 : Int) ^ j)) (fun _ i => k - (intOf i).toNat)
  case atStart => exact ⟨0, 1, rfl, rfl, by omega, by omega, by omega, ⟨rfl⟩⟩
  case round =>
    obtain ⟨j, x, rfl, rfl, hj, h0, h1, hx⟩ := hrel
    by_cases hlt : j < k
    · have hb := pow_bd ⟨j + 1, by omega⟩
      have he : x * 256 = (256 : Int) ^ (j + 1) := by rw [hx.out, Int.pow_succ]
      rw [show (256 : Int) ^ (⟨j + 1, by omega⟩ : Fin 8).val = x * 256 from he.symm] at hb
      have HE := Lib.hid he
      clear he
      go_wp2_with fail
      exact ⟨⟨j + 1, x * 256, by go_num, by go_num, by omega, by omega, by omega, ⟨HE.out⟩⟩, by simp [intOf]; omega⟩
    · obtain rfl : j = k := by omega
      go_wp2
      go_ret
      exact ⟨congrArg (fun z => Ending.returned (.int .u64 z)) hx.out, rfl⟩
theorem Power_int (p : Int) (h0 : 0 ≤ p) (h1 : p ≤ 6) (w : World) :
    Calls Tryd.prog 46 #[.int .i64 p] w fun e w' => e = .returned (.int .u64 ((256 : Int) ^ p.toNat)) ∧ w = w' := by
  obtain ⟨k, rfl⟩ : ∃ k : Nat, p = k := ⟨p.toNat, by omega⟩
  exact Power_calls k (by omega) w
end Go.Proofs.YtfcnfkedoihpoaaDoor
