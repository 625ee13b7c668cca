/- Digits' values. -/
import Derived.Test.YtfcnfkedoihpoaaDoorBase
namespace Go.Proofs.YtfcnfkedoihpoaaDoor
open Go.RowKit

/-- A digit's value to the base 16; -1: it is none. -/
def hexV (r : Int) : Int := if 48 ≤ r ∧ r ≤ 57 then r - 48 else if 65 ≤ r ∧ r ≤ 70 then r - 55 else if 97 ≤ r ∧ r ≤ 102 then r - 87 else -1
theorem hexV_bd (r : Int) : -1 ≤ hexV r ∧ hexV r ≤ 15 := by unfold hexV; split <;> (try split) <;> (try split) <;> omega
def isDig (r : Int) : Bool := decide (48 ≤ r) && decide (r ≤ 57)

set_option maxHeartbeats 400000 in
theorem Digit_calls (r : Int) (w : World) : Calls Tryd.prog 84 #[.int .i32 r] w fun e w' => e = .returned (.bool (isDig r)) ∧ w = w' := by
  by_cases h1 : 48 ≤ r
  · go_enter Tryd.func84, Tryd.ntmps84
    go_wp2
    go_ret
    exact ⟨by simp [isDig, h1], rfl⟩
  · go_enter Tryd.func84, Tryd.ntmps84
    go_wp2
    go_ret
    exact ⟨by simp [isDig]; omega, rfl⟩

theorem hexV_cases (r : Int) : (r < 48 ∧ hexV r = -1) ∨ (48 ≤ r ∧ r ≤ 57 ∧ hexV r = r - 48) ∨ (57 < r ∧ r < 65 ∧ hexV r = -1) ∨ (65 ≤ r ∧ r ≤ 70 ∧ hexV r = r - 55) ∨ (70 < r ∧ r < 97 ∧ hexV r = -1) ∨ (97 ≤ r ∧ r ≤ 102 ∧ hexV r = r - 87) ∨ (102 < r ∧ hexV r = -1) := by
  unfold hexV; split <;> (try split) <;> (try split) <;> omega

set_option maxHeartbeats 1000000 in
theorem Value_calls (r : Int) (w : World) : Calls Tryd.prog 56 #[.int .i32 r] w fun e w' => e = .returned (.int .i64 (hexV r)) ∧ w = w' := by
  rcases hexV_cases r with ⟨h1, h⟩ | ⟨h1, h2, h⟩ | ⟨h1, h2, h⟩ | ⟨h1, h2, h⟩ | ⟨h1, h2, h⟩ | ⟨h1, h2, h⟩ | ⟨h1, h⟩
  all_goals
    have H := Lib.hid h
    clear h
    go_enter Tryd.func56, Tryd.ntmps56
    go_wp2
    go_ret
    exact ⟨ret_int (by rw [H.out]; try omega), rfl⟩

set_option maxHeartbeats 1000000 in
theorem rValue_calls (r : Int) (w : World) (hlo : -2147483648 ≤ r) (hhi : r ≤ 2147483647) : Calls Tryd.prog 98 #[.int .i32 r] w fun e w' => e = .returned (.int .i64 (hexV r)) ∧ w = w' := by
  rcases hexV_cases r with ⟨h1, h⟩ | ⟨h1, h2, h⟩ | ⟨h1, h2, h⟩ | ⟨h1, h2, h⟩ | ⟨h1, h2, h⟩ | ⟨h1, h2, h⟩ | ⟨h1, h⟩
  all_goals
    have H := Lib.hid h
    clear h
    go_enter Tryd.func98, Tryd.ntmps98
    go_wp2
    go_ret
    exact ⟨ret_int (by rw [H.out]; try omega), rfl⟩
theorem rValue_byte (x : UInt8) (w : World) : Calls Tryd.prog 98 #[.int .i32 (x.toNat : Int)] w fun e w' => e = .returned (.int .i64 (hexV (x.toNat : Int))) ∧ w = w' := by
  have := x.toNat_lt
  exact rValue_calls _ w (by omega) (by omega)
theorem Value_byte (x : UInt8) (w : World) : Calls Tryd.prog 56 #[.int .i32 (x.toNat : Int)] w fun e w' => e = .returned (.int .i64 (hexV (x.toNat : Int))) ∧ w = w' := Value_calls _ w
end Go.Proofs.YtfcnfkedoihpoaaDoor
