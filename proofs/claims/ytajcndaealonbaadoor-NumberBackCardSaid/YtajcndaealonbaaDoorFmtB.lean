/- strconv.FormatUint at the bases 8, 10 and 16: the digits. -/
import Derived.Test.YtajcndaealonbaaDoorBits
namespace Go.Proofs.YtajcndaealonbaaDoor
open Go.RowKit Go.Proofs.YtajcndaealonbaaDoorW.PrintWords Go.Proofs.YtajcndaealonbaaDoorW.PrintMore

theorem Bits_calls (b : Nat) (hb : b = 8 ∨ b = 16) (u : Nat) (hu : u < 18446744073709551616) (w : World) (hT : Debr w) :
    Calls Tryd.prog 78 #[.slice none 0 0, .int .u64 u, .int .i64 b, .bool false, .bool false] w fun e w' => e = .returned (.tuple #[.slice none 0 0, .string ⟨(digB b u).toArray⟩]) ∧ Below w.heap.size w w' := by
  rcases hb with rfl | rfl
  · exact Bits8_calls u hu w hT
  · exact Bits16_calls u hu w hT
theorem FormatB_calls (b : Nat) (hb : b = 8 ∨ b = 16) (u : Nat) (hu : u < 18446744073709551616) (w : World) (hT : Debr w) :
    Calls Tryd.prog 50 #[.int .u64 u, .int .i64 b] w fun e w' => e = .returned (.string ⟨(digB b u).toArray⟩) ∧ Below w.heap.size w w' := by
  have hb' : 8 ≤ b ∧ b ≤ 16 ∧ ¬ b = 10 := by omega
  have HB := Lib.hid hb
  clear hb
  go_enter Tryd.func50, Tryd.ntmps50
  go_wp2_with fail
  refine (Bits_calls b HB.out u hu _ hT).mono ?_
  rintro e w1 ⟨rfl, hb⟩
  go_wp2_with fail
  go_ret
  exact ⟨rfl, hb⟩
/-- FormatUint to one of the three bases. -/
theorem FormatUint_calls (b : Nat) (hb : b = 8 ∨ b = 10 ∨ b = 16) (u : Nat) (hu : u < 18446744073709551616) (w : World) (hP : Pows w) (hT : Debr w) :
    Calls Tryd.prog 18 #[.int .u64 u, .int .i64 b] w fun e w' => e = .returned (.string ⟨(digB b u).toArray⟩) ∧ Below w.heap.size w w' := by
  by_cases h10 : b = 10
  · subst h10
    refine (FormatUint10_calls u hu w hP).mono ?_
    rintro e w1 ⟨rfl, hb⟩
    exact ⟨by rw [dec_eq], hb⟩
  · have HB := Lib.hid (show b = 8 ∨ b = 16 by omega)
    clear hb
    go_enter Tryd.func18, Tryd.ntmps18
    go_wp2_with fail
    refine (FormatB_calls b HB.out u hu _ hT).mono ?_
    rintro e w1 ⟨rfl, hb⟩
    go_wp2_with fail
    go_ret
    exact ⟨rfl, hb⟩
end Go.Proofs.YtajcndaealonbaaDoor
