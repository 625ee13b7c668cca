/- The document's In, digit, Byte, Encode, Text. -/
import Derived.Test.YtcillbkedocooaaRef1
import Derived.Test.YtcillbkedocooaaEnc
namespace Go.Proofs.Ytcillbkedocooaa
open Go.RowKit Go.Proofs.YtcillbkedocooaaW.PrintWords Go.Proofs.YtcillbkedocooaaW.PrintMore

theorem rn_marks0 : rn (marks 0) = [] := by decide +kernel
theorem rn_marks1 : rn (marks 1) = [32, 34, 60, 62, 96] := by decide +kernel
theorem rn_marks2 : rn (marks 2) = [32, 34, 35, 60, 62] := by decide +kernel
theorem rn_marks3 : rn (marks 3) = [32, 34, 35, 60, 62, 39] := by decide +kernel
theorem rn_marks4 : rn (marks 4) = [32, 34, 35, 60, 62, 63, 94, 96, 123, 125] := by decide +kernel
theorem rn_marks5 : rn (marks 5) = [32, 34, 35, 60, 62, 63, 94, 96, 123, 125, 47, 58, 59, 61, 64, 91, 92, 93, 124] := by decide +kernel
theorem inSet_mid (s r : Int) (h5 : s ≤ 5) (h32 : 32 ≤ r) (h126 : r ≤ 126) : inSet s r = (rn (marks s)).contains r := by
  simp only [inSet, hasRune, if_neg (show ¬ 5 < s by omega), decide_eq_false (show ¬ r < 32 by omega), decide_eq_false (show ¬ 126 < r by omega), Bool.false_or]

set_option maxHeartbeats 4000000 in
set_option maxRecDepth 100000 in
theorem rIn_calls (s r : Int) (hs0 : 0 ≤ s) (hs : s ≤ 255) (w : World) : Calls Try.prog 8 #[.int .i64 s, .int .i32 r] w fun e w' => e = .returned (.bool (inSet s r)) ∧ w = w' := by
  by_cases h5 : 5 < s
  · have E := Lib.hid (show inSet s r = false by simp [inSet, h5])
    go_enter Try.func8, Try.ntmps8
    go_wp2
    go_ret
    exact ⟨ret_bool E.out.symm, rfl⟩
  · by_cases h31 : r ≤ 31
    · have E := Lib.hid (show inSet s r = true by simp [inSet, h5]; omega)
      go_enter Try.func8, Try.ntmps8
      go_wp2
      go_ret
      exact ⟨ret_bool E.out.symm, rfl⟩
    · by_cases h126 : 126 < r
      · have E := Lib.hid (show inSet s r = true by simp [inSet, h5]; omega)
        go_enter Try.func8, Try.ntmps8
        go_wp2
        go_ret
        exact ⟨ret_bool E.out.symm, rfl⟩
      · have e := inSet_mid s r (by omega) (by omega) (by omega)
        have E := Lib.hid e
        clear e
        rcases (show s = 0 ∨ s = 1 ∨ s = 2 ∨ s = 3 ∨ s = 4 ∨ s = 5 by omega) with rfl | rfl | rfl | rfl | rfl | rfl
        · go_enter Try.func8, Try.ntmps8
          go_wp2
          all_goals
            go_ret
            exact ⟨ret_bool (by first | (decide +kernel) | (rw [E.out, rn_marks0, Bool.eq_iff_iff]; simp; done) | (rw [E.out, rn_marks0, Bool.eq_iff_iff]; simp; omega)), rfl⟩
        · go_enter Try.func8, Try.ntmps8
          go_wp2
          all_goals
            go_ret
            exact ⟨ret_bool (by first | (decide +kernel) | (rw [E.out, rn_marks1, Bool.eq_iff_iff]; simp; done) | (rw [E.out, rn_marks1, Bool.eq_iff_iff]; simp; omega)), rfl⟩
        · go_enter Try.func8, Try.ntmps8
          go_wp2
          all_goals
            go_ret
            exact ⟨ret_bool (by first | (decide +kernel) | (rw [E.out, rn_marks2, Bool.eq_iff_iff]; simp; done) | (rw [E.out, rn_marks2, Bool.eq_iff_iff]; simp; omega)), rfl⟩
        · go_enter Try.func8, Try.ntmps8
          go_wp2
          all_goals
            go_ret
            exact ⟨ret_bool (by first | (decide +kernel) | (rw [E.out, rn_marks3, Bool.eq_iff_iff]; simp; done) | (rw [E.out, rn_marks3, Bool.eq_iff_iff]; simp; omega)), rfl⟩
        · go_enter Try.func8, Try.ntmps8
          go_wp2
          all_goals
            go_ret
            exact ⟨ret_bool (by first | (decide +kernel) | (rw [E.out, rn_marks4, Bool.eq_iff_iff]; simp; done) | (rw [E.out, rn_marks4, Bool.eq_iff_iff]; simp; omega)), rfl⟩
        · go_enter Try.func8, Try.ntmps8
          go_wp2_with fail
          rotate_left 10
          refine (Has_calls _ _ (by decide) _).mono ?_
          rintro e w1 ⟨rfl, rfl⟩
          go_wp2_with fail
          · have hh : hasL [47, 58, 59, 61, 64, 91, 93, 124] r = true := by assumption
            go_ret
            exact ⟨ret_bool (by rw [E.out, rn_marks5, Bool.eq_iff_iff]; simp [hasL, intsOf] at hh; simp; omega), rfl⟩
          · have hh : ¬ hasL [47, 58, 59, 61, 64, 91, 93, 124] r = true := by assumption
            go_ret
            exact ⟨ret_bool (by rw [E.out, rn_marks5, Bool.eq_iff_iff]; simp [hasL, intsOf] at hh; simp; omega), rfl⟩
          all_goals
            go_ret
            exact ⟨ret_bool (by decide +kernel), rfl⟩

set_option maxHeartbeats 400000 in
theorem digit_calls (n : Int) (h0 : 0 ≤ n) (h1 : n < 16) (w : World) : Calls Try.prog 28 #[.int .u8 n] w fun e w' => e = .returned (.string ⟨#[hexD n]⟩) ∧ w = w' := by
  have : n = 0 ∨ n = 1 ∨ n = 2 ∨ n = 3 ∨ n = 4 ∨ n = 5 ∨ n = 6 ∨ n = 7 ∨ n = 8 ∨ n = 9 ∨ n = 10 ∨ n = 11 ∨ n = 12 ∨ n = 13 ∨ n = 14 ∨ n = 15 := by omega
  rcases this with rfl | rfl | rfl | rfl | rfl | rfl | rfl | rfl | rfl | rfl | rfl | rfl | rfl | rfl | rfl | rfl
  all_goals
    go_enter Try.func28, Try.ntmps28
    go_wp2
    go_ret
    exact ⟨ret_string (by decide +kernel), rfl⟩

theorem append_bytes (a b : List UInt8) : (⟨a.toArray⟩ : ByteArray) ++ ⟨b.toArray⟩ = ⟨(a ++ b).toArray⟩ := by
  apply ByteArray.ext
  simp [ByteArray.data_append]

set_option maxHeartbeats 400000 in
theorem rByte_calls (c : Int) (h0 : 0 ≤ c) (h1 : c ≤ 255) (w : World) : Calls Try.prog 12 #[.int .u8 c] w fun e w' => e = .returned (.string ⟨(byteL c).toArray⟩) ∧ w = w' := by
  have b1 : 0 ≤ c / 16 := by omega
  have b2 : c / 16 < 16 := by omega
  have b3 : 0 ≤ c % 16 := by omega
  have b4 : c % 16 < 16 := by omega
  go_enter Try.func12, Try.ntmps12
  go_wp2_with fail
  refine (digit_calls _ b1 b2 _).mono ?_
  rintro e w1 ⟨rfl, rfl⟩
  go_wp2_with fail
  refine (digit_calls _ b3 b4 _).mono ?_
  rintro e w1 ⟨rfl, rfl⟩
  go_wp2_with fail
  go_ret
  exact ⟨ret_string rfl, rfl⟩
end Go.Proofs.Ytcillbkedocooaa
