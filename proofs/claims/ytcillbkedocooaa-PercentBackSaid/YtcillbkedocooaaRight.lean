/- percent.Right, and the document's Three, Decode, Right. -/
import Derived.Test.YtcillbkedocooaaDec
namespace Go.Proofs.Ytcillbkedocooaa
open Go.RowKit Go.Proofs.YtcillbkedocooaaW.PrintWords Go.Proofs.YtcillbkedocooaaW.PrintMore

/-- Do digits stand behind each %? -/
def rightL : List UInt8 → Bool
  | [] => true
  | c :: r => if (c == 37 && !threeL (c :: r)) = true then false else rightL r

theorem byte_eq_37 (c : UInt8) : (c == 37) = ((c.toNat : Int) == 37) := by
  rw [Bool.eq_iff_iff, beq_iff_eq, beq_iff_eq]
  constructor
  · intro h; rw [h]; rfl
  · intro h; exact UInt8.toNat_inj.1 (by have : c.toNat = 37 := by omega
                                         rw [this]; rfl)
theorem right_step (t : ByteArray) (j : Nat) (hj : j < t.size) :
    rightL (t.data.toList.drop j) = if (((t[j]'hj).toNat : Int) == 37 && !threeL (t.data.toList.drop j)) = true then false else rightL (t.data.toList.drop (j + 1)) := by
  rw [drop_byte t j hj, rightL, byte_eq_37]

set_option maxHeartbeats 1000000 in
theorem Right_calls (t : ByteArray) (hs : t.size ≤ 1000000) (w : World) :
    Calls Try.prog 15 #[.string t] w fun e w' => e = .returned (.bool (rightL t.data.toList)) ∧ Drawn0 w w' := by
  go_enter Try.func15, Try.ntmps15
  go_wp2
  go_loopw [8] (fun i wr => ∃ (j : Nat), i = .int .i64 j ∧ j ≤ t.size ∧ Aside0 (rightL (t.data.toList.drop j) = rightL t.data.toList) ∧ Aside0 (Drawn0 w wr)) (fun i _ => t.size - (intOf i).toNat)
  case atStart => exact ⟨0, rfl, by omega, ⟨rfl⟩, ⟨Drawn0.refl _⟩⟩
  case round =>
    obtain ⟨j, rfl, hj, hr, HB⟩ := hrel
    by_cases hlt : j < t.size
    · go_wp2_with fail
      refine (at_calls t j hlt hs _).mono ?_
      rintro e w1 ⟨x, rfl, _, hd⟩
      have HB1 : Aside0 (Drawn0 w w1) := by
        obtain ⟨n, rfl⟩ := hd.out
        exact ⟨HB.out.step n⟩
      have H2 := Lib.hid (right_step t j hlt)
      clear HB hd
      cases h3 : threeL (t.data.toList.drop j)
      · have H3 := Lib.hid h3
        clear h3
        cases h37 : (((t[j]'hlt).toNat : Int) == 37)
        · have H4 := Lib.hid h37
          go_wp2_with fail
          refine ⟨⟨j + 1, by go_num, by omega, ⟨?_⟩, HB1⟩, by simp [intOf]; omega⟩
          rw [← hr.out, H2.out, H4.out]
          rfl
        · have H4 := Lib.hid h37
          go_wp2_with fail
          go_ret
          exact ⟨ret_bool (by rw [← hr.out, H2.out, H4.out, H3.out]; rfl), HB1.out⟩
      · have H3 := Lib.hid h3
        clear h3
        cases h37 : (((t[j]'hlt).toNat : Int) == 37)
        all_goals
          go_wp2_with fail
          refine ⟨⟨j + 1, by go_num, by omega, ⟨?_⟩, HB1⟩, by simp [intOf]; omega⟩
          rw [← hr.out, H2.out, H3.out]
          simp
    · go_wp2_with fail
      go_ret
      have he := hr.out
      rw [List.drop_of_length_le (by simp; omega)] at he
      exact ⟨ret_bool (by rw [← he]; rfl), HB.out⟩

set_option maxHeartbeats 1000000 in
theorem Three_calls (t : ByteArray) (j : Nat) (hj : j < t.size) (hs : t.size ≤ 1000000) (w : World) :
    Calls Try.prog 30 #[.string t, .int .i64 j] w fun e w' => e = .returned (.bool (threeL (t.data.toList.drop j))) ∧ w = w' := by
  by_cases h2 : j + 2 < t.size
  · have hge : decide ((j : Int) + 3 ≤ (t.size : Int)) = true := by simp; omega
    have b1 := (t[j+1]'(by omega)).toNat_lt
    have b2 := (t[j+2]'h2).toNat_lt
    by_cases hc : (t[j]'hj).toNat = 37
    · have E3 := Lib.hid (three_at t j h2 hc).1
      have hcb : (((t[j]'hj).toNat : Int) == 37) = true := by simp [hc]
      clear hc
      by_cases h0 : 0 ≤ hexV ((t[j+1]'(by omega)).toNat : Int)
      · go_enter Try.func30, Try.ntmps30
        go_wp2_with fail
        refine (rValue_calls _ _ (by omega) (by omega)).mono ?_
        rintro e w1 ⟨rfl, rfl⟩
        go_wp2_with fail
        refine (rValue_calls _ _ (by omega) (by omega)).mono ?_
        rintro e w1 ⟨rfl, rfl⟩
        go_wp2_with fail
        go_ret
        exact ⟨ret_bool (by rw [E3.out]; simp [h0]), rfl⟩
      · go_enter Try.func30, Try.ntmps30
        go_wp2_with fail
        refine (rValue_calls _ _ (by omega) (by omega)).mono ?_
        rintro e w1 ⟨rfl, rfl⟩
        go_wp2_with fail
        go_ret
        exact ⟨ret_bool (by rw [E3.out]; simp; omega), rfl⟩
    · have E3 := Lib.hid (three_not t j hj hc)
      have hcb : (((t[j]'hj).toNat : Int) == 37) = false := by simp; omega
      clear hc
      go_enter Try.func30, Try.ntmps30
      go_wp2_with fail
      go_ret
      exact ⟨ret_bool E3.out.symm, rfl⟩
  · have E3 := Lib.hid (three_short t j h2)
    have hge : decide ((j : Int) + 3 ≤ (t.size : Int)) = false := by simp; omega
    go_enter Try.func30, Try.ntmps30
    go_wp2_with fail
    go_ret
    exact ⟨ret_bool E3.out.symm, rfl⟩

set_option maxHeartbeats 1000000 in
theorem rRight_calls (t : ByteArray) (hs : t.size ≤ 1000000) (w : World) :
    Calls Try.prog 16 #[.string t] w fun e w' => e = .returned (.bool (rightL t.data.toList)) ∧ w = w' := by
  go_enter Try.func16, Try.ntmps16
  go_wp2
  go_loop [3] (fun i => ∃ (j : Nat), i = .int .i64 j ∧ j ≤ t.size ∧ Aside0 (rightL (t.data.toList.drop j) = rightL t.data.toList)) (fun i => t.size - (intOf i).toNat)
  case atStart => exact ⟨0, rfl, by omega, ⟨rfl⟩⟩
  case round =>
    obtain ⟨j, rfl, hj, hr⟩ := hrel
    by_cases hlt : j < t.size
    · have H2 := Lib.hid (right_step t j hlt)
      cases h37 : (((t[j]'hlt).toNat : Int) == 37)
      · have H4 := Lib.hid h37
        go_wp2_with fail
        refine ⟨⟨j + 1, by go_num, by omega, ⟨?_⟩⟩, by simp [intOf]; omega⟩
        rw [← hr.out, H2.out, H4.out]
        rfl
      · have H4 := Lib.hid h37
        go_wp2_with fail
        refine (Three_calls t j hlt hs _).mono ?_
        rintro e w1 ⟨rfl, rfl⟩
        cases h3 : threeL (t.data.toList.drop j)
        · have H3 := Lib.hid h3
          clear h3
          go_wp2_with fail
          go_ret
          exact ⟨ret_bool (by rw [← hr.out, H2.out, H4.out, H3.out]; rfl), rfl⟩
        · have H3 := Lib.hid h3
          clear h3
          go_wp2_with fail
          refine ⟨⟨j + 1, by go_num, by omega, ⟨?_⟩⟩, by simp [intOf]; omega⟩
          rw [← hr.out, H2.out, H3.out]
          simp
    · go_wp2_with fail
      go_ret
      have he := hr.out
      rw [List.drop_of_length_le (by simp; omega)] at he
      exact ⟨ret_bool (by rw [← he]; rfl), rfl⟩
end Go.Proofs.Ytcillbkedocooaa
