/- percent.Right, and the document's Three, Decode, Right. -/
import Derived.Test.YtfcnfkedoihpoaaDoorDec
namespace Go.Proofs.YtfcnfkedoihpoaaDoor
open Go.RowKit Go.Proofs.YtfcnfkedoihpoaaDoorW.PrintWords Go.Proofs.YtfcnfkedoihpoaaDoorW.PrintMore

/-- Do digits stand behind each %? -/
def rightL : List UInt8 → Bool
  | [] => true
  | c :: r => if (c == 37 && !threeL (c :: r)) = true then false else rightL r

theorem byte_eq_37 (c : UInt8) : (c == 37) = ((c.toNat : Int) == 37) := by
  rw [Bool.eq_iff_iff, beq_iff_eq, beq_iff_eq]
  constructor
  · intro h; rw [h]; rfl
  · intro h; exact UInt8.toNat_inj.1 (by have : c.toNat = 37 := by omega
                                         rw [this]; rfl)
theorem right_step (t : ByteArray) (j : Nat) (hj : j < t.size) :
    rightL (t.data.toList.drop j) = if (((t[j]'hj).toNat : Int) == 37 && !threeL (t.data.toList.drop j)) = true then false else rightL (t.data.toList.drop (j + 1)) := by
  rw [drop_byte t j hj, rightL, byte_eq_37]

set_option maxHeartbeats 1000000 in
theorem Right_calls (t : ByteArray) (hs : t.size ≤ 1000000) (w : World) :
    Calls Tryd.prog 14 #[.string t] w fun e w' => e = .returned (.bool (rightL t.data.toList)) ∧ Drawn0 w w' := by
  go_enter Tryd.func14, Tryd.ntmps14
  go_wp2
  go_loopw [8] (fun i wr => ∃ (j : Nat), i = .int .i64 j ∧ j ≤ t.size ∧ Aside0 (rightL (t.data.toList.drop j) = rightL t.data.toList) ∧ Aside0 (Drawn0 w wr)) (fun i _ => t.size - (intOf i).toNat)
  case atStart => exact ⟨0, rfl, by omega, ⟨rfl⟩, ⟨Drawn0.refl _⟩⟩
  case round =>
    obtain ⟨j, rfl, hj, hr, HB⟩ := hrel
    by_cases hlt : j < t.size
    · go_wp2_with fail
      refine (at_calls t j hlt hs _).mono ?_
      rintro e w1 ⟨x, rfl, _, hd⟩
      have HB1 : Aside0 (Drawn0 w w1) := by
        obtain ⟨n, rfl⟩ := hd.out
        exact ⟨HB.out.step n⟩
      have H2 := Lib.hid (right_step t j hlt)
      clear HB hd
      cases h3 : threeL (t.data.toList.drop j)
      · have H3 := Lib.hid h3
        clear h3
        cases h37 : (((t[j]'hlt).toNat : Int) == 37)
        · have H4 := Lib.hid h37
          go_wp2_with fail
          refine ⟨⟨j + 1, by go_num, by omega, ⟨?_⟩, HB1⟩, by simp [intOf]; omega⟩
          rw [← hr.out, H2.out, H4.out]
          rfl
        · have H4 := Lib.hid h37
          go_wp2_with fail
          go_ret
          exact ⟨ret_bool (by rw [← hr.out, H2.out, H4.out, H3.out]; rfl), HB1.out⟩
      · have H3 := Lib.hid h3
        clear h3
        cases h37 : (((t[j]'hlt).toNat : Int) == 37)
        all_goals
          go_wp2_with fail
          refine ⟨⟨j + 1, by go_num, by omega, ⟨?_⟩, HB1⟩, by simp [intOf]; omega⟩
          rw [← hr.out, H2.out, H3.out]
          simp
    · go_wp2_with fail
      go_ret
      have he := hr.out
      rw [List.drop_of_length_le (by simp; omega)] at he
      exact ⟨ret_bool (by rw [← he]; rfl), HB.out⟩
end Go.Proofs.YtfcnfkedoihpoaaDoor
