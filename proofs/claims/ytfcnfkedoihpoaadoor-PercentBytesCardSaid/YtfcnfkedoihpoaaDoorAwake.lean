/- slices.Equal of code points; the examples of the chapters 1 and 2. -/
import Derived.Test.YtfcnfkedoihpoaaDoorScal
import Derived.Test.YtfcnfkedoihpoaaDoorEnc
import Derived.Test.YtfcnfkedoihpoaaDoorDec
namespace Go.Proofs.YtfcnfkedoihpoaaDoor
open Go.RowKit Go.Proofs.YtfcnfkedoihpoaaDoorW.PrintWords Go.Proofs.YtfcnfkedoihpoaaDoorW.PrintMore

theorem eq_of_take (l m : List Int) (h : l.length = m.length) (j : Nat) (hj : l.length ≤ j) (he : l.take j = m.take j) : l = m := by
  rw [List.take_of_length_le hj, List.take_of_length_le (by omega)] at he
  exact he

set_option maxHeartbeats 1000000 in
theorem EqualRune_calls (A B : Option Addr) (c d : Nat) (l m : List Int) (w : World) (hl : Kd.C (Kd.int .i32) w A l.length l) (hm : Kd.C (Kd.int .i32) w B m.length m) (hlen : l.length ≤ 1000000) (hlen2 : m.length ≤ 1000000) :
    Calls Tryd.prog 82 #[.slice A l.length c, .slice B m.length d] w fun e w' => e = .returned (.bool (decide (l = m))) ∧ Drawn0 w w' := by
  by_cases hne : l.length = m.length
  · have h1 : ((l.length : Int) != (m.length : Int)) = false := by simp [hne]
    have h2 : (l.length != m.length) = false := by simp [hne]
    have Hne := Lib.hid hne
    have HL := Lib.hid hl
    have HM := Lib.hid hm
    have hA : ∃ ad : Addr, 0 < l.length → A = some ad := by
      by_cases h : 0 < l.length
      · obtain ⟨ad, e⟩ := C_some hl h
        exact ⟨ad, fun _ => e⟩
      · exact ⟨⟨0, 0, none⟩, fun h' => absurd h' h⟩
    have hB : ∃ ad : Addr, 0 < l.length → B = some ad := by
      by_cases h : 0 < l.length
      · obtain ⟨ad, e⟩ := C_some hm (by omega)
        exact ⟨ad, fun _ => e⟩
      · exact ⟨⟨0, 0, none⟩, fun h' => absurd h' h⟩
    obtain ⟨ad, hA⟩ := hA
    obtain ⟨bd, hB⟩ := hB
    have HA := Lib.hid hA
    have HB := Lib.hid hB
    clear hl hm hA hB hne
    go_enter Tryd.func82, Tryd.ntmps82
    go_wp2
    go_loopw [13] (fun i wr => ∃ (j : Nat), i = .int .i64 j ∧ j ≤ l.length ∧ Aside0 (l.take j = m.take j) ∧ Aside0 (Drawn0 w wr)) (fun i _ => l.length - (intOf i).toNat)
    case atStart => exact ⟨0, rfl, by omega, ⟨rfl⟩, ⟨Drawn0.refl _⟩⟩
    case round =>
      obtain ⟨j, rfl, hj, hr, HD⟩ := hrel
      by_cases hlt : j < l.length
      · have hA := HA.out (by omega)
        have hB := HB.out (by omega)
        subst hA hB
        have hlt2 : j < m.length := by have := Hne.out; omega
        have c1 := C_int_at (Kd.C_below HL.out HD.out.below) j hlt
        have c2 := C_int_at (Kd.C_below HM.out HD.out.below) j hlt2
        have i1 : 0 ≤ (j : Int) := by omega
        have i2 : (j : Int) < (l.length : Int) := by omega
        have i3 : (j : Int) < (m.length : Int) := by omega
        cases hx : (l[j] != m[j])
        · have HX := Lib.hid hx
          go_wp2_with fail
          go_quiet (fail)
          go_wp2_with fail
          refine ⟨⟨j + 1, by go_num, by omega, ⟨?_⟩, ⟨HD.out.step _⟩⟩, by simp [intOf]; omega⟩
          have := HX.out
          rw [bne_eq_false_iff_eq] at this
          rw [List.take_succ_eq_append_getElem hlt, List.take_succ_eq_append_getElem hlt2, hr.out, this]
        · have HX := Lib.hid hx
          go_wp2_with fail
          go_quiet (fail)
          go_wp2_with fail
          go_ret
          refine ⟨ret_bool ?_, HD.out.step _⟩
          have := HX.out
          rw [bne_iff_ne] at this
          rw [eq_comm, decide_eq_false_iff_not]
          rintro rfl
          exact this rfl
      · go_wp2_with fail
        go_ret
        refine ⟨ret_bool ?_, HD.out⟩
        rw [eq_comm, decide_eq_true_eq]
        exact eq_of_take l m Hne.out j (by omega) hr.out
  · have h1 : ((l.length : Int) != (m.length : Int)) = true := by simp; omega
    have h2 : (l.length != m.length) = true := by simp; omega
    have Hne := Lib.hid hne
    clear hne
    go_enter Tryd.func82, Tryd.ntmps82
    go_wp2
    go_ret
    refine ⟨ret_bool ?_, Drawn0.refl _⟩
    rw [eq_comm, decide_eq_false_iff_not]
    rintro rfl
    exact Hne.out rfl

theorem rn_example : rn ⟨#[97, 255, 98]⟩ = [97, 65533, 98] := by decide +kernel
theorem enc_example : encOf 4 ⟨#[97, 32, 98]⟩ = ⟨#[97, 37, 50, 48, 98]⟩ := by decide +kernel
theorem dec_example : decL [37, 50, 53, 52, 49] = [37, 52, 49] := by decide +kernel

set_option maxHeartbeats 1000000 in
theorem awake1_calls (w : World) : Calls Tryd.prog 54 #[] w fun e w' => e = .returned (.bool true) ∧ Below w.heap.size w w' := by
  go_enter Tryd.func54, Tryd.ntmps54
  go_wp2_with fail
  refine (scalar_Scalars_calls _ _ (by decide)).mono ?_
  rintro e w1 ⟨v, rfl, hv, hb⟩
  rw [rn_example] at hv
  obtain ⟨A, c, rfl, _, hC⟩ := Kd.R_reads hv
  have HC := Lib.hid hC
  have HB := Aside0.mk hb
  clear hv hC hb
  go_wp2_with fail
  refine (EqualRune_calls A (some ⟨w1.heap.size, 0, none⟩) c 3 [97, 65533, 98] [97, 65533, 98] _ (Kd.C_below HC.out ((Below.refl _ _).alloc (Nat.le_refl _) _)) (C_new .i32 w1 [97, 65533, 98] _ (by decide)) (by decide) (by decide)).mono ?_
  rintro e w2 ⟨rfl, hd⟩
  go_wp2
  go_ret
  have hs := HB.out.size
  exact ⟨rfl, below_then (HB.out.alloc hs _) (by simp; omega) hd.below⟩

theorem Awake1_calls (w : World) : Calls Tryd.prog 29 #[] w fun e w' => e = .returned (.bool true) ∧ Below w.heap.size w w' := by
  go_enter Tryd.func29, Tryd.ntmps29
  go_wp2_with fail
  refine (awake1_calls _).mono ?_
  rintro e w1 ⟨rfl, hb⟩
  go_wp2
  go_ret
  exact ⟨rfl, hb⟩

set_option maxHeartbeats 1000000 in
theorem awake2_calls (w : World) : Calls Tryd.prog 9 #[] w fun e w' => e = .returned (.bool true) ∧ Below w.heap.size w w' := by
  go_enter Tryd.func9, Tryd.ntmps9
  go_wp2_with fail
  refine (Awake1_calls _).mono ?_
  rintro e w1 ⟨rfl, hb⟩
  go_wp2_with fail
  refine (Encode_calls 4 _ _ (by decide)).mono ?_
  rintro e w2 ⟨rfl, hb2⟩
  rw [enc_example]
  go_wp2_with fail
  refine (Decode_calls _ (by decide) _).mono ?_
  rintro e w3 ⟨rfl, hb3⟩
  rw [show (ByteArray.mk #[37, 50, 53, 52, 49]).data.toList = [37, 50, 53, 52, 49] from rfl, dec_example]
  go_wp2
  go_ret
  exact ⟨rfl, below_then (below_then hb hb.size hb2) (Nat.le_trans hb.size hb2.size) hb3⟩

theorem Awake2_calls (w : World) : Calls Tryd.prog 9 #[] w fun e w' => e = .returned (.bool true) ∧ Below w.heap.size w w' := awake2_calls w
end Go.Proofs.YtfcnfkedoihpoaaDoor
