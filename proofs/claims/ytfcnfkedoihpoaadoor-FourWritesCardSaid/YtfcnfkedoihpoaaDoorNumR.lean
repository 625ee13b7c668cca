/- The document's numbers: Digits, value, Parse, Split, Ends. -/
import Derived.Test.YtfcnfkedoihpoaaDoorHas
import Derived.Test.YtfcnfkedoihpoaaDoorEndsP
namespace Go.Proofs.YtfcnfkedoihpoaaDoor
open Go.RowKit Go.Proofs.YtfcnfkedoihpoaaDoorW.PrintWords Go.Proofs.YtfcnfkedoihpoaaDoorW.PrintMore

theorem okD_iff (b r : Int) : okD b r = true ↔ 0 ≤ hexV r ∧ hexV r < b := by simp [okD]

set_option maxHeartbeats 1000000 in
theorem rDigits_calls (s : ByteArray) (b : Int) (hs : s.size ≤ 1000000) (w : World) :
    Calls Tryd.prog 72 #[.string s, .int .i64 b] w fun e w' => e = .returned (.bool ((intsOf s.data.toList).all (okD b))) ∧ w = w' := by
  go_enter Tryd.func72, Tryd.ntmps72
  go_wp2
  go_loop [5] (fun i => ∃ j : Nat, i = .int .i64 j ∧ j ≤ s.size ∧ Aside0 ((intsOf (s.data.toList.drop j)).all (okD b) = (intsOf s.data.toList).all (okD b))) (fun i => s.size - (intOf i).toNat)
  case atStart => exact ⟨0, rfl, by omega, ⟨rfl⟩⟩
  case round =>
    obtain ⟨j, rfl, hj, hr⟩ := hrel
    by_cases hlt : j < s.size
    · have hb := (s[j]'hlt).toNat_lt
      have Hst := Lib.hid (show (intsOf (s.data.toList.drop j)).all (okD b) = (okD b ((s[j]'hlt).toNat : Int) && (intsOf (s.data.toList.drop (j + 1))).all (okD b)) by
        rw [drop_byte s j hlt]; rfl)
      have hv := hexV_bd ((s[j]'hlt).toNat : Int)
      have HK := Lib.hid (okD_iff b ((s[j]'hlt).toNat : Int))
      go_wp2_with fail
      refine (rValue_byte _ _).mono ?_
      rintro e w1 ⟨rfl, rfl⟩
      generalize hv' : hexV ((s[j]'hlt).toNat : Int) = v at hv HK ⊢
      clear hv'
      by_cases hneg : v < 0
      · have HN : Aside0 (okD b ((s[j]'hlt).toNat : Int) = false) := ⟨by rw [Bool.eq_false_iff]; intro h; have := HK.out.1 h; omega⟩
        go_wp2_with fail
        go_ret
        exact ⟨ret_bool (by rw [← hr.out, Hst.out, HN.out]; rfl), rfl⟩
      · by_cases hge : b ≤ v
        · have HN : Aside0 (okD b ((s[j]'hlt).toNat : Int) = false) := ⟨by rw [Bool.eq_false_iff]; intro h; have := HK.out.1 h; omega⟩
          go_wp2_with fail
          go_ret
          exact ⟨ret_bool (by rw [← hr.out, Hst.out, HN.out]; rfl), rfl⟩
        · have HN : Aside0 (okD b ((s[j]'hlt).toNat : Int) = true) := ⟨HK.out.2 (by omega)⟩
          go_wp2_with fail
          refine ⟨⟨j + 1, by go_num, by omega, ⟨?_⟩⟩, by simp [intOf]; omega⟩
          rw [← hr.out, Hst.out, HN.out]; rfl
    · go_wp2
      go_ret
      have he := hr.out
      rw [List.drop_of_length_le (by simp; omega)] at he
      exact ⟨ret_bool (by rw [← he]; rfl), rfl⟩

set_option maxHeartbeats 1000000 in
theorem rvalue_calls (s : ByteArray) (b : Int) (hs : s.size ≤ 1000000) (hb0 : 2 ≤ b) (hb1 : b ≤ 16) (hd : Aside0 ((intsOf s.data.toList).all (okD b) = true)) (w : World) :
    Calls Tryd.prog 73 #[.string s, .int .i64 b] w fun e w' => (∃ m : Int, Aside0 (accN b 0 (intsOf s.data.toList) = some m) ∧ e = .returned (.int .u64 m)) ∧ w = w' := by
  go_enter Tryd.func73, Tryd.ntmps73
  go_wp2
  go_loop [5, 6] (fun n i => ∃ (j : Nat) (m : Int), i = .int .i64 j ∧ n = .int .i64 m ∧ j ≤ s.size ∧ 0 ≤ m ∧ m ≤ 1099511627776 ∧ Aside0 (accN b m (intsOf (s.data.toList.drop j)) = accN b 0 (intsOf s.data.toList)) ∧ Aside0 ((intsOf (s.data.toList.drop j)).all (okD b) = true)) (fun _ i => s.size - (intOf i).toNat)
  case atStart => exact ⟨0, 0, rfl, rfl, by omega, by omega, by omega, ⟨rfl⟩, hd⟩
  case round =>
    obtain ⟨j, m, rfl, rfl, hj, hm0, hm1, hr, ha⟩ := hrel
    by_cases hlt : j < s.size
    · have hb := (s[j]'hlt).toNat_lt
      have Hst := Lib.hid (show intsOf (s.data.toList.drop j) = ((s[j]'hlt).toNat : Int) :: intsOf (s.data.toList.drop (j + 1)) by rw [drop_byte s j hlt]; rfl)
      have hk := ha.out
      rw [Hst.out, List.all_cons, Bool.and_eq_true, okD_iff] at hk
      have HA := Lib.hid hk.2
      have hv := hk.1
      clear hk
      have HN := Lib.hid (show accN b (min (m * b + hexV ((s[j]'hlt).toNat : Int)) 1099511627776) (intsOf (s.data.toList.drop (j + 1))) = accN b 0 (intsOf s.data.toList) by rw [← hr.out, Hst.out, accN, if_neg (by omega)])
      go_wp2_with fail
      refine (rValue_byte _ _).mono ?_
      rintro e w1 ⟨rfl, rfl⟩
      generalize hexV ((s[j]'hlt).toNat : Int) = v at hv HN ⊢
      have hm2 : 0 ≤ m * b := Int.mul_nonneg hm0 (by omega)
      have hm3 : m * b ≤ 1099511627776 * 16 := Int.mul_le_mul hm1 hb1 (by omega) (by omega)
      have e1 : wrap64 (m * b) = m * b := IntWalk.wrap64_in _ (by omega)
      have e2 : wrap64 (m * b + v) = m * b + v := IntWalk.wrap64_in _ (by omega)
      have E3 := Lib.hid (show wrap64 (wrap64 (m * b) + v) = m * b + v by rw [e1, e2])
      clear e1 e2
      go_wp2_with fail
      · have hbig : 1099511627776 < wrap64 (wrap64 (m * b) + v) := by assumption
        rw [E3.out] at hbig
        rw [show min (m * b + v) 1099511627776 = 1099511627776 by omega] at HN
        exact ⟨⟨j + 1, 1099511627776, by go_num, rfl, by omega, by omega, by omega, ⟨HN.out⟩, ⟨HA.out⟩⟩, by simp [intOf]; omega⟩
      · have hbig : ¬ 1099511627776 < wrap64 (wrap64 (m * b) + v) := by first | assumption | (apply Int.not_lt.2; assumption)
        rw [E3.out] at hbig
        rw [show min (m * b + v) 1099511627776 = m * b + v by omega] at HN
        exact ⟨⟨j + 1, m * b + v, by go_num, by rw [E3.out], by omega, by omega, by omega, ⟨HN.out⟩, ⟨HA.out⟩⟩, by simp [intOf]; omega⟩
    · go_wp2
      go_ret
      have he := hr.out
      rw [List.drop_of_length_le (by simp; omega)] at he
      exact ⟨⟨m, ⟨by rw [← he]; rfl⟩, by first | rfl | go_num⟩, rfl⟩
end Go.Proofs.YtfcnfkedoihpoaaDoor
