/- The document's Decimal; the law NumberReads. -/
import Derived.Test.YtfcnfkedoihpoaaDoorDecim
import Derived.Test.YtfcnfkedoihpoaaDoorAwN
namespace Go.Proofs.YtfcnfkedoihpoaaDoor
open Go.RowKit Go.Proofs.YtfcnfkedoihpoaaDoorW.PrintWords Go.Proofs.YtfcnfkedoihpoaaDoorW.PrintMore

theorem all_ten (l : List UInt8) : (intsOf l).all (okD 10) = (intsOf l).all isDig := by
  have : okD 10 = isDig := funext okD_ten
  rw [this]
theorem digits_none (l : List UInt8) (h : (intsOf l).all isDig = false) : plainD l = false := by
  rw [plainD, digitsL, h]; simp
theorem digits_yes (l : List UInt8) (h0 : 0 < l.length) (h : (intsOf l).all isDig = true) : digitsL l = true := by
  rw [digitsL, h]
  rcases l with _ | ⟨a, r⟩
  · simp at h0
  · rfl

set_option maxHeartbeats 2000000 in
theorem rDecimal_calls (s : ByteArray) (hs : s.size ≤ 1000000) (most : Int) (hm : most ≤ 9223372036854775807) (w : World) :
    Calls Tryd.prog 48 #[.string s, .int .i64 most] w fun e w' => e = .returned (.tuple #[.int .i64 (decN s.data.toList most), .bool (decOk s.data.toList most)]) ∧ w = w' := by
  by_cases hpos : 0 < s.size
  · have e0 := drop_byte s 0 hpos
    rw [List.drop_zero] at e0
    have hz : ¬ s.size = 0 := by omega
    cases hv : (intsOf s.data.toList).all isDig
    · have HN := Lib.hid (plain_none s.data.toList most (digits_none _ hv))
      have HV : Aside0 ((intsOf s.data.toList).all (okD 10) = false) := ⟨by rw [all_ten]; exact hv⟩
      clear hv e0
      go_enter Tryd.func48, Tryd.ntmps48
      go_wp2_with fail
      refine (rDigits_calls _ _ hs _).mono ?_
      rintro e w1 ⟨rfl, rfl⟩
      rw [HV.out]
      go_wp2_with fail
      go_ret2
      exact ⟨ret_dec HN.out.1.symm HN.out.2.symm, rfl⟩
    · have hd := digits_yes s.data.toList (by simpa using hpos) hv
      have HV : Aside0 ((intsOf s.data.toList).all (okD 10) = true) := ⟨by rw [all_ten]; exact hv⟩
      have HV0 := Lib.hid hv
      clear hv
      cases hp : plainD s.data.toList
      · have HN := Lib.hid (plain_none s.data.toList most hp)
        have h2 : 1 < s.size ∧ (s[0]).toNat = 48 := by
          rw [plainD, hd, Bool.true_and, Bool.not_eq_false', Bool.and_eq_true, decide_eq_true_eq, e0] at hp
          refine ⟨by have := hp.1; simp at this; omega, ?_⟩
          have := hp.2
          simp at this
          rw [this]
          rfl
        obtain ⟨h1, h48⟩ := h2
        have q1 : (((s[0]).toNat : Int) == 48) = true := by simp [h48]
        clear hd e0 hp h48
        go_enter Tryd.func48, Tryd.ntmps48
        go_wp2_with fail
        refine (rDigits_calls _ _ hs _).mono ?_
        rintro e w1 ⟨rfl, rfl⟩
        rw [HV.out]
        go_wp2_with fail
        go_ret2
        exact ⟨ret_dec HN.out.1.symm HN.out.2.symm, rfl⟩
      · have hone : s.size = 1 ∨ (1 < s.size ∧ (((s[0]).toNat : Int) == 48) = false) := by
          rcases Nat.lt_or_ge 1 s.size with h1 | h1
          · right
            refine ⟨h1, ?_⟩
            rw [plainD, hd, Bool.true_and, Bool.not_eq_true', e0] at hp
            rw [show decide (1 < (s[0] :: s.data.toList.drop (0 + 1)).length) = true by simp; omega, Bool.true_and] at hp
            simp at hp ⊢
            intro h
            exact hp (UInt8.toNat_inj.1 (by rw [show (48 : UInt8).toNat = 48 from rfl]; omega))
          · left; omega
        have HB := Lib.hid (plain_big s.data.toList most)
        have HU := Lib.hid (plain_some s.data.toList most hp)
        clear hd e0 hp
        rcases hone with h1 | ⟨h1, q1⟩
        all_goals
          go_enter Tryd.func48, Tryd.ntmps48
          go_wp2_with fail
          refine (rDigits_calls _ _ hs _).mono ?_
          rintro e w1 ⟨rfl, rfl⟩
          rw [HV.out]
          go_wp2_with fail
          go_loop [6, 7] (fun n i => ∃ (j : Nat) (m : Int), i = .int .i64 j ∧ n = .int .i64 m ∧ j ≤ s.size ∧ 0 ≤ m ∧ m ≤ 9223372036854775807 ∧ Aside0 (accD m (intsOf (s.data.toList.drop j)) = decV s.data.toList) ∧ Aside0 ((intsOf (s.data.toList.drop j)).all isDig = true)) (fun _ i => s.size - (intOf i).toNat)
          case atStart => exact ⟨0, 0, rfl, rfl, by omega, by omega, by omega, ⟨rfl⟩, ⟨HV0.out⟩⟩
          case round =>
            obtain ⟨j, m, rfl, rfl, hj, hm0, hm1, hr, ha⟩ := hrel
            by_cases hlt : j < s.size
            · have hb := (s[j]'hlt).toNat_lt
              have Hst := Lib.hid (show intsOf (s.data.toList.drop j) = ((s[j]'hlt).toNat : Int) :: intsOf (s.data.toList.drop (j + 1)) by rw [drop_byte s j hlt]; rfl)
              have hk := ha.out
              rw [Hst.out, List.all_cons, Bool.and_eq_true, isDig_iff] at hk
              have HA := Lib.hid hk.2
              have hv := hk.1
              clear hk
              have HN := Lib.hid (show accD (10 * m + (((s[j]'hlt).toNat : Int) - 48)) (intsOf (s.data.toList.drop (j + 1))) = decV s.data.toList by rw [← hr.out, Hst.out, accD])
              have HM := Lib.hid (accD_mono (intsOf (s.data.toList.drop (j + 1))) (10 * m + (((s[j]'hlt).toNat : Int) - 48)) (by omega) HA.out)
              have hq : Int.tdiv (9223372036854775807 - (((s[j]'hlt).toNat : Int) - 48)) 10 = if ((s[j]'hlt).toNat : Int) - 48 ≤ 7 then 922337203685477580 else 922337203685477579 := by
                rw [Int.tdiv_eq_ediv_of_nonneg (by omega)]
                split <;> omega
              by_cases h7 : ((s[j]'hlt).toNat : Int) - 48 ≤ 7
              · rw [if_pos h7] at hq
                by_cases hbig : 10 * m + (((s[j]'hlt).toNat : Int) - 48) ≤ 9223372036854775807
                · go_wp2_with fail
                  exact ⟨⟨j + 1, _, by go_num, rfl, by omega, by omega, by omega, ⟨HN.out⟩, ⟨HA.out⟩⟩, by simp [intOf]; omega⟩
                · go_wp2_with fail
                  go_ret2
                  have this := HB.out (by have := HM.out; rw [HN.out] at this; omega)
                  exact ⟨ret_dec this.1.symm this.2.symm, rfl⟩
              · rw [if_neg h7] at hq
                by_cases hbig : 10 * m + (((s[j]'hlt).toNat : Int) - 48) ≤ 9223372036854775807
                · go_wp2_with fail
                  exact ⟨⟨j + 1, _, by go_num, rfl, by omega, by omega, by omega, ⟨HN.out⟩, ⟨HA.out⟩⟩, by simp [intOf]; omega⟩
                · go_wp2_with fail
                  go_ret2
                  have this := HB.out (by have := HM.out; rw [HN.out] at this; omega)
                  exact ⟨ret_dec this.1.symm this.2.symm, rfl⟩
            · have he := hr.out
              rw [List.drop_of_length_le (by simp; omega)] at he
              have HE := Lib.hid (show m = decV s.data.toList from he)
              clear he
              by_cases hle : m ≤ most
              · have HN := Lib.hid (HU.out (by rw [← HE.out]; exact hle))
                go_wp2_with fail
                go_ret2
                exact ⟨ret_dec (by rw [HN.out.1, HE.out]) HN.out.2.symm, rfl⟩
              · have HN := Lib.hid (HB.out (by rw [← HE.out]; omega))
                go_wp2_with fail
                go_ret2
                exact ⟨ret_dec HN.out.1.symm HN.out.2.symm, rfl⟩
  · have hz : s.size = 0 := by omega
    have h0 : s.data.toList = [] := List.eq_nil_of_length_eq_zero (by simpa using hz)
    have HN := Lib.hid (plain_none s.data.toList most (by rw [h0]; rfl))
    clear h0 hpos
    go_enter Tryd.func48, Tryd.ntmps48
    go_wp2_with fail
    go_ret2
    exact ⟨ret_dec HN.out.1.symm HN.out.2.symm, rfl⟩
end Go.Proofs.YtfcnfkedoihpoaaDoor
