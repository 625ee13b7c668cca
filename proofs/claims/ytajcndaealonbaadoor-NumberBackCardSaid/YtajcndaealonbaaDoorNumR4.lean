/- The document's Ends. -/
import Derived.Test.YtajcndaealonbaaDoorNumR3
import Derived.Test.YtajcndaealonbaaDoorDecP
namespace Go.Proofs.YtajcndaealonbaaDoor
open Go.RowKit Go.Proofs.YtajcndaealonbaaDoorW.PrintWords Go.Proofs.YtajcndaealonbaaDoorW.PrintMore

theorem digits_ten (l : List UInt8) (h : ¬ l = []) : digitsL l = (intsOf l).all (okD 10) := by
  rw [digitsL, show l.isEmpty = false by simpa using h]
  have : okD 10 = isDig := funext okD_ten
  rw [this]
  rfl

set_option maxHeartbeats 2000000 in
theorem rEnds_calls (s : ByteArray) (w : World) (hs : s.size ≤ 900000) :
    Calls Tryd.prog 26 #[.string s] w fun e w' => e = .returned (.bool (endsL s.data.toList)) ∧ Below w.heap.size w w' := by
  go_enter Tryd.func26, Tryd.ntmps26
  go_wp2_with fail
  refine (rSplit_calls s _ _ (by omega) (by decide)).mono ?_
  rintro e w1 ⟨v, rfl, hv, hb⟩
  obtain ⟨A, c, rfl, hcap, hC⟩ := Kd.R_reads hv
  have hpart := splitL_part (isAt ⟨#[46]⟩) s.data.toList
  have hne := splitL_ne (isAt ⟨#[46]⟩) s.data.toList
  have hln := splitL_size (isAt ⟨#[46]⟩) s.data.toList
  rw [show s.data.toList.length = s.size by simp] at hln hpart
  have EL : endsL s.data.toList = (parseOk (lastP (splitL (isAt ⟨#[46]⟩) s.data.toList)) || digitsL (lastP (splitL (isAt ⟨#[46]⟩) s.data.toList))) := rfl
  generalize splitL (isAt ⟨#[46]⟩) s.data.toList = P at hv hcap hC hpart hne hln EL ⊢
  have hlen := strs_length P
  have hpos : 0 < (strs P).length := by
    rw [hlen]
    exact List.length_pos_iff.2 hne
  obtain ⟨ad, rfl⟩ := C_some hC hpos
  obtain ⟨m, hm⟩ : ∃ m, P.length = m + 1 := ⟨P.length - 1, by omega⟩
  have hm' : (strs P).length = m + 1 := by omega
  have h1 := strs_get P m (by omega)
  have c1 := C_str_at hC m (by omega)
  have hlast := getD_len P s.size m hpart
  obtain ⟨q, hq⟩ : ∃ q : ByteArray, q = ⟨(P.getD m []).toArray⟩ := ⟨_, rfl⟩
  rw [h1, ← hq] at c1
  have hql : q.data.toList = P.getD m [] := by rw [hq]
  have hqs : q.size ≤ s.size := by rw [hq, mk_size]; exact hlast
  have hmb : m ≤ 1000000 := by omega
  have HB := Aside0.mk hb
  have HE := Lib.hid EL
  have HM := Lib.hid hm
  have HM' := Lib.hid hm'
  have HP := Lib.hid hpart
  have HC := Lib.hid hC
  have HQ := Lib.hid hql
  rw [hm']
  clear hv hC hb EL h1 hpart hne hpos hlen hm hm' hcap hln hq hql hlast
  by_cases he : q.data.toList = []
  · have e0 : q.toList.isEmpty = true := by rw [toList_eq, he]; rfl
    by_cases h2 : 1 ≤ m
    · have L := Lib.hid (show lastP P = P.getD (m - 1) [] by rw [lastP, HM.out, if_pos ⟨by rw [Nat.add_sub_cancel, ← HQ.out, he], by omega⟩]; rfl)
      have c2 := C_str_at HC.out (m - 1) (by have := HM'.out; omega)
      rw [strs_get P (m - 1) (by have := HM'.out; omega)] at c2
      have hprev := getD_len P s.size (m - 1) HP.out
      obtain ⟨y, hy⟩ : ∃ y : ByteArray, y = ⟨(P.getD (m - 1) []).toArray⟩ := ⟨_, rfl⟩
      rw [← hy] at c2
      have c3 := c2
      rw [show m - 1 = m + 1 - 2 by omega] at c3
      have hys : y.size ≤ s.size := by rw [hy, mk_size]; exact hprev
      have HY := Lib.hid (show y.data.toList = lastP P by rw [hy, L.out])
      clear he hy hprev L
      go_wp2_with fail
      refine (rParse_calls y (by omega) _).mono ?_
      rintro e w2 ⟨rfl, hd2⟩
      have hb2 := hd2.below
      cases hp : parseOk y.data.toList
      · have HQ := Lib.hid hp
        clear hp
        by_cases hx : y.data.toList = []
        · have ex : y.toList.isEmpty = true := by rw [toList_eq, hx]; rfl
          have HX := Lib.hid hx
          clear hx
          go_wp2_with fail
          go_ret
          exact ⟨ret_bool (by rw [HE.out, ← HY.out, HQ.out, HX.out]; rfl), below_then HB.out HB.out.size hb2⟩
        · have ex : y.toList.isEmpty = false := by rw [toList_eq]; simpa using hx
          have HX := Lib.hid hx
          clear hx
          go_wp2_with fail
          refine (rDigits_calls _ _ (by omega) _).mono ?_
          rintro e w3 ⟨rfl, rfl⟩
          go_wp2_with fail
          go_ret
          exact ⟨ret_bool (by rw [HE.out, ← HY.out, HQ.out, digits_ten _ HX.out]; rfl), below_then HB.out HB.out.size hb2⟩
      · have HQ := Lib.hid hp
        clear hp
        go_wp2_with fail
        go_ret
        exact ⟨ret_bool (by rw [HE.out, ← HY.out, HQ.out]; rfl), below_then HB.out HB.out.size hb2⟩
    · obtain rfl : m = 0 := by omega
      have HY := Lib.hid (show q.data.toList = lastP P by rw [lastP, HM.out, if_neg (fun h => by omega), HQ.out])
      replace c1 : w1.cell? ad = some (.string q) := c1
      have HX := Lib.hid he
      clear he
      go_wp2_with fail
      refine (rParse_calls q (by omega) _).mono ?_
      rintro e w2 ⟨rfl, hd2⟩
      have hb2 := hd2.below
      cases hp : parseOk q.data.toList
      · have HQ := Lib.hid hp
        clear hp
        go_wp2_with fail
        go_ret
        exact ⟨ret_bool (by rw [HE.out, ← HY.out, HQ.out, HX.out]; rfl), below_then HB.out HB.out.size hb2⟩
      · have HQ := Lib.hid hp
        clear hp
        go_wp2_with fail
        go_ret
        exact ⟨ret_bool (by rw [HE.out, ← HY.out, HQ.out]; rfl), below_then HB.out HB.out.size hb2⟩
  · have HY := Lib.hid (show q.data.toList = lastP P by rw [lastP, HM.out, if_neg (fun h => he (by rw [HQ.out]; exact h.1)), HQ.out]; rfl)
    have e0 : q.toList.isEmpty = false := by rw [toList_eq]; simpa using he
    have HX := Lib.hid he
    clear he
    go_wp2_with fail
    refine (rParse_calls q (by omega) _).mono ?_
    rintro e w2 ⟨rfl, hd2⟩
    have hb2 := hd2.below
    cases hp : parseOk q.data.toList
    · have HQ := Lib.hid hp
      clear hp
      go_wp2_with fail
      refine (rDigits_calls _ _ (by omega) _).mono ?_
      rintro e w3 ⟨rfl, rfl⟩
      go_wp2_with fail
      go_ret
      exact ⟨ret_bool (by rw [HE.out, ← HY.out, HQ.out, digits_ten _ HX.out]; rfl), below_then HB.out HB.out.size hb2⟩
    · have HQ := Lib.hid hp
      clear hp
      go_wp2_with fail
      go_ret
      exact ⟨ret_bool (by rw [HE.out, ← HY.out, HQ.out]; rfl), below_then HB.out HB.out.size hb2⟩
end Go.Proofs.YtajcndaealonbaaDoor
