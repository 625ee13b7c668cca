/- number.Ends, and the chapter's example. -/
import Derived.Test.YtfcnfkedoihpoaaDoorSplit
namespace Go.Proofs.YtfcnfkedoihpoaaDoor
open Go.RowKit Go.Proofs.YtfcnfkedoihpoaaDoorW.PrintWords Go.Proofs.YtfcnfkedoihpoaaDoorW.PrintMore

theorem C_str_at {w : World} {ad : Addr} {n : Nat} {xs : List ByteArray} (h : Kd.C Kd.string w (some ad) n xs) (j : Nat) (hlt : j < xs.length) : w.cell? (ad.add j) = some (.string (xs[j]'hlt)) := by
  obtain ⟨hl, _, hc⟩ := h
  obtain ⟨ad', e, hc⟩ := hc (by omega)
  obtain rfl := Option.some.inj e
  obtain ⟨c, hc1, hc2, hc3⟩ := hc j (xs[j]'hlt) (List.getElem?_eq_getElem hlt)
  obtain rfl : c = [.string (xs[j]'hlt)] := hc2
  have := hc3 0 (.string (xs[j]'hlt)) rfl
  have hsz : (Kd.string).sz = 1 := rfl
  rw [hsz] at this
  rw [show j * 1 + 0 = j by omega] at this
  exact this

theorem mk_size (l : List UInt8) : (ByteArray.mk l.toArray).size = l.length := by
  show l.toArray.size = _
  simp
/-- A name's last part; where that is empty, and another stands ahead, that one. -/
def lastP (P : List (List UInt8)) : List UInt8 := if P.getD (P.length - 1) [] = [] ∧ 1 < P.length then P.getD (P.length - 2) [] else P.getD (P.length - 1) []
/-- Does a name end in a number? -/
def endsL (l : List UInt8) : Bool := parseOk (lastP (splitL (isAt ⟨#[46]⟩) l)) || digitsL (lastP (splitL (isAt ⟨#[46]⟩) l))

theorem strs_get (P : List (List UInt8)) (j : Nat) (h : j < (strs P).length) : (strs P)[j]'h = ⟨(P.getD j []).toArray⟩ := by
  have h' : j < P.length := by rw [strs_length] at h; exact h
  simp only [strs, List.getElem_map]
  rw [List.getD_eq_getElem?_getD, List.getElem?_eq_getElem h']
  rfl
theorem splitL_size (p : UInt8 → Bool) : ∀ l : List UInt8, (splitL p l).length ≤ l.length + 1
  | [] => by simp [splitL]
  | c :: r => by
    have ih := splitL_size p r
    unfold splitL
    split
    · simp; omega
    · split
      · simp
      · rename_i h t hs
        rw [hs] at ih
        simp at ih ⊢
        omega
theorem splitL_part (p : UInt8 → Bool) : ∀ (l : List UInt8), ∀ x ∈ splitL p l, x.length ≤ l.length
  | [], x, h => by simp [splitL] at h; simp [h]
  | c :: r, x, h => by
    unfold splitL at h
    split at h
    · rcases List.mem_cons.1 h with rfl | h
      · simp
      · have := splitL_part p r x h
        simp; omega
    · split at h
      · rename_i hs
        exact absurd hs (splitL_ne p r)
      · rename_i a t hs
        rcases List.mem_cons.1 h with rfl | h
        · have := splitL_part p r a (by rw [hs]; simp)
          simp; omega
        · have := splitL_part p r x (by rw [hs]; simp [h])
          simp; omega
theorem getD_len (P : List (List UInt8)) (n j : Nat) (h : ∀ x ∈ P, x.length ≤ n) : (P.getD j []).length ≤ n := by
  rw [List.getD_eq_getElem?_getD]
  rcases hj : P[j]? with _ | x
  · simp
  · exact h x (List.mem_of_getElem? hj)

set_option maxHeartbeats 2000000 in
theorem Ends_calls (s : ByteArray) (w : World) (hs : s.size ≤ 900000) :
    Calls Tryd.prog 91 #[.string s] w fun e w' => e = .returned (.bool (endsL s.data.toList)) ∧ Below w.heap.size w w' := by
  go_enter Tryd.func91, Tryd.ntmps91
  go_wp2_with fail
  refine (Split_calls s _ _ (by omega)).mono ?_
  rintro e w1 ⟨v, rfl, hv, hb⟩
  obtain ⟨A, c, rfl, hcap, hC⟩ := Kd.R_reads hv
  have hpart := splitL_part (isAt ⟨#[46]⟩) s.data.toList
  have hne := splitL_ne (isAt ⟨#[46]⟩) s.data.toList
  have hln := splitL_size (isAt ⟨#[46]⟩) s.data.toList
  rw [show s.data.toList.length = s.size by simp] at hln hpart
  have EL : endsL s.data.toList = (parseOk (lastP (splitL (isAt ⟨#[46]⟩) s.data.toList)) || digitsL (lastP (splitL (isAt ⟨#[46]⟩) s.data.toList))) := rfl
  generalize splitL (isAt ⟨#[46]⟩) s.data.toList = P at hv hcap hC hpart hne hln EL ⊢
  have hlen := strs_length P
  have hpos : 0 < (strs P).length := by
    rw [hlen]
    exact List.length_pos_iff.2 hne
  obtain ⟨ad, rfl⟩ := C_some hC hpos
  obtain ⟨m, hm⟩ : ∃ m, P.length = m + 1 := ⟨P.length - 1, by omega⟩
  have hm' : (strs P).length = m + 1 := by omega
  have h1 := strs_get P m (by omega)
  have c1 := C_str_at hC m (by omega)
  have hlast := getD_len P s.size m hpart
  obtain ⟨q, hq⟩ : ∃ q : ByteArray, q = ⟨(P.getD m []).toArray⟩ := ⟨_, rfl⟩
  rw [h1, ← hq] at c1
  have hql : q.data.toList = P.getD m [] := by rw [hq]
  have hqs : q.size ≤ s.size := by rw [hq, mk_size]; exact hlast
  have hmb : m ≤ 1000000 := by omega
  have HB := Aside0.mk hb
  have HE := Lib.hid EL
  have HM := Lib.hid hm
  have HM' := Lib.hid hm'
  have HP := Lib.hid hpart
  have HC := Lib.hid hC
  have HQ := Lib.hid hql
  rw [hm']
  clear hv hC hb EL h1 hpart hne hpos hlen hm hm' hcap hln hq hql hlast
  by_cases he : q.data.toList = []
  · have e0 : q.toList.isEmpty = true := by rw [toList_eq, he]; rfl
    by_cases h2 : 1 ≤ m
    · have L := Lib.hid (show lastP P = P.getD (m - 1) [] by rw [lastP, HM.out, if_pos ⟨by rw [Nat.add_sub_cancel, ← HQ.out, he], by omega⟩]; rfl)
      have c2 := C_str_at HC.out (m - 1) (by have := HM'.out; omega)
      rw [strs_get P (m - 1) (by have := HM'.out; omega)] at c2
      have hprev := getD_len P s.size (m - 1) HP.out
      obtain ⟨y, hy⟩ : ∃ y : ByteArray, y = ⟨(P.getD (m - 1) []).toArray⟩ := ⟨_, rfl⟩
      rw [← hy] at c2
      have c3 := c2
      rw [show m - 1 = m + 1 - 2 by omega] at c3
      have hys : y.size ≤ s.size := by rw [hy, mk_size]; exact hprev
      have HY := Lib.hid (show y.data.toList = lastP P by rw [hy, L.out])
      clear he hy hprev L
      go_wp2_with fail
      refine (Parse_calls y (by omega) _).mono ?_
      rintro e w2 ⟨rfl, hb2⟩
      cases hp : parseOk y.data.toList
      · have HQ := Lib.hid hp
        clear hp
        go_wp2_with fail
        refine (digits_calls _ _).mono ?_
        rintro e w3 ⟨rfl, hb3⟩
        go_wp2_with fail
        go_ret
        have B2 := below_then HB.out HB.out.size hb2
        exact ⟨ret_bool (by rw [HE.out, ← HY.out, HQ.out]; simp), below_then B2 B2.size hb3⟩
      · have HQ := Lib.hid hp
        clear hp
        go_wp2_with fail
        go_ret
        exact ⟨ret_bool (by rw [HE.out, ← HY.out, HQ.out]; rfl), below_then HB.out HB.out.size hb2⟩
    · obtain rfl : m = 0 := by omega
      have HY := Lib.hid (show q.data.toList = lastP P by rw [lastP, HM.out, if_neg (fun h => by omega), HQ.out])
      replace c1 : w1.cell? ad = some (.string q) := c1
      clear he
      go_wp2_with fail
      refine (Parse_calls q (by omega) _).mono ?_
      rintro e w2 ⟨rfl, hb2⟩
      cases hp : parseOk q.data.toList
      · have HQ := Lib.hid hp
        clear hp
        go_wp2_with fail
        refine (digits_calls _ _).mono ?_
        rintro e w3 ⟨rfl, hb3⟩
        go_wp2_with fail
        go_ret
        have B2 := below_then HB.out HB.out.size hb2
        exact ⟨ret_bool (by rw [HE.out, ← HY.out, HQ.out]; simp), below_then B2 B2.size hb3⟩
      · have HQ := Lib.hid hp
        clear hp
        go_wp2_with fail
        go_ret
        exact ⟨ret_bool (by rw [HE.out, ← HY.out, HQ.out]; rfl), below_then HB.out HB.out.size hb2⟩
  · have HY := Lib.hid (show q.data.toList = lastP P by rw [lastP, HM.out, if_neg (fun h => he (by rw [HQ.out]; exact h.1)), HQ.out]; rfl)
    have e0 : q.toList.isEmpty = false := by rw [toList_eq]; simpa using he
    clear he
    go_wp2_with fail
    refine (Parse_calls q (by omega) _).mono ?_
    rintro e w2 ⟨rfl, hb2⟩
    cases hp : parseOk q.data.toList
    · have HQ := Lib.hid hp
      clear hp
      go_wp2_with fail
      refine (digits_calls _ _).mono ?_
      rintro e w3 ⟨rfl, hb3⟩
      go_wp2_with fail
      go_ret
      have B2 := below_then HB.out HB.out.size hb2
      exact ⟨ret_bool (by rw [HE.out, ← HY.out, HQ.out]; simp), below_then B2 B2.size hb3⟩
    · have HQ := Lib.hid hp
      clear hp
      go_wp2_with fail
      go_ret
      exact ⟨ret_bool (by rw [HE.out, ← HY.out, HQ.out]; rfl), below_then HB.out HB.out.size hb2⟩
end Go.Proofs.YtfcnfkedoihpoaaDoor
