/- four.Parse, walked. -/
import Derived.Test.YtfcnfkedoihpoaaDoorFourP
import Derived.Test.YtfcnfkedoihpoaaDoorEnds
namespace Go.Proofs.YtfcnfkedoihpoaaDoor
open Go.RowKit Go.Proofs.YtfcnfkedoihpoaaDoorW.PrintWords Go.Proofs.YtfcnfkedoihpoaaDoorW.PrintMore

theorem ret_four {a b : Int} {c d : Bool} (h : a = b) (h' : c = d) : Ending.returned (.tuple #[.int .u32 a, .bool c]) = .returned (.tuple #[.int .u32 b, .bool d]) := by rw [h, h']
theorem cell_blk {w : World} {a : Addr} {v : Value} (h : w.cell? a = some v) : a.block < w.heap.size := by
  unfold World.cell? at h
  split at h
  · rename_i hh
    exact (Array.getElem?_eq_some_iff.1 hh).1
  · cases h
theorem four_none {l : List UInt8} {Q : List (List UInt8)} (hQ : Q = partsF (splitL (isAt ⟨#[46]⟩) l)) (h : fourP Q = none) : fourN l = 0 ∧ fourOk l = false := by
  have : fourL l = none := by rw [fourL, ← hQ, h]
  exact ⟨by rw [fourN, this]; rfl, by rw [fourOk, this]; rfl⟩
theorem four_some {l : List UInt8} {Q : List (List UInt8)} {x : Int} (hQ : Q = partsF (splitL (isAt ⟨#[46]⟩) l)) (h : fourP Q = some x) : fourN l = x ∧ fourOk l = true := by
  have : fourL l = some x := by rw [fourL, ← hQ, h]
  exact ⟨by rw [fourN, this]; rfl, by rw [fourOk, this]; rfl⟩

set_option maxHeartbeats 4000000 in
set_option maxRecDepth 100000 in
theorem Four_calls (s : ByteArray) (w : World) (hs : s.size ≤ 900000) :
    Calls Tryd.prog 17 #[.string s] w fun e w' => e = .returned (.tuple #[.int .u32 (fourN s.data.toList), .bool (fourOk s.data.toList)]) ∧ Below w.heap.size w w' := by
  go_enter Tryd.func17, Tryd.ntmps17
  go_wp2_with fail
  refine (Split_calls s _ _ (by omega)).mono ?_
  rintro e w1 ⟨v, rfl, hv, hb⟩
  obtain ⟨A, c, rfl, hcap, hC⟩ := Kd.R_reads hv
  have hpart := splitL_part (isAt ⟨#[46]⟩) s.data.toList
  have hne := splitL_ne (isAt ⟨#[46]⟩) s.data.toList
  have hln := splitL_size (isAt ⟨#[46]⟩) s.data.toList
  rw [show s.data.toList.length = s.size by simp] at hln hpart
  have HN : Aside0 (∀ Q, Q = partsF (splitL (isAt ⟨#[46]⟩) s.data.toList) → fourP Q = none → fourN s.data.toList = 0 ∧ fourOk s.data.toList = false) := ⟨fun Q h h' => four_none h h'⟩
  have HS : Aside0 (∀ Q x, Q = partsF (splitL (isAt ⟨#[46]⟩) s.data.toList) → fourP Q = some x → fourN s.data.toList = x ∧ fourOk s.data.toList = true) := ⟨fun Q x h h' => four_some h h'⟩
  generalize splitL (isAt ⟨#[46]⟩) s.data.toList = P at hv hcap hC hpart hne hln HN HS ⊢
  have hlen := strs_length P
  have hpos : 0 < (strs P).length := by
    rw [hlen]
    exact List.length_pos_iff.2 hne
  obtain ⟨ad, rfl⟩ := C_some hC hpos
  have hcell : ∀ j, j < P.length → w1.cell? (ad.add j) = some (.string ⟨(P.getD j []).toArray⟩) := fun j hj => by
    rw [C_str_at hC j (by omega), strs_get P j (by omega)]
  have hsize : ∀ j, (P.getD j []).length ≤ 900000 := fun j => by have := getD_len P s.size j hpart; omega
  have HB := Aside0.mk hb
  have HCell := Aside0.mk hcell
  have HSz := Aside0.mk hsize
  have hcap' : (strs P).length ≤ c := hcap
  obtain ⟨m, hm⟩ : ∃ m, P.length = m + 1 := ⟨P.length - 1, by have := List.length_pos_iff.2 hne; omega⟩
  have clast := hcell m (by omega)
  have hmb : m ≤ 900000 := by omega
  obtain ⟨q, hq⟩ : ∃ q : ByteArray, q = ⟨(P.getD m []).toArray⟩ := ⟨_, rfl⟩
  rw [← hq] at clast
  have hql : q.data.toList = P.getD m [] := by rw [hq]
  rw [hlen, hm] at hcap' ⊢
  have HPm := Lib.hid hm
  have hway : ∃ (n : Nat) (Q : List (List UInt8)), Q = partsF P ∧ Q.length = n ∧ 1 ≤ n ∧ ((1 ≤ m ∧ n = m ∧ q.toList.isEmpty = true) ∨ (1 ≤ m ∧ n = m + 1 ∧ q.toList.isEmpty = false) ∨ (m = 0 ∧ n = 1)) := by
    refine ⟨_, _, rfl, rfl, List.length_pos_iff.2 (partsF_ne P (by intro h; rw [h] at hm; simp at hm)), ?_⟩
    rw [toList_eq, hql]
    by_cases h1 : 1 ≤ m
    · by_cases h2 : P.getD m [] = []
      · left
        refine ⟨h1, ?_, by rw [h2]; rfl⟩
        rw [partsF, if_pos ⟨by omega, by rw [hm]; exact h2⟩, List.length_take]
        omega
      · right; left
        refine ⟨h1, ?_, by simpa using h2⟩
        rw [partsF, if_neg (by rw [hm]; exact fun h => h2 h.2), hm]
    · right; right
      refine ⟨by omega, ?_⟩
      rw [partsF, if_neg (by omega)]
      omega
  obtain ⟨n, Q, hQ, hQn, hn1, hway⟩ := hway
  have HQ : Aside0 (∀ j, j < n → w1.cell? (ad.add j) = some (.string ⟨(Q.getD j []).toArray⟩)) := ⟨fun j hj => by
    have := partsF_get P j (by rw [← hQ, hQn]; exact hj)
    rw [hQ, this.1]
    exact HCell.out j this.2⟩
  have HSQ : Aside0 (∀ j, j < n → (Q.getD j []).length ≤ 900000) := ⟨fun j hj => by
    have := partsF_get P j (by rw [← hQ, hQn]; exact hj)
    rw [hQ, this.1]
    exact HSz.out j⟩
  have HN' : Aside0 (fourP Q = none → fourN s.data.toList = 0 ∧ fourOk s.data.toList = false) := ⟨HN.out Q hQ⟩
  have HS' : Aside0 (∀ x, fourP Q = some x → fourN s.data.toList = x ∧ fourOk s.data.toList = true) := ⟨fun x => HS.out Q x hQ⟩
  have HQn := Lib.hid hQn
  have hbl := cell_blk (HCell.out 0 (by omega))
  have hblk : ad.block < w1.heap.size := by simpa [Addr.add] using hbl
  clear hv hC hb hpart hlen hpos hcell hsize hcap hne hq hql hQ hQn HN HS HCell HSz hm hbl
  rcases hway with ⟨h1, hnm, e0⟩ | ⟨h1, hnm, e0⟩ | ⟨hnm, h1⟩
  all_goals
    by_cases h4 : 4 < n
    · first
      | (exfalso; omega; done)
      | (have HR := Lib.hid (HN'.out (by rw [fourP, if_pos (by rw [HQn.out]; exact h4)]))
         go_wp2_with fail
         go_ret2
         exact ⟨ret_four HR.out.1.symm HR.out.2.symm, HB.out⟩)
    · have HF := Lib.hid (show fourP Q = sumF Q.length 0 0 Q by rw [fourP, if_neg (by rw [HQn.out]; exact h4)])
      have hql := HQn.out
      have hnm8 : (n = 1 ∧ m = 0) ∨ (n = 1 ∧ m = 1) ∨ (n = 2 ∧ m = 1) ∨ (n = 2 ∧ m = 2) ∨ (n = 3 ∧ m = 2) ∨ (n = 3 ∧ m = 3) ∨ (n = 4 ∧ m = 3) ∨ (n = 4 ∧ m = 4) := by omega
      rcases hnm8 with ⟨rfl, rfl⟩ | ⟨rfl, rfl⟩ | ⟨rfl, rfl⟩ | ⟨rfl, rfl⟩ | ⟨rfl, rfl⟩ | ⟨rfl, rfl⟩ | ⟨rfl, rfl⟩ | ⟨rfl, rfl⟩
      all_goals try (exfalso; omega)
      all_goals
        simp only [Addr.add, Nat.reduceEqDiff, ↓reduceIte] at clast
        go_wp2_with fail
        go_loopw [5, 35] (fun sm i wr => ∃ (j : Nat) (x : Int), i = .int .i64 j ∧ sm = .int .u64 x ∧ j ≤ Q.length ∧ 0 ≤ x ∧ x ≤ j * 4294967296 ∧ Aside0 (sumF Q.length j x (Q.drop j) = fourP Q) ∧ Aside0 (Below w1.heap.size w1 wr)) (fun _ i _ => Q.length - (intOf i).toNat)
        case atStart => exact ⟨0, 0, rfl, rfl, by omega, by omega, by omega, ⟨HF.out.symm⟩, ⟨Below.refl _ _⟩⟩
        case round =>
          obtain ⟨j, x, rfl, rfl, hj, hx0, hx1, hr, hbw⟩ := hrel
          by_cases hlt : j < Q.length
          · have hcj : wr.cell? (ad.add j) = some (.string ⟨(Q.getD j []).toArray⟩) := (hbw.out.cell (by unfold Addr.add; split <;> exact hblk)).trans (HQ.out j (by omega))
            have Hst0 := sumF_step Q.length j x Q hlt
            have HX0 := hr.out
            rw [hql] at Hst0 HX0
            have Hst := Lib.hid Hst0
            have HX := Lib.hid HX0
            clear Hst0 HX0
            have hysz := HSQ.out j (by omega)
            rw [← mk_size] at hysz
            have Hy := Lib.hid (show (ByteArray.mk (Q.getD j []).toArray).data.toList = Q.getD j [] by simp)
            generalize (ByteArray.mk (Q.getD j []).toArray) = y at hcj hysz Hy
            go_wp2_with fail
            refine (Parse_calls y (by omega) _).mono ?_
            rintro e w2 ⟨rfl, b2⟩
            have B2 := Aside0.mk (below_then hbw.out hbw.out.size b2)
            have hpv := parse_val y.data.toList
            clear b2 hcj
            obtain ⟨j1, HJ⟩ : ∃ j1, Aside0 (j1 = j + 1) := ⟨_, ⟨rfl⟩⟩
            have hj4 : j = 0 ∨ j = 1 ∨ j = 2 ∨ j = 3 := by omega
            rcases hj4 with rfl | rfl | rfl | rfl
            all_goals try (exfalso; omega)
            all_goals
              rcases hpv with ⟨hp, ho, hv⟩ | ⟨v, hp, ho, hv, hv0, hv1⟩
              · have HR := Lib.hid (HN'.out (by rw [← HX.out, Hst.out, ← Hy.out, hp]))
                rw [ho, hv]
                clear ho hv hp
                go_wp2_with fail
                go_ret2
                exact ⟨ret_four HR.out.1.symm HR.out.2.symm, below_then HB.out HB.out.size B2.out⟩
              · rw [ho, hv]
                have HY := Hst.out
                rw [← Hy.out, hp] at HY
                simp only [Nat.reduceAdd, Nat.reduceEqDiff, if_true, if_false, Nat.reduceSub, Int.reducePow] at HY
                have HZ := Lib.hid HY
                clear ho hv hp HY
                go_wp2_with fail
                · have HR := HN'.out (by rw [← HX.out, HZ.out, if_pos (by assumption)])
                  go_ret2
                  exact ⟨ret_four HR.1.symm HR.2.symm, below_then HB.out HB.out.size B2.out⟩
                · go_roundw
                  case rel =>
                    have hj1 := HJ.out
                    exact ⟨j1, _, by rw [hj1]; first | rfl | go_num, rfl, by omega, by omega, by omega, ⟨by rw [hql, hj1, ← HX.out, HZ.out, if_neg (by first | assumption | omega)]⟩, B2⟩
                  case measure => simp [intOf]; omega
          · have he := hr.out
            rw [List.drop_of_length_le (by omega), sumF] at he
            have HR := Lib.hid (HS'.out _ he.symm)
            clear he
            go_wp2_with fail
            go_ret2
            exact ⟨ret_four (by first | (rw [HR.out.1]; done) | (rw [HR.out.1]; rfl)) HR.out.2.symm, below_then HB.out HB.out.size hbw.out⟩
end Go.Proofs.YtfcnfkedoihpoaaDoor
