/- four.Strict and the document's Strict, walked. -/
import Derived.Test.YtfcnfkedoihpoaaDoorFour1
import Derived.Test.YtfcnfkedoihpoaaDoorFourQ
import Derived.Test.YtfcnfkedoihpoaaDoorOr
import Derived.Test.YtfcnfkedoihpoaaDoorRDecim
namespace Go.Proofs.YtfcnfkedoihpoaaDoor
open Go.RowKit Go.Proofs.YtfcnfkedoihpoaaDoorW.PrintWords Go.Proofs.YtfcnfkedoihpoaaDoorW.PrintMore

theorem strict_none (l : List UInt8) (h : strictP (splitL (isAt ⟨#[46]⟩) l) = none) : strictN l = 0 ∧ strictOk l = false := by
  have : strictL l = none := h
  exact ⟨by rw [strictN, this]; rfl, by rw [strictOk, this]; rfl⟩
theorem strict_some (l : List UInt8) (x : Int) (h : strictP (splitL (isAt ⟨#[46]⟩) l) = some x) : strictN l = x ∧ strictOk l = true := by
  have : strictL l = some x := h
  exact ⟨by rw [strictN, this]; rfl, by rw [strictOk, this]; rfl⟩
theorem sumS_step (j : Nat) (x : Int) (P : List (List UInt8)) (h : j < P.length) : sumS x (P.drop j) = if decOk (P.getD j []) 255 = true then sumS (x * 256 + decN (P.getD j []) 255) (P.drop (j + 1)) else none := by
  rw [drop_getD P j h, sumS]
theorem dec_bd (l : List UInt8) (h : decOk l 255 = true) : 0 ≤ decN l 255 ∧ decN l 255 ≤ 255 := by
  obtain ⟨u, h1, h2, _⟩ := dec_inv l h
  omega

set_option maxHeartbeats 4000000 in
set_option maxRecDepth 100000 in
theorem Strict_calls (s : ByteArray) (w : World) (hs : s.size ≤ 900000) (hE : Aside0 (Errs w)) :
    Calls Tryd.prog 19 #[.string s] w fun e w' => e = .returned (.tuple #[.int .u32 (strictN s.data.toList), .bool (strictOk s.data.toList)]) ∧ Below w.heap.size w w' := by
  go_enter Tryd.func19, Tryd.ntmps19
  go_wp2_with fail
  refine (Split_calls s _ _ (by omega)).mono ?_
  rintro e w1 ⟨v, rfl, hv, hb⟩
  obtain ⟨A, c, rfl, hcap, hC⟩ := Kd.R_reads hv
  have hpart := splitL_part (isAt ⟨#[46]⟩) s.data.toList
  have hne := splitL_ne (isAt ⟨#[46]⟩) s.data.toList
  have hln := splitL_size (isAt ⟨#[46]⟩) s.data.toList
  rw [show s.data.toList.length = s.size by simp] at hln hpart
  have HN : Aside0 (strictP (splitL (isAt ⟨#[46]⟩) s.data.toList) = none → strictN s.data.toList = 0 ∧ strictOk s.data.toList = false) := ⟨strict_none s.data.toList⟩
  have HS : Aside0 (∀ x, strictP (splitL (isAt ⟨#[46]⟩) s.data.toList) = some x → strictN s.data.toList = x ∧ strictOk s.data.toList = true) := ⟨strict_some s.data.toList⟩
  generalize splitL (isAt ⟨#[46]⟩) s.data.toList = P at hv hcap hC hpart hne hln HN HS ⊢
  have hlen := strs_length P
  have hpos : 0 < (strs P).length := by
    rw [hlen]
    exact List.length_pos_iff.2 hne
  obtain ⟨ad, rfl⟩ := C_some hC hpos
  have hcell : ∀ j, j < P.length → w1.cell? (ad.add j) = some (.string ⟨(P.getD j []).toArray⟩) := fun j hj => by
    rw [C_str_at hC j (by omega), strs_get P j (by omega)]
  have hsize : ∀ j, (P.getD j []).length ≤ 900000 := fun j => by have := getD_len P s.size j hpart; omega
  have HB := Aside0.mk hb
  have HCell := Aside0.mk hcell
  have HSz := Aside0.mk hsize
  have hcap' : (strs P).length ≤ c := hcap
  rw [hlen] at hcap' ⊢
  have hbl := cell_blk (HCell.out 0 (by omega))
  have hblk : ad.block < w1.heap.size := by simpa [Addr.add] using hbl
  clear hv hC hb hpart hlen hpos hcell hsize hcap hne hbl
  by_cases h4 : P.length = 4
  · have HF := Lib.hid (show strictP P = sumS 0 P by rw [strictP, if_pos h4])
    have H4 := Lib.hid h4
    rw [h4] at hcap' hln ⊢
    clear h4
    go_wp2_with fail
    go_loopw [5, 17] (fun aa i wr => ∃ (j : Nat) (x : Int), i = .int .i64 j ∧ aa = .int .u32 x ∧ j ≤ 4 ∧ 0 ≤ x ∧ Aside0 (x < (256 : Int) ^ j) ∧ Aside0 (sumS x (P.drop j) = strictP P) ∧ Aside0 (Below w1.heap.size w1 wr)) (fun _ i _ => 4 - (intOf i).toNat)
    case atStart => exact ⟨0, 0, rfl, rfl, by omega, by omega, ⟨by decide⟩, ⟨HF.out.symm⟩, ⟨Below.refl _ _⟩⟩
    case round =>
      obtain ⟨j, x, rfl, rfl, hj, hx0, hx1, hr, hbw⟩ := hrel
      by_cases hlt : j < 4
      · have hcj : wr.cell? (ad.add j) = some (.string ⟨(P.getD j []).toArray⟩) := (hbw.out.cell (by unfold Addr.add; split <;> exact hblk)).trans (HCell.out j (by rw [H4.out]; exact hlt))
        have Hst := Lib.hid (sumS_step j x P (by rw [H4.out]; exact hlt))
        have hysz := HSz.out j
        rw [← mk_size] at hysz
        have Hy := Lib.hid (show (ByteArray.mk (P.getD j []).toArray).data.toList = P.getD j [] by simp)
        generalize (ByteArray.mk (P.getD j []).toArray) = y at hcj hysz Hy
        go_wp2_with fail
        refine (Decimal_calls y (by omega) 255 (by omega) _ ⟨hE.out.stays (below_then HB.out HB.out.size hbw.out)⟩).mono ?_
        rintro e w2 ⟨rfl, b2⟩
        have B2 := Aside0.mk (below_then hbw.out hbw.out.size b2)
        clear b2 hcj
        have hxv := hx1.out
        obtain ⟨j1, HJ⟩ : ∃ j1, Aside0 (j1 = j + 1) := ⟨_, ⟨rfl⟩⟩
        cases hp : decOk y.data.toList 255
        · have HR := Lib.hid (HN.out (by rw [← hr.out, Hst.out, ← Hy.out, hp]; rfl))
          clear hxv hp
          go_wp2_with fail
          go_ret2
          exact ⟨ret_four HR.out.1.symm HR.out.2.symm, below_then HB.out HB.out.size B2.out⟩
        · have hv := dec_bd y.data.toList hp
          have HZ := Lib.hid (show sumS x (P.drop j) = sumS (x * 256 + decN y.data.toList 255) (P.drop (j + 1)) by rw [Hst.out, ← Hy.out, hp]; rfl)
          generalize decN y.data.toList 255 = v at hv HZ ⊢
          clear hp
          have hj4 : j = 0 ∨ j = 1 ∨ j = 2 ∨ j = 3 := by omega
          rcases hj4 with rfl | rfl | rfl | rfl
          all_goals
            simp only [Int.reducePow] at hxv
            have hnext : x * 256 + v < (256 : Int) ^ j1 := by
              rw [HJ.out]
              simp only [Nat.reduceAdd, Int.reducePow]
              omega
            have HX := Lib.hid hnext
            clear hnext
            have hor := or_u32 8 x v (by omega) (by omega) (by simp only [Int.reducePow]; omega) (by simp only [Int.reducePow]; omega) (by omega)
            simp only [Int.reducePow] at hor
            go_wp2_with fail
            go_roundw
            case rel =>
              have hj1 := HJ.out
              exact ⟨j1, _, by rw [hj1]; first | rfl | go_num, rfl, by omega, by omega, ⟨HX.out⟩, ⟨by rw [hj1, ← hr.out, HZ.out]⟩, B2⟩
            case measure => simp [intOf]
      · obtain rfl : j = 4 := by omega
        have he := hr.out
        rw [List.drop_of_length_le (by rw [H4.out]; omega), sumS] at he
        have HR := Lib.hid (HS.out _ he.symm)
        clear he
        go_wp2_with fail
        go_ret2
        exact ⟨ret_four (by first | (rw [HR.out.1]; done) | (rw [HR.out.1]; rfl)) HR.out.2.symm, below_then HB.out HB.out.size hbw.out⟩
  · have HR := Lib.hid (HN.out (by rw [strictP, if_neg h4]))
    go_wp2_with fail
    go_ret2
    exact ⟨ret_four HR.out.1.symm HR.out.2.symm, HB.out⟩

set_option maxHeartbeats 4000000 in
set_option maxRecDepth 100000 in
theorem rStrict_calls (s : ByteArray) (w : World) (hs : s.size ≤ 900000) :
    Calls Tryd.prog 20 #[.string s] w fun e w' => e = .returned (.tuple #[.int .u32 (strictN s.data.toList), .bool (strictOk s.data.toList)]) ∧ Below w.heap.size w w' := by
  go_enter Tryd.func20, Tryd.ntmps20
  go_wp2_with fail
  refine (rSplit_calls s _ _ (by omega) (by decide)).mono ?_
  rintro e w1 ⟨v, rfl, hv, hb⟩
  obtain ⟨A, c, rfl, hcap, hC⟩ := Kd.R_reads hv
  have hpart := splitL_part (isAt ⟨#[46]⟩) s.data.toList
  have hne := splitL_ne (isAt ⟨#[46]⟩) s.data.toList
  have hln := splitL_size (isAt ⟨#[46]⟩) s.data.toList
  rw [show s.data.toList.length = s.size by simp] at hln hpart
  have HN : Aside0 (strictP (splitL (isAt ⟨#[46]⟩) s.data.toList) = none → strictN s.data.toList = 0 ∧ strictOk s.data.toList = false) := ⟨strict_none s.data.toList⟩
  have HS : Aside0 (∀ x, strictP (splitL (isAt ⟨#[46]⟩) s.data.toList) = some x → strictN s.data.toList = x ∧ strictOk s.data.toList = true) := ⟨strict_some s.data.toList⟩
  generalize splitL (isAt ⟨#[46]⟩) s.data.toList = P at hv hcap hC hpart hne hln HN HS ⊢
  have hlen := strs_length P
  have hpos : 0 < (strs P).length := by
    rw [hlen]
    exact List.length_pos_iff.2 hne
  obtain ⟨ad, rfl⟩ := C_some hC hpos
  have hcell : ∀ j, j < P.length → w1.cell? (ad.add j) = some (.string ⟨(P.getD j []).toArray⟩) := fun j hj => by
    rw [C_str_at hC j (by omega), strs_get P j (by omega)]
  have hsize : ∀ j, (P.getD j []).length ≤ 900000 := fun j => by have := getD_len P s.size j hpart; omega
  have HB := Aside0.mk hb
  have HCell := Aside0.mk hcell
  have HSz := Aside0.mk hsize
  have hcap' : (strs P).length ≤ c := hcap
  rw [hlen] at hcap' ⊢
  have hbl := cell_blk (HCell.out 0 (by omega))
  have hblk : ad.block < w1.heap.size := by simpa [Addr.add] using hbl
  clear hv hC hb hpart hlen hpos hcell hsize hcap hne hbl
  by_cases h4 : P.length = 4
  · have HF := Lib.hid (show strictP P = sumS 0 P by rw [strictP, if_pos h4])
    have H4 := Lib.hid h4
    rw [h4] at hcap' hln ⊢
    clear h4
    go_wp2_with fail
    go_loopw [5, 6] (fun aa i wr => ∃ (j : Nat) (x : Int), i = .int .i64 j ∧ aa = .int .u32 x ∧ j ≤ 4 ∧ 0 ≤ x ∧ Aside0 (x < (256 : Int) ^ j) ∧ Aside0 (sumS x (P.drop j) = strictP P) ∧ Aside0 (Below w1.heap.size w1 wr)) (fun _ i _ => 4 - (intOf i).toNat)
    case atStart => exact ⟨0, 0, rfl, rfl, by omega, by omega, ⟨by decide⟩, ⟨HF.out.symm⟩, ⟨Below.refl _ _⟩⟩
    case round =>
      obtain ⟨j, x, rfl, rfl, hj, hx0, hx1, hr, hbw⟩ := hrel
      by_cases hlt : j < 4
      · have hcj : wr.cell? (ad.add j) = some (.string ⟨(P.getD j []).toArray⟩) := (hbw.out.cell (by unfold Addr.add; split <;> exact hblk)).trans (HCell.out j (by rw [H4.out]; exact hlt))
        have Hst := Lib.hid (sumS_step j x P (by rw [H4.out]; exact hlt))
        have hysz := HSz.out j
        rw [← mk_size] at hysz
        have Hy := Lib.hid (show (ByteArray.mk (P.getD j []).toArray).data.toList = P.getD j [] by simp)
        generalize (ByteArray.mk (P.getD j []).toArray) = y at hcj hysz Hy
        go_wp2_with fail
        refine (rDecimal_calls y (by omega) 255 (by omega) _).mono ?_
        rintro e w2 ⟨rfl, b2⟩
        have B2 := Aside0.mk (b2 ▸ hbw.out)
        clear b2 hcj
        have hxv := hx1.out
        obtain ⟨j1, HJ⟩ : ∃ j1, Aside0 (j1 = j + 1) := ⟨_, ⟨rfl⟩⟩
        cases hp : decOk y.data.toList 255
        · have HR := Lib.hid (HN.out (by rw [← hr.out, Hst.out, ← Hy.out, hp]; rfl))
          clear hxv hp
          go_wp2_with fail
          go_ret2
          exact ⟨ret_four HR.out.1.symm HR.out.2.symm, below_then HB.out HB.out.size B2.out⟩
        · have hv := dec_bd y.data.toList hp
          have HZ := Lib.hid (show sumS x (P.drop j) = sumS (x * 256 + decN y.data.toList 255) (P.drop (j + 1)) by rw [Hst.out, ← Hy.out, hp]; rfl)
          generalize decN y.data.toList 255 = v at hv HZ ⊢
          clear hp
          have hj4 : j = 0 ∨ j = 1 ∨ j = 2 ∨ j = 3 := by omega
          rcases hj4 with rfl | rfl | rfl | rfl
          all_goals
            simp only [Int.reducePow] at hxv
            have hnext : x * 256 + v < (256 : Int) ^ j1 := by
              rw [HJ.out]
              simp only [Nat.reduceAdd, Int.reducePow]
              omega
            have HX := Lib.hid hnext
            clear hnext
            go_wp2_with fail
            go_roundw
            case rel =>
              have hj1 := HJ.out
              exact ⟨j1, _, by rw [hj1]; first | rfl | go_num, rfl, by omega, by omega, ⟨HX.out⟩, ⟨by rw [hj1, ← hr.out, HZ.out]⟩, B2⟩
            case measure => simp [intOf]
      · obtain rfl : j = 4 := by omega
        have he := hr.out
        rw [List.drop_of_length_le (by rw [H4.out]; omega), sumS] at he
        have HR := Lib.hid (HS.out _ he.symm)
        clear he
        go_wp2_with fail
        go_ret2
        exact ⟨ret_four (by first | (rw [HR.out.1]; done) | (rw [HR.out.1]; rfl)) HR.out.2.symm, below_then HB.out HB.out.size hbw.out⟩
  · have HR := Lib.hid (HN.out (by rw [strictP, if_neg h4]))
    go_wp2_with fail
    go_ret2
    exact ⟨ret_four HR.out.1.symm HR.out.2.symm, HB.out⟩
end Go.Proofs.YtfcnfkedoihpoaaDoor
