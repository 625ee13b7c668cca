/- The law FourShort, walked. -/
import Derived.Test.YtfcnfkedoihpoaaDoorZShortP
import Derived.Test.YtfcnfkedoihpoaaDoorZFStrict
import Derived.Test.YtfcnfkedoihpoaaDoorJE
import Derived.Test.YtfcnfkedoihpoaaDoorZFShR
namespace Go.Proofs.YtfcnfkedoihpoaaDoor
open Go.RowKit Go.Proofs.YtfcnfkedoihpoaaDoorW.PrintWords Go.Proofs.YtfcnfkedoihpoaaDoorW.PrintMore

theorem dat_part (m x : Nat) (z : ByteArray) (hm : m < 3) : (z ++ (pfxB m ++ ⟨(digB (baseN m) x).toArray⟩ ++ ⟨#[46]⟩)).data.toList = z.data.toList ++ (wpart m x ++ [46]) ∧ (z ++ (pfxB m ++ ⟨(digB (baseN m) x).toArray⟩)).data.toList = z.data.toList ++ wpart m x := by
  have hp : (pfxB m).data.toList = pfxL m := by
    have : m = 0 ∨ m = 1 ∨ m = 2 := by omega
    rcases this with rfl | rfl | rfl <;> rfl
  constructor
  · rw [dat_cat, dat_cat, dat_cat, hp, wpart]
  · rw [dat_cat, dat_cat, hp, wpart]
theorem siz_part (m x : Nat) (z : ByteArray) (hm : m < 3) (hx : x < 18446744073709551616) (n k : Nat) (hz : z.size ≤ n) (hk : n + 80 ≤ k) : (z ++ (pfxB m ++ ⟨(digB (baseN m) x).toArray⟩ ++ ⟨#[46]⟩)).size ≤ k ∧ (z ++ (pfxB m ++ ⟨(digB (baseN m) x).toArray⟩)).size ≤ k := by
  have hm3 : m = 0 ∨ m = 1 ∨ m = 2 := by omega
  have hp : (pfxB m).size ≤ 2 := by rcases hm3 with rfl | rfl | rfl <;> decide
  have hd : (ByteArray.mk (digB (baseN m) x).toArray).size ≤ 65 := by
    rw [mk_size]
    exact digB_len (baseN m) (by rcases hm3 with rfl | rfl | rfl <;> decide) x 64 (by omega)
  have h1 := sz_cat _ _ 2 65 70 hp hd (by omega)
  exact ⟨sz_cat _ _ n 80 k hz (sz_cat _ _ 70 1 80 h1 (by decide) (by omega)) hk, sz_cat _ _ n 70 k hz h1 (by omega)⟩

set_option maxHeartbeats 4000000 in
set_option maxRecDepth 100000 in
theorem FourShort_calls (n p b0 b1 b2 b3 : Nat) (point : Bool) (w : World) (hn : n < 4294967296) (hp : p < 256) (hP : Aside0 (Pows w)) (hT : Aside0 (Debr w)) :
    Calls Tryd.prog 4 #[.int .u32 n, .int .u8 p, .agg #[.int .u8 b0, .int .u8 b1, .int .u8 b2, .int .u8 b3], .bool point] w fun e w' => e = .returned (.bool true) ∧ Below w.heap.size w w' := by
  obtain ⟨k, hk, hk1, hk4⟩ : ∃ k : Nat, (p : Int) % 4 + 1 = k ∧ 1 ≤ k ∧ k ≤ 4 := ⟨p % 4 + 1, by omega, by omega, by omega⟩
  go_enter Tryd.func4, Tryd.ntmps4
  go_wp2_with fail
  refine (awake4_calls _).mono ?_
  rintro e w1 ⟨rfl, bw⟩
  have hcb : ∀ j : Nat, j < 4 → w1.cell? ⟨w.heap.size, j, none⟩ = some (.int .u8 (([b0, b1, b2, b3].getD j 0 : Nat) : Int)) := by
    intro j hj
    rw [bw.cell (by simp), World.cell?_alloc_new]
    have hj4 : j = 0 ∨ j = 1 ∨ j = 2 ∨ j = 3 := by omega
    rcases hj4 with rfl | rfl | rfl | rfl <;> rfl
  have HCB := Aside0.mk hcb
  have HB1 : Aside0 (Below w.heap.size w w1) := ⟨below_then ((Below.refl _ _).alloc (Nat.le_refl _) _) (by simp) bw⟩
  have hlt1 : w.heap.size < w1.heap.size := Nat.lt_of_lt_of_le (by simp) bw.size
  clear bw hcb
  have HST := Aside0.mk (short_start n k hn hk1)
  go_wp2_with fail
  go_loopw [10, 11, 25] (fun ss rr ii wr => ∃ (j r : Nat) (z : ByteArray), ii = .int .i64 j ∧ ss = .string z ∧ rr = .int .u64 r ∧ j ≤ k ∧ z.size ≤ 100 * j ∧ r < 4294967296 ∧ Aside0 (ShortAt n k j z.data.toList r) ∧ Aside0 (Below w1.heap.size w1 wr)) (fun _ _ i _ => k - (intOf i).toNat)
  case atStart => exact ⟨0, n, _, rfl, rfl, rfl, by omega, by decide, hn, ⟨HST.out⟩, ⟨Below.refl _ _⟩⟩
  case round =>
    obtain ⟨j, r, z, rfl, rfl, rfl, hj, hz, hr, hs, hbw⟩ := hrel
    by_cases hlt : j < k
    · have hm3 : [b0, b1, b2, b3].getD j 0 % 3 = 0 ∨ [b0, b1, b2, b3].getD j 0 % 3 = 1 ∨ [b0, b1, b2, b3].getD j 0 % 3 = 2 := by omega
      have hc : wr.cell? ⟨w.heap.size, j, none⟩ = some (.int .u8 (([b0, b1, b2, b3].getD j 0 : Nat) : Int)) := (hbw.out.cell hlt1).trans (HCB.out j (by omega))
      have hBr : w.heap.size < wr.heap.size := Nat.lt_of_lt_of_le hlt1 hbw.out.size
      have HBW := Aside0.mk (below_then HB1.out HB1.out.size hbw.out)
      have hPr : Aside0 (Pows wr) := ⟨hP.out.stays HBW.out⟩
      have hTr : Aside0 (Debr wr) := ⟨hT.out.stays HBW.out⟩
      generalize [b0, b1, b2, b3].getD j 0 = bv at hc hm3
      have Hc := Aside0.mk hc
      clear hc
      by_cases hl : j + 1 < k
      · have hj3 : j = 0 ∨ j = 1 ∨ j = 2 := by omega
        rcases hj3 with rfl | rfl | rfl
        · go_wp2_with fail
          rw [show (r : Int) / 16777216 = ((r / 16777216 : Nat) : Int) by omega]
          rcases hm3 with hm | hm | hm
          · refine short_reg12_0 w.heap.size 0 (r / 16777216) bv z _ wr (by omega) (by omega) (by omega) (by omega) hBr Hc.out hPr hTr ?_
            intro _ _ _ _ _ _ _ _ _ _ _ _ _ _ _ _ _ _ _ _ W hW
            have HD := Lib.hid (dat_part 0 (r / 16777216) z (by omega)).1
            have hsz := (siz_part 0 (r / 16777216) z (by omega) (by omega) (100 * 0) (100 * 1) hz (by omega)).1
            rw [show baseN 0 = 10 from rfl] at HD hsz
            have hS := short_mid n k 0 0 z.data.toList r hk4 (by omega) hl hs.out
            simp only [Nat.reduceSub, Nat.reducePow, Nat.reduceAdd] at hS
            rw [← HD.out] at hS
            have HS := Aside0.mk hS
            have HW := Aside0.mk (below_then hbw.out hbw.out.size hW)
            clear hS hW
            generalize z ++ (pfxB 0 ++ ⟨(digB 10 (r / 16777216)).toArray⟩ ++ ⟨#[46]⟩) = z1 at HS hsz ⊢
            clear HD
            go_wp2_with fail
            go_roundw
            case rel => exact ⟨1, r - r / 16777216 * 16777216, z1, rfl, rfl, by go_num, by omega, hsz, by omega, ⟨HS.out⟩, HW⟩
            case measure => simp [intOf]; omega
          · refine short_reg12_1 w.heap.size 0 (r / 16777216) bv z _ wr (by omega) (by omega) (by omega) (by omega) hBr Hc.out hPr hTr ?_
            intro _ _ _ _ _ _ _ _ _ _ _ _ _ _ _ _ _ _ _ _ W hW
            have HD := Lib.hid (dat_part 1 (r / 16777216) z (by omega)).1
            have hsz := (siz_part 1 (r / 16777216) z (by omega) (by omega) (100 * 0) (100 * 1) hz (by omega)).1
            rw [show baseN 1 = 8 from rfl] at HD hsz
            have hS := short_mid n k 0 1 z.data.toList r hk4 (by omega) hl hs.out
            simp only [Nat.reduceSub, Nat.reducePow, Nat.reduceAdd] at hS
            rw [← HD.out] at hS
            have HS := Aside0.mk hS
            have HW := Aside0.mk (below_then hbw.out hbw.out.size hW)
            clear hS hW
            generalize z ++ (pfxB 1 ++ ⟨(digB 8 (r / 16777216)).toArray⟩ ++ ⟨#[46]⟩) = z1 at HS hsz ⊢
            clear HD
            go_wp2_with fail
            go_roundw
            case rel => exact ⟨1, r - r / 16777216 * 16777216, z1, rfl, rfl, by go_num, by omega, hsz, by omega, ⟨HS.out⟩, HW⟩
            case measure => simp [intOf]; omega
          · refine short_reg12_2 w.heap.size 0 (r / 16777216) bv z _ wr (by omega) (by omega) (by omega) (by omega) hBr Hc.out hPr hTr ?_
            intro _ _ _ _ _ _ _ _ _ _ _ _ _ _ _ _ _ _ _ _ W hW
            have HD := Lib.hid (dat_part 2 (r / 16777216) z (by omega)).1
            have hsz := (siz_part 2 (r / 16777216) z (by omega) (by omega) (100 * 0) (100 * 1) hz (by omega)).1
            rw [show baseN 2 = 16 from rfl] at HD hsz
            have hS := short_mid n k 0 2 z.data.toList r hk4 (by omega) hl hs.out
            simp only [Nat.reduceSub, Nat.reducePow, Nat.reduceAdd] at hS
            rw [← HD.out] at hS
            have HS := Aside0.mk hS
            have HW := Aside0.mk (below_then hbw.out hbw.out.size hW)
            clear hS hW
            generalize z ++ (pfxB 2 ++ ⟨(digB 16 (r / 16777216)).toArray⟩ ++ ⟨#[46]⟩) = z1 at HS hsz ⊢
            clear HD
            go_wp2_with fail
            go_roundw
            case rel => exact ⟨1, r - r / 16777216 * 16777216, z1, rfl, rfl, by go_num, by omega, hsz, by omega, ⟨HS.out⟩, HW⟩
            case measure => simp [intOf]; omega
        · go_wp2_with fail
          rw [show (r : Int) / 65536 = ((r / 65536 : Nat) : Int) by omega]
          rcases hm3 with hm | hm | hm
          · refine short_reg12_0 w.heap.size 1 (r / 65536) bv z _ wr (by omega) (by omega) (by omega) (by omega) hBr Hc.out hPr hTr ?_
            intro _ _ _ _ _ _ _ _ _ _ _ _ _ _ _ _ _ _ _ _ W hW
            have HD := Lib.hid (dat_part 0 (r / 65536) z (by omega)).1
            have hsz := (siz_part 0 (r / 65536) z (by omega) (by omega) (100 * 1) (100 * 2) hz (by omega)).1
            rw [show baseN 0 = 10 from rfl] at HD hsz
            have hS := short_mid n k 1 0 z.data.toList r hk4 (by omega) hl hs.out
            simp only [Nat.reduceSub, Nat.reducePow, Nat.reduceAdd] at hS
            rw [← HD.out] at hS
            have HS := Aside0.mk hS
            have HW := Aside0.mk (below_then hbw.out hbw.out.size hW)
            clear hS hW
            generalize z ++ (pfxB 0 ++ ⟨(digB 10 (r / 65536)).toArray⟩ ++ ⟨#[46]⟩) = z1 at HS hsz ⊢
            clear HD
            go_wp2_with fail
            go_roundw
            case rel => exact ⟨2, r - r / 65536 * 65536, z1, rfl, rfl, by go_num, by omega, hsz, by omega, ⟨HS.out⟩, HW⟩
            case measure => simp [intOf]; omega
          · refine short_reg12_1 w.heap.size 1 (r / 65536) bv z _ wr (by omega) (by omega) (by omega) (by omega) hBr Hc.out hPr hTr ?_
            intro _ _ _ _ _ _ _ _ _ _ _ _ _ _ _ _ _ _ _ _ W hW
            have HD := Lib.hid (dat_part 1 (r / 65536) z (by omega)).1
            have hsz := (siz_part 1 (r / 65536) z (by omega) (by omega) (100 * 1) (100 * 2) hz (by omega)).1
            rw [show baseN 1 = 8 from rfl] at HD hsz
            have hS := short_mid n k 1 1 z.data.toList r hk4 (by omega) hl hs.out
            simp only [Nat.reduceSub, Nat.reducePow, Nat.reduceAdd] at hS
            rw [← HD.out] at hS
            have HS := Aside0.mk hS
            have HW := Aside0.mk (below_then hbw.out hbw.out.size hW)
            clear hS hW
            generalize z ++ (pfxB 1 ++ ⟨(digB 8 (r / 65536)).toArray⟩ ++ ⟨#[46]⟩) = z1 at HS hsz ⊢
            clear HD
            go_wp2_with fail
            go_roundw
            case rel => exact ⟨2, r - r / 65536 * 65536, z1, rfl, rfl, by go_num, by omega, hsz, by omega, ⟨HS.out⟩, HW⟩
            case measure => simp [intOf]; omega
          · refine short_reg12_2 w.heap.size 1 (r / 65536) bv z _ wr (by omega) (by omega) (by omega) (by omega) hBr Hc.out hPr hTr ?_
            intro _ _ _ _ _ _ _ _ _ _ _ _ _ _ _ _ _ _ _ _ W hW
            have HD := Lib.hid (dat_part 2 (r / 65536) z (by omega)).1
            have hsz := (siz_part 2 (r / 65536) z (by omega) (by omega) (100 * 1) (100 * 2) hz (by omega)).1
            rw [show baseN 2 = 16 from rfl] at HD hsz
            have hS := short_mid n k 1 2 z.data.toList r hk4 (by omega) hl hs.out
            simp only [Nat.reduceSub, Nat.reducePow, Nat.reduceAdd] at hS
            rw [← HD.out] at hS
            have HS := Aside0.mk hS
            have HW := Aside0.mk (below_then hbw.out hbw.out.size hW)
            clear hS hW
            generalize z ++ (pfxB 2 ++ ⟨(digB 16 (r / 65536)).toArray⟩ ++ ⟨#[46]⟩) = z1 at HS hsz ⊢
            clear HD
            go_wp2_with fail
            go_roundw
            case rel => exact ⟨2, r - r / 65536 * 65536, z1, rfl, rfl, by go_num, by omega, hsz, by omega, ⟨HS.out⟩, HW⟩
            case measure => simp [intOf]; omega
        · go_wp2_with fail
          rw [show (r : Int) / 256 = ((r / 256 : Nat) : Int) by omega]
          rcases hm3 with hm | hm | hm
          · refine short_reg12_0 w.heap.size 2 (r / 256) bv z _ wr (by omega) (by omega) (by omega) (by omega) hBr Hc.out hPr hTr ?_
            intro _ _ _ _ _ _ _ _ _ _ _ _ _ _ _ _ _ _ _ _ W hW
            have HD := Lib.hid (dat_part 0 (r / 256) z (by omega)).1
            have hsz := (siz_part 0 (r / 256) z (by omega) (by omega) (100 * 2) (100 * 3) hz (by omega)).1
            rw [show baseN 0 = 10 from rfl] at HD hsz
            have hS := short_mid n k 2 0 z.data.toList r hk4 (by omega) hl hs.out
            simp only [Nat.reduceSub, Nat.reducePow, Nat.reduceAdd] at hS
            rw [← HD.out] at hS
            have HS := Aside0.mk hS
            have HW := Aside0.mk (below_then hbw.out hbw.out.size hW)
            clear hS hW
            generalize z ++ (pfxB 0 ++ ⟨(digB 10 (r / 256)).toArray⟩ ++ ⟨#[46]⟩) = z1 at HS hsz ⊢
            clear HD
            go_wp2_with fail
            go_roundw
            case rel => exact ⟨3, r - r / 256 * 256, z1, rfl, rfl, by go_num, by omega, hsz, by omega, ⟨HS.out⟩, HW⟩
            case measure => simp [intOf]; omega
          · refine short_reg12_1 w.heap.size 2 (r / 256) bv z _ wr (by omega) (by omega) (by omega) (by omega) hBr Hc.out hPr hTr ?_
            intro _ _ _ _ _ _ _ _ _ _ _ _ _ _ _ _ _ _ _ _ W hW
            have HD := Lib.hid (dat_part 1 (r / 256) z (by omega)).1
            have hsz := (siz_part 1 (r / 256) z (by omega) (by omega) (100 * 2) (100 * 3) hz (by omega)).1
            rw [show baseN 1 = 8 from rfl] at HD hsz
            have hS := short_mid n k 2 1 z.data.toList r hk4 (by omega) hl hs.out
            simp only [Nat.reduceSub, Nat.reducePow, Nat.reduceAdd] at hS
            rw [← HD.out] at hS
            have HS := Aside0.mk hS
            have HW := Aside0.mk (below_then hbw.out hbw.out.size hW)
            clear hS hW
            generalize z ++ (pfxB 1 ++ ⟨(digB 8 (r / 256)).toArray⟩ ++ ⟨#[46]⟩) = z1 at HS hsz ⊢
            clear HD
            go_wp2_with fail
            go_roundw
            case rel => exact ⟨3, r - r / 256 * 256, z1, rfl, rfl, by go_num, by omega, hsz, by omega, ⟨HS.out⟩, HW⟩
            case measure => simp [intOf]; omega
          · refine short_reg12_2 w.heap.size 2 (r / 256) bv z _ wr (by omega) (by omega) (by omega) (by omega) hBr Hc.out hPr hTr ?_
            intro _ _ _ _ _ _ _ _ _ _ _ _ _ _ _ _ _ _ _ _ W hW
            have HD := Lib.hid (dat_part 2 (r / 256) z (by omega)).1
            have hsz := (siz_part 2 (r / 256) z (by omega) (by omega) (100 * 2) (100 * 3) hz (by omega)).1
            rw [show baseN 2 = 16 from rfl] at HD hsz
            have hS := short_mid n k 2 2 z.data.toList r hk4 (by omega) hl hs.out
            simp only [Nat.reduceSub, Nat.reducePow, Nat.reduceAdd] at hS
            rw [← HD.out] at hS
            have HS := Aside0.mk hS
            have HW := Aside0.mk (below_then hbw.out hbw.out.size hW)
            clear hS hW
            generalize z ++ (pfxB 2 ++ ⟨(digB 16 (r / 256)).toArray⟩ ++ ⟨#[46]⟩) = z1 at HS hsz ⊢
            clear HD
            go_wp2_with fail
            go_roundw
            case rel => exact ⟨3, r - r / 256 * 256, z1, rfl, rfl, by go_num, by omega, hsz, by omega, ⟨HS.out⟩, HW⟩
            case measure => simp [intOf]; omega
      · obtain rfl : j = k - 1 := by omega
        go_wp2_with fail
        rcases hm3 with hm | hm | hm
        · refine short_reg13_0 w.heap.size (k - 1) r bv z _ wr (by omega) (by omega) (by omega) (by omega) hBr Hc.out hPr hTr ?_
          intro _ _ _ _ _ _ _ _ _ _ _ _ _ _ _ _ _ _ _ W hW
          have HD := Lib.hid (dat_part 0 r z (by omega)).2
          have hsz := (siz_part 0 r z (by omega) (by omega) (100 * (k - 1)) (100 * k) hz (by omega)).2
          rw [show baseN 0 = 10 from rfl] at HD hsz
          have hS := short_last n k 0 z.data.toList r hn hk4 hk1 (by omega) hs.out
          rw [← HD.out] at hS
          have HS := Aside0.mk hS
          have HW := Aside0.mk (below_then hbw.out hbw.out.size hW)
          clear hS hW
          generalize z ++ (pfxB 0 ++ ⟨(digB 10 r).toArray⟩) = z1 at HS hsz ⊢
          clear HD
          go_wp2_with fail
          go_roundw
          case rel => exact ⟨k, r, z1, by go_num, rfl, rfl, by omega, hsz, by omega, ⟨HS.out⟩, HW⟩
          case measure => simp [intOf]; omega
        · refine short_reg13_1 w.heap.size (k - 1) r bv z _ wr (by omega) (by omega) (by omega) (by omega) hBr Hc.out hPr hTr ?_
          intro _ _ _ _ _ _ _ _ _ _ _ _ _ _ _ _ _ _ _ W hW
          have HD := Lib.hid (dat_part 1 r z (by omega)).2
          have hsz := (siz_part 1 r z (by omega) (by omega) (100 * (k - 1)) (100 * k) hz (by omega)).2
          rw [show baseN 1 = 8 from rfl] at HD hsz
          have hS := short_last n k 1 z.data.toList r hn hk4 hk1 (by omega) hs.out
          rw [← HD.out] at hS
          have HS := Aside0.mk hS
          have HW := Aside0.mk (below_then hbw.out hbw.out.size hW)
          clear hS hW
          generalize z ++ (pfxB 1 ++ ⟨(digB 8 r).toArray⟩) = z1 at HS hsz ⊢
          clear HD
          go_wp2_with fail
          go_roundw
          case rel => exact ⟨k, r, z1, by go_num, rfl, rfl, by omega, hsz, by omega, ⟨HS.out⟩, HW⟩
          case measure => simp [intOf]; omega
        · refine short_reg13_2 w.heap.size (k - 1) r bv z _ wr (by omega) (by omega) (by omega) (by omega) hBr Hc.out hPr hTr ?_
          intro _ _ _ _ _ _ _ _ _ _ _ _ _ _ _ _ _ _ _ W hW
          have HD := Lib.hid (dat_part 2 r z (by omega)).2
          have hsz := (siz_part 2 r z (by omega) (by omega) (100 * (k - 1)) (100 * k) hz (by omega)).2
          rw [show baseN 2 = 16 from rfl] at HD hsz
          have hS := short_last n k 2 z.data.toList r hn hk4 hk1 (by omega) hs.out
          rw [← HD.out] at hS
          have HS := Aside0.mk hS
          have HW := Aside0.mk (below_then hbw.out hbw.out.size hW)
          clear hS hW
          generalize z ++ (pfxB 2 ++ ⟨(digB 16 r).toArray⟩) = z1 at HS hsz ⊢
          clear HD
          go_wp2_with fail
          go_roundw
          case rel => exact ⟨k, r, z1, by go_num, rfl, rfl, by omega, hsz, by omega, ⟨HS.out⟩, HW⟩
          case measure => simp [intOf]; omega
    · obtain rfl : j = k := by omega
      have HE := Lib.hid (short_end n j _ r hs.out)
      have hz1 : (z ++ ⟨#[46]⟩).size ≤ 500 := sz_cat _ _ 400 1 500 (by omega) (by decide) (by omega)
      have HD := Lib.hid (show (z ++ ⟨#[46]⟩).data.toList = z.data.toList ++ [46] by rw [dat_cat])
      have HBW := Aside0.mk (below_then HB1.out HB1.out.size hbw.out)
      cases point
      all_goals
        go_wp2_with fail
        refine (Four_calls _ _ (by omega)).mono ?_
        rintro e w2 ⟨rfl, b2⟩
        have B2 := Aside0.mk (below_then HBW.out HBW.out.size b2)
        clear b2
      · rw [(fourN_of HE.out.1).1, (fourN_of HE.out.1).2]
        go_wp2_with fail
        go_ret
        exact ⟨rfl, B2.out⟩
      · rw [HD.out, (fourN_of HE.out.2).1, (fourN_of HE.out.2).2]
        go_wp2_with fail
        go_ret
        exact ⟨rfl, B2.out⟩

theorem FourShort_row (n p b0 b1 b2 b3 : Int) (point : Bool) (w : World) (hn : (Lit.int .u32 n).wf = true) (hp : (Lit.int .u8 p).wf = true) (h0 : (Lit.int .u8 b0).wf = true) (h1 : (Lit.int .u8 b1).wf = true) (h2 : (Lit.int .u8 b2).wf = true) (h3 : (Lit.int .u8 b3).wf = true) (hP : Aside0 (Pows w)) (hT : Aside0 (Debr w)) :
    Calls Tryd.prog 4 #[.int .u32 n, .int .u8 p, .agg #[.int .u8 b0, .int .u8 b1, .int .u8 b2, .int .u8 b3], .bool point] w fun e w' => e = .returned (.bool true) ∧ Below w.heap.size w w' := by
  have kn := wf_u32 hn
  have kp := wf_u8 hp
  have k0 := wf_u8 h0
  have k1 := wf_u8 h1
  have k2 := wf_u8 h2
  have k3 := wf_u8 h3
  obtain ⟨n, rfl⟩ : ∃ m : Nat, n = m := ⟨n.toNat, by omega⟩
  obtain ⟨p, rfl⟩ : ∃ m : Nat, p = m := ⟨p.toNat, by omega⟩
  obtain ⟨b0, rfl⟩ : ∃ m : Nat, b0 = m := ⟨b0.toNat, by omega⟩
  obtain ⟨b1, rfl⟩ : ∃ m : Nat, b1 = m := ⟨b1.toNat, by omega⟩
  obtain ⟨b2, rfl⟩ : ∃ m : Nat, b2 = m := ⟨b2.toNat, by omega⟩
  obtain ⟨b3, rfl⟩ : ∃ m : Nat, b3 = m := ⟨b3.toNat, by omega⟩
  exact FourShort_calls n p b0 b1 b2 b3 point w (by omega) (by omega) hP hT
end Go.Proofs.YtfcnfkedoihpoaaDoor
