/- The laws FourStrict and FourWrites, walked. -/
import Derived.Test.YtfcnfkedoihpoaaDoorJF
namespace Go.Proofs.YtfcnfkedoihpoaaDoor
open Go.RowKit Go.Proofs.YtfcnfkedoihpoaaDoorW.PrintWords Go.Proofs.YtfcnfkedoihpoaaDoorW.PrintMore

theorem fourN_of {l : List UInt8} {x : Int} (h : fourL l = some x) : fourN l = x ∧ fourOk l = true := ⟨by rw [fourN, h]; rfl, by rw [fourOk, h]; rfl⟩
theorem strictN_of {l : List UInt8} {x : Int} (h : strictL l = some x) : strictN l = x ∧ strictOk l = true := ⟨by rw [strictN, h]; rfl, by rw [strictOk, h]; rfl⟩
theorem strictOk_no {l : List UInt8} (h : strictL l = none) : strictOk l = false := by rw [strictOk, h]; rfl

set_option maxHeartbeats 1000000 in
theorem FourStrict_row (s : ByteArray) (w : World) (_ : s.size ≤ 140737488351232) (hP : Aside0 (Pows w)) (hE : Aside0 (Errs w)) :
    Calls Tryd.prog 6 #[.string s] w fun e w' => e = .returned (.bool true) ∧ Below w.heap.size w w' := by
  by_cases h5 : s.size ≤ 100
  · rcases strict_val s.data.toList with ⟨h1, h2, h3⟩ | ⟨n, hn, h1, h2, h3, h4⟩
    · have E2 := Lib.hid h2
      have E3 := Lib.hid h3
      clear h1 h2 h3
      go_enter Tryd.func6, Tryd.ntmps6
      go_wp2_with fail
      refine (awake4_calls _).mono ?_
      rintro e w1 ⟨rfl, b1⟩
      have B1 := Aside0.mk b1
      clear b1
      go_wp2_with fail
      refine (Strict_calls s _ (by omega) ⟨hE.out.stays B1.out⟩).mono ?_
      rintro e w2 ⟨rfl, b2⟩
      have B2 := Aside0.mk (below_then B1.out B1.out.size b2)
      clear b2
      rw [E2.out, E3.out]
      go_wp2_with fail
      go_ret
      exact ⟨rfl, B2.out⟩
    · have E2 := Lib.hid h2
      have E3 := Lib.hid h3
      obtain rfl : s = fourB n := bytes_of s _ h4
      have E4 := Lib.hid (fourN_of (four_text n hn))
      have E5 := Lib.hid (strictOk_no (strict_point n))
      have E6 := Lib.hid (strictOk_no (strict_nought n))
      have d5 := Lib.hid (show (fourB n ++ ⟨#[46]⟩).data.toList = fourT n ++ [46] by rw [dat_cat]; rfl)
      have d6 := Lib.hid (show ((ByteArray.mk #[48]) ++ fourB n).data.toList = 48 :: fourT n by rw [dat_cat]; rfl)
      have s5 : (fourB n ++ ⟨#[46]⟩).size ≤ 200 := sz_cat _ _ 100 1 200 h5 (by decide) (by omega)
      have s6 : ((ByteArray.mk #[48]) ++ fourB n).size ≤ 200 := sz_cat _ _ 1 100 200 (by decide) h5 (by omega)
      have hl := Lib.hid (fourB_list n)
      clear h1 h2 h3 h4
      generalize fourB n = s at *
      go_enter Tryd.func6, Tryd.ntmps6
      go_wp2_with fail
      refine (awake4_calls _).mono ?_
      rintro e w1 ⟨rfl, b1⟩
      have B1 := Aside0.mk b1
      clear b1
      go_wp2_with fail
      refine (Strict_calls s _ (by omega) ⟨hE.out.stays B1.out⟩).mono ?_
      rintro e w2 ⟨rfl, b2⟩
      have B2 := Aside0.mk (below_then B1.out B1.out.size b2)
      clear b2
      rw [E2.out, E3.out]
      go_wp2_with fail
      refine (Four_calls s _ (by omega)).mono ?_
      rintro e w3 ⟨rfl, b3⟩
      have B3 := Aside0.mk (below_then B2.out B2.out.size b3)
      clear b3
      rw [hl.out, E4.out.1, E4.out.2]
      go_wp2_with fail
      refine (Strict_calls _ _ (by omega) ⟨hE.out.stays B3.out⟩).mono ?_
      rintro e w4 ⟨rfl, b4⟩
      have B4 := Aside0.mk (below_then B3.out B3.out.size b4)
      clear b4
      rw [d5.out, E5.out]
      go_wp2_with fail
      refine (Strict_calls _ _ (by omega) ⟨hE.out.stays B4.out⟩).mono ?_
      rintro e w5 ⟨rfl, b5⟩
      have B5 := Aside0.mk (below_then B4.out B4.out.size b5)
      clear b5
      rw [d6.out, E6.out]
      go_wp2_with fail
      refine (Text_calls n hn _ ⟨hP.out.stays B5.out⟩).mono ?_
      rintro e w6 ⟨rfl, b6⟩
      have B6 := Aside0.mk (below_then B5.out B5.out.size b6)
      clear b6
      rw [show fourB n = s from bytes_of s _ hl.out |>.symm]
      go_wp2_with fail
      go_ret
      exact ⟨by simp, B6.out⟩
  · go_enter Tryd.func6, Tryd.ntmps6
    go_wp2_with fail
    refine (awake4_calls _).mono ?_
    rintro e w1 ⟨rfl, b1⟩
    go_wp2
    go_ret
    exact ⟨rfl, b1⟩

set_option maxHeartbeats 1000000 in
theorem FourWrites_row (i : Int) (w : World) (hi : (Lit.int .u32 i).wf = true) (hP : Aside0 (Pows w)) (hE : Aside0 (Errs w)) :
    Calls Tryd.prog 7 #[.int .u32 i] w fun e w' => e = .returned (.bool true) ∧ Below w.heap.size w w' := by
  obtain ⟨n, rfl, hn⟩ : ∃ n : Nat, i = n ∧ n < 4294967296 := by
    have := wf_u32 hi
    exact ⟨i.toNat, by omega, by omega⟩
  clear hi
  have E4 := Lib.hid (fourN_of (four_text n hn))
  have E5 := Lib.hid (strictN_of (strict_text n hn))
  have hl := Lib.hid (fourB_list n)
  have hsz := fourB_size n hn
  obtain ⟨s, hs⟩ : ∃ s, s = fourB n := ⟨_, rfl⟩
  rw [← hs] at hsz
  have HS := Lib.hid hs
  clear hs
  go_enter Tryd.func7, Tryd.ntmps7
  go_wp2_with fail
  refine (awake4_calls _).mono ?_
  rintro e w1 ⟨rfl, b1⟩
  have B1 := Aside0.mk b1
  clear b1
  go_wp2_with fail
  refine (Bytes_calls n (by omega) (by omega) _).mono ?_
  rintro e w2 ⟨rfl, b2⟩
  have B2 := Aside0.mk (below_then B1.out B1.out.size b2)
  clear b2
  go_wp2_with fail
  obtain ⟨w3, hw3⟩ : ∃ w3, w3 = w2.alloc (.cells #[.int .u8 ((n : Int) / 16777216), .int .u8 ((n : Int) / 65536 % 256), .int .u8 ((n : Int) / 256 % 256), .int .u8 ((n : Int) % 256)] 31) := ⟨_, rfl⟩
  rw [← hw3]
  have c0 : w3.cell? ⟨w2.heap.size, 0, none⟩ = some (.int .u8 ((n : Int) / 16777216)) := by rw [hw3]; simp
  have c1 : w3.cell? ⟨w2.heap.size, 1, none⟩ = some (.int .u8 ((n : Int) / 65536 % 256)) := by rw [hw3]; simp
  have c2 : w3.cell? ⟨w2.heap.size, 2, none⟩ = some (.int .u8 ((n : Int) / 256 % 256)) := by rw [hw3]; simp
  have c3 : w3.cell? ⟨w2.heap.size, 3, none⟩ = some (.int .u8 ((n : Int) % 256)) := by rw [hw3]; simp
  have hlt : w2.heap.size < w3.heap.size := by rw [hw3]; simp
  have HC := Aside0.mk (And.intro c0 (And.intro c1 (And.intro c2 c3)))
  have B3 : Aside0 (Below w.heap.size w w3) := ⟨by rw [hw3]; exact B2.out.alloc B2.out.size _⟩
  clear hw3 c0 c1 c2 c3
  refine (Wide_calls n (by omega) (by omega) _).mono ?_
  rintro e w4 ⟨rfl, rfl⟩
  go_wp2_with fail
  refine (Text_calls n hn _ ⟨hP.out.stays B3.out⟩).mono ?_
  rintro e w4 ⟨rfl, b4⟩
  have D4 := Aside0.mk b4
  clear b4
  rw [← HS.out]
  go_wp2_with fail
  refine (Four_calls s _ (by omega)).mono ?_
  rintro e w5 ⟨rfl, b5⟩
  have D5 := Aside0.mk (below_then D4.out D4.out.size b5)
  clear b5
  rw [show s.data.toList = fourT n by rw [HS.out]; rfl, E4.out.1, E4.out.2]
  go_wp2_with fail
  refine (Text_calls n hn _ ⟨hP.out.stays (below_then B3.out B3.out.size D5.out)⟩).mono ?_
  rintro e w6 ⟨rfl, b6⟩
  have D6 := Aside0.mk (below_then D5.out D5.out.size b6)
  clear b6
  rw [← HS.out]
  go_wp2_with fail
  refine (Strict_calls s _ (by omega) ⟨hE.out.stays (below_then B3.out B3.out.size D6.out)⟩).mono ?_
  rintro e w7 ⟨rfl, b7⟩
  have D7 := Aside0.mk (below_then D6.out D6.out.size b7)
  clear b7
  rw [show s.data.toList = fourT n by rw [HS.out]; rfl, E5.out.1, E5.out.2]
  have k0 := (D7.out.cell (p := ⟨w2.heap.size, 0, none⟩) hlt).trans HC.out.1
  have k1 := (D7.out.cell (p := ⟨w2.heap.size, 1, none⟩) hlt).trans HC.out.2.1
  have k2 := (D7.out.cell (p := ⟨w2.heap.size, 2, none⟩) hlt).trans HC.out.2.2.1
  have k3 := (D7.out.cell (p := ⟨w2.heap.size, 3, none⟩) hlt).trans HC.out.2.2.2
  go_wp2_with fail
  refine (Of_calls _ _ _ _ (by omega) (by omega) (by omega) (by omega) _).mono ?_
  rintro e w8 ⟨rfl, rfl⟩
  rw [show ((((n : Int) / 16777216) * 256 + (n : Int) / 65536 % 256) * 256 + (n : Int) / 256 % 256) * 256 + (n : Int) % 256 = n by omega]
  go_wp2_with fail
  refine (Text_calls n hn _ ⟨hP.out.stays (below_then B3.out B3.out.size D7.out)⟩).mono ?_
  rintro e w8 ⟨rfl, b8⟩
  have D8 := Aside0.mk (below_then D7.out D7.out.size b8)
  clear b8
  go_wp2_with fail
  refine (rText4_calls n hn _ ⟨hP.out.stays (below_then B3.out B3.out.size D8.out)⟩).mono ?_
  rintro e w9 ⟨rfl, b9⟩
  have D9 := Aside0.mk (below_then D8.out D8.out.size b9)
  clear b9
  go_wp2_with fail
  go_ret
  exact ⟨by simp, below_then B3.out B3.out.size D9.out⟩
end Go.Proofs.YtfcnfkedoihpoaaDoor
