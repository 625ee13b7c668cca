/- The law PercentBytes, walked. -/
import Derived.Test.YtfcnfkedoihpoaaDoorBytesP
import Derived.Test.YtfcnfkedoihpoaaDoorAwake
import Derived.Test.YtfcnfkedoihpoaaDoorShC
namespace Go.Proofs.YtfcnfkedoihpoaaDoor
open Go.RowKit Go.Proofs.YtfcnfkedoihpoaaDoorW.PrintWords Go.Proofs.YtfcnfkedoihpoaaDoorW.PrintMore

set_option maxHeartbeats 2000000 in
set_option maxRecDepth 100000 in
theorem PercentBytes_calls (s : ByteArray) (r : Int) (w : World) (hs : s.size ≤ 140737488351232) :
    Calls Tryd.prog 3 #[.string s, .int .i32 r] w fun e w' => e = .returned (.bool true) ∧ Below w.heap.size w w' := by
  by_cases h5 : s.size ≤ 500
  · obtain ⟨F1, F2, F3, F4⟩ := in_facts r
    have H1 := Lib.hid F1
    have H2 := Lib.hid F2
    have H3 := Lib.hid F3
    have H4 := Aside0.mk F4
    clear F1 F2 F3 F4
    go_enter Tryd.func3, Tryd.ntmps3
    go_wp2_with fail
    refine (awake2_calls _).mono ?_
    rintro e w1 ⟨rfl, b1⟩
    have B1 := Aside0.mk b1
    clear b1
    go_wp2_with fail
    go_loopw [5, 17] (fun ss ii wr => ∃ (j : Nat) (z : ByteArray), ii = .int .i64 j ∧ ss = .string z ∧ j ≤ s.size ∧ z.size = 3 * j ∧ Aside0 (z.data.toList = pctL (s.data.toList.take j)) ∧ Aside0 (Below w.heap.size w wr)) (fun _ i _ => s.size - (intOf i).toNat)
    case atStart => exact ⟨0, _, rfl, rfl, by omega, by rfl, ⟨rfl⟩, B1⟩
    case round =>
      obtain ⟨j, z, rfl, rfl, hj, hz, hd, hbw⟩ := hrel
      by_cases hlt : j < s.size
      · have hbd := (s[j]'hlt).toNat_lt
        go_wp2_with fail
        refine (Byte_calls _ (by omega) (by omega) _).mono ?_
        rintro e w2 ⟨rfl, b2⟩
        have B2 := Aside0.mk (below_then hbw.out hbw.out.size b2)
        clear b2
        have hys : (ByteArray.mk (byteL ((s[j]'hlt).toNat : Int)).toArray).size = 3 := rfl
        have hcat : (z ++ (ByteArray.mk (byteL ((s[j]'hlt).toNat : Int)).toArray)).size = 3 * (j + 1) := by
          rw [ByteArray.size_append, hys]
          omega
        have hdat : (z ++ (ByteArray.mk (byteL ((s[j]'hlt).toNat : Int)).toArray)).data.toList = pctL (s.data.toList.take (j + 1)) := by
          have e : s.data.toList.take (j + 1) = s.data.toList.take j ++ [s[j]'hlt] := by
            rw [List.take_add_one, List.getElem?_eq_getElem (by simpa using hlt)]
            rfl
          rw [e, pctL_snoc, ← hd.out]
          simp
        have HD := Aside0.mk hdat
        clear hdat
        generalize (ByteArray.mk (byteL ((s[j]'hlt).toNat : Int)).toArray) = y at hys hcat HD
        go_wp2_with fail
        go_roundw
        case rel => exact ⟨j + 1, _, by go_num, rfl, by omega, hcat, ⟨HD.out⟩, B2⟩
        case measure => simp [intOf]; omega
      · obtain rfl : j = s.size := by omega
        have hfull := hd.out
        rw [List.take_of_length_le (by simp)] at hfull
        have HZ := Lib.hid hfull
        have hrb : w.heap.size ≤ wr.heap.size := hbw.out.size
        clear hfull hd
        go_wp2_with fail
        obtain ⟨w3, hw3⟩ : ∃ w3, w3 = wr.alloc (.cells #[.int .u8 1, .int .u8 2, .int .u8 3, .int .u8 4, .int .u8 5] 24) := ⟨_, rfl⟩
        rw [← hw3]
        have hcell : ∀ j : Nat, j < 5 → w3.cell? ⟨wr.heap.size, j, none⟩ = some (.int .u8 ((j : Int) + 1)) := by
          intro j hj
          rw [hw3, World.cell?_alloc_new]
          have : j = 0 ∨ j = 1 ∨ j = 2 ∨ j = 3 ∨ j = 4 := by omega
          rcases this with rfl | rfl | rfl | rfl | rfl <;> rfl
        have HC := Aside0.mk hcell
        have hlt3 : wr.heap.size < w3.heap.size := by rw [hw3]; simp
        have B3 : Aside0 (Below w.heap.size w w3) := ⟨by rw [hw3]; exact hbw.out.alloc hrb _⟩
        have HAS : Aside0 (∀ (j : Nat) (b : UInt8), z.data.toList[j]? = some b → b.toNat < 128) := ⟨fun j b h => by
          rw [HZ.out] at h
          exact pctL_ascii _ b (List.mem_of_getElem? h)⟩
        have HSS : Aside0 ((ByteArray.mk (pctS s.data.toList).toArray).size ≤ 1000000) := ⟨by
          show (pctS s.data.toList).toArray.size ≤ _
          rw [List.size_toArray, ← pct_small, Lib.toLowerA, List.length_map, pctL_length]
          have : s.data.toList.length = s.size := by simp
          omega⟩
        clear hw3 hcell hbw hrb
        generalize wr.heap.size = B at hlt3 HC ⊢
        go_loopw [29] (fun ii wx => ∃ j : Nat, ii = .int .i64 j ∧ j ≤ 5 ∧ Aside0 (Below w3.heap.size w3 wx)) (fun i _ => 5 - (intOf i).toNat)
        case atStart => exact ⟨0, rfl, by omega, ⟨Below.refl _ _⟩⟩
        case round =>
          obtain ⟨j, rfl, hj5, hbx⟩ := hrel
          by_cases hlt : j < 5
          · have hcj := (hbx.out.cell (p := ⟨B, j, none⟩) hlt3).trans (HC.out j hlt)
            have hj4 : j = 0 ∨ j = 1 ∨ j = 2 ∨ j = 3 ∨ j = 4 := by omega
            cases h0 : inSet 0 r
            · have E0 := Lib.hid h0
              clear h0
              rcases hj4 with rfl | rfl | rfl | rfl | rfl
              all_goals
                go_wp2_with fail
                refine (In_calls 0 r _).mono ?_
                rintro e w4 ⟨rfl, b4⟩
                have D4 := Aside0.mk (below_then hbx.out hbx.out.size b4)
                clear b4
                rw [E0.out]
                go_wp2_with fail
                go_roundw
                case rel => first | exact ⟨1, rfl, by omega, D4⟩ | exact ⟨2, rfl, by omega, D4⟩ | exact ⟨3, rfl, by omega, D4⟩ | exact ⟨4, rfl, by omega, D4⟩ | exact ⟨5, rfl, by omega, D4⟩
                case measure => simp [intOf]
            · have E0 := Lib.hid h0
              clear h0
              rcases hj4 with rfl | rfl | rfl | rfl | rfl
              all_goals
                go_wp2_with fail
                refine (In_calls 0 r _).mono ?_
                rintro e w4 ⟨rfl, b4⟩
                have D4 := Aside0.mk (below_then hbx.out hbx.out.size b4)
                clear b4
                rw [E0.out]
                go_wp2_with fail
                refine (In_calls _ r _).mono ?_
                rintro e w5 ⟨rfl, b5⟩
                have D5 := Aside0.mk (below_then D4.out D4.out.size b5)
                clear b5
                rw [H4.out _ (by omega) E0.out]
                go_wp2_with fail
                go_roundw
                case rel => first | exact ⟨1, rfl, by omega, D5⟩ | exact ⟨2, rfl, by omega, D5⟩ | exact ⟨3, rfl, by omega, D5⟩ | exact ⟨4, rfl, by omega, D5⟩ | exact ⟨5, rfl, by omega, D5⟩
                case measure => simp [intOf]
          · obtain rfl : j = 5 := by omega
            go_wp2_with fail
            cases h4 : inSet 4 r
            · have E4 := Lib.hid h4
              cases h2 : inSet 2 r
              · have E2 := Lib.hid h2
                clear h2 h4
                refine (In_calls 4 r _).mono ?_
                rintro e w4 ⟨rfl, b4⟩
                have D4 := Aside0.mk (below_then hbx.out hbx.out.size b4)
                clear b4
                rw [E4.out]
                go_wp2_with fail
                refine (In_calls 2 r _).mono ?_
                rintro e w5 ⟨rfl, b5⟩
                have D5 := Aside0.mk (below_then D4.out D4.out.size b5)
                clear b5
                rw [E2.out]
                go_wp2_with fail
                refine (In_calls 6 r _).mono ?_
                rintro e w6 ⟨rfl, b6⟩
                have D6 := Aside0.mk (below_then D5.out D5.out.size b6)
                clear b6
                rw [H3.out]
                go_wp2_with fail
                refine (Decode_calls z (by omega) _).mono ?_
                rintro e w7 ⟨rfl, b7⟩
                have D7 := Aside0.mk (below_then D6.out D6.out.size b7)
                clear b7
                rw [HZ.out, dec_pct, show (⟨s.data.toList.toArray⟩ : ByteArray) = s from rfl]
                go_wp2_with fail
                refine (Tryd.strings_ToLower_ascii z _ (by omega) HAS.out).mono ?_
                rintro e w8 ⟨rfl, b8⟩
                have D8 := Aside0.mk (below_then D7.out D7.out.size b8)
                clear b8
                rw [HZ.out, pct_small]
                go_wp2_with fail
                refine (Decode_calls _ HSS.out _).mono ?_
                rintro e w9 ⟨rfl, b9⟩
                have D9 := Aside0.mk (below_then D8.out D8.out.size b9)
                clear b9
                rw [show (ByteArray.mk (pctS s.data.toList).toArray).data.toList = pctS s.data.toList from rfl, dec_small, show (⟨s.data.toList.toArray⟩ : ByteArray) = s from rfl]
                go_wp2_with fail
                refine (Right_calls z (by omega) _).mono ?_
                rintro e w10 ⟨rfl, b10⟩
                have D10 := Aside0.mk (below_then D9.out D9.out.size b10.below)
                clear b10
                rw [HZ.out, right_pct]
                go_wp2_with fail
                go_ret
                exact ⟨by simp, below_then B3.out B3.out.size D10.out⟩
              · exfalso
                rw [(H2.out h2).1] at h4
                cases h4
            · have E4 := Lib.hid h4
              have E5 := Lib.hid (H1.out h4)
              cases h2 : inSet 2 r
              · have E2 := Lib.hid h2
                clear h2 h4
                refine (In_calls 4 r _).mono ?_
                rintro e w4 ⟨rfl, b4⟩
                have D4 := Aside0.mk (below_then hbx.out hbx.out.size b4)
                clear b4
                rw [E4.out]
                go_wp2_with fail
                refine (In_calls 5 r _).mono ?_
                rintro e w5 ⟨rfl, b5⟩
                have D5 := Aside0.mk (below_then D4.out D4.out.size b5)
                clear b5
                rw [E5.out]
                go_wp2_with fail
                refine (In_calls 2 r _).mono ?_
                rintro e w6 ⟨rfl, b6⟩
                have D6 := Aside0.mk (below_then D5.out D5.out.size b6)
                clear b6
                rw [E2.out]
                go_wp2_with fail
                refine (In_calls 6 r _).mono ?_
                rintro e w7 ⟨rfl, b7⟩
                have D7 := Aside0.mk (below_then D6.out D6.out.size b7)
                clear b7
                rw [H3.out]
                go_wp2_with fail
                refine (Decode_calls z (by omega) _).mono ?_
                rintro e w8 ⟨rfl, b8⟩
                have D8 := Aside0.mk (below_then D7.out D7.out.size b8)
                clear b8
                rw [HZ.out, dec_pct, show (⟨s.data.toList.toArray⟩ : ByteArray) = s from rfl]
                go_wp2_with fail
                refine (Tryd.strings_ToLower_ascii z _ (by omega) HAS.out).mono ?_
                rintro e w9 ⟨rfl, b9⟩
                have D9 := Aside0.mk (below_then D8.out D8.out.size b9)
                clear b9
                rw [HZ.out, pct_small]
                go_wp2_with fail
                refine (Decode_calls _ HSS.out _).mono ?_
                rintro e w10 ⟨rfl, b10⟩
                have D10 := Aside0.mk (below_then D9.out D9.out.size b10)
                clear b10
                rw [show (ByteArray.mk (pctS s.data.toList).toArray).data.toList = pctS s.data.toList from rfl, dec_small, show (⟨s.data.toList.toArray⟩ : ByteArray) = s from rfl]
                go_wp2_with fail
                refine (Right_calls z (by omega) _).mono ?_
                rintro e w11 ⟨rfl, b11⟩
                have D11 := Aside0.mk (below_then D10.out D10.out.size b11.below)
                clear b11
                rw [HZ.out, right_pct]
                go_wp2_with fail
                go_ret
                exact ⟨by simp, below_then B3.out B3.out.size D11.out⟩
              · have E2 := Lib.hid h2
                have E3 := Lib.hid (H2.out h2).2
                clear h2 h4
                refine (In_calls 4 r _).mono ?_
                rintro e w4 ⟨rfl, b4⟩
                have D4 := Aside0.mk (below_then hbx.out hbx.out.size b4)
                clear b4
                rw [E4.out]
                go_wp2_with fail
                refine (In_calls 5 r _).mono ?_
                rintro e w5 ⟨rfl, b5⟩
                have D5 := Aside0.mk (below_then D4.out D4.out.size b5)
                clear b5
                rw [E5.out]
                go_wp2_with fail
                refine (In_calls 2 r _).mono ?_
                rintro e w6 ⟨rfl, b6⟩
                have D6 := Aside0.mk (below_then D5.out D5.out.size b6)
                clear b6
                rw [E2.out]
                go_wp2_with fail
                refine (In_calls 4 r _).mono ?_
                rintro e w7 ⟨rfl, b7⟩
                have D7 := Aside0.mk (below_then D6.out D6.out.size b7)
                clear b7
                rw [E4.out]
                go_wp2_with fail
                refine (In_calls 3 r _).mono ?_
                rintro e w8 ⟨rfl, b8⟩
                have D8 := Aside0.mk (below_then D7.out D7.out.size b8)
                clear b8
                rw [E3.out]
                go_wp2_with fail
                refine (In_calls 6 r _).mono ?_
                rintro e w9 ⟨rfl, b9⟩
                have D9 := Aside0.mk (below_then D8.out D8.out.size b9)
                clear b9
                rw [H3.out]
                go_wp2_with fail
                refine (Decode_calls z (by omega) _).mono ?_
                rintro e w10 ⟨rfl, b10⟩
                have D10 := Aside0.mk (below_then D9.out D9.out.size b10)
                clear b10
                rw [HZ.out, dec_pct, show (⟨s.data.toList.toArray⟩ : ByteArray) = s from rfl]
                go_wp2_with fail
                refine (Tryd.strings_ToLower_ascii z _ (by omega) HAS.out).mono ?_
                rintro e w11 ⟨rfl, b11⟩
                have D11 := Aside0.mk (below_then D10.out D10.out.size b11)
                clear b11
                rw [HZ.out, pct_small]
                go_wp2_with fail
                refine (Decode_calls _ HSS.out _).mono ?_
                rintro e w12 ⟨rfl, b12⟩
                have D12 := Aside0.mk (below_then D11.out D11.out.size b12)
                clear b12
                rw [show (ByteArray.mk (pctS s.data.toList).toArray).data.toList = pctS s.data.toList from rfl, dec_small, show (⟨s.data.toList.toArray⟩ : ByteArray) = s from rfl]
                go_wp2_with fail
                refine (Right_calls z (by omega) _).mono ?_
                rintro e w13 ⟨rfl, b13⟩
                have D13 := Aside0.mk (below_then D12.out D12.out.size b13.below)
                clear b13
                rw [HZ.out, right_pct]
                go_wp2_with fail
                go_ret
                exact ⟨by simp, below_then B3.out B3.out.size D13.out⟩
  · go_enter Tryd.func3, Tryd.ntmps3
    go_wp2_with fail
    refine (awake2_calls _).mono ?_
    rintro e w1 ⟨rfl, b1⟩
    go_wp2
    go_ret
    exact ⟨rfl, b1⟩
theorem PercentBytes_row (s : ByteArray) (r : Int) (w : World) (hs : s.size ≤ 140737488351232) (_ : (Lit.int .i32 r).wf = true) :
    Calls Tryd.prog 3 #[.string s, .int .i32 r] w fun e w' => e = .returned (.bool true) ∧ Below w.heap.size w w' := PercentBytes_calls s r w hs
end Go.Proofs.YtfcnfkedoihpoaaDoor
