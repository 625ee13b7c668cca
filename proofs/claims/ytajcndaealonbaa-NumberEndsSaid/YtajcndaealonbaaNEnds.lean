/- The chapter's example, and the law NumberEnds, walked. -/
import Derived.Test.YtajcndaealonbaaEndsP
import Derived.Test.YtajcndaealonbaaAwake
namespace Go.Proofs.Ytajcndaealonbaa
open Go.RowKit Go.Proofs.YtajcndaealonbaaW.PrintWords Go.Proofs.YtajcndaealonbaaW.PrintMore

theorem parse_x1 : parseN [48, 120, 55, 102] = 127 ∧ parseOk [48, 120, 55, 102] = true := by decide +kernel
theorem parse_x2 : parseN [48, 49, 55] = 15 ∧ parseOk [48, 49, 55] = true := by decide +kernel
theorem parse_x3 : parseOk [48, 56] = false := by decide +kernel
theorem ends_x : endsL [97, 46, 48, 120] = true := by decide +kernel

theorem AwakeL2_calls (w : World) : Calls Try.prog 36 #[] w fun e w' => e = .returned (.bool true) ∧ Below w.heap.size w w' := by
  go_enter Try.func36, Try.ntmps36
  go_wp2_with fail
  refine (awake2_calls _).mono ?_
  rintro e w1 ⟨rfl, hb⟩
  go_wp2
  go_ret
  exact ⟨rfl, hb⟩

set_option maxHeartbeats 1000000 in
theorem awake3_calls (w : World) : Calls Try.prog 18 #[] w fun e w' => e = .returned (.bool true) ∧ Below w.heap.size w w' := by
  go_enter Try.func18, Try.ntmps18
  go_wp2_with fail
  refine (Parse_calls _ (by decide) _).mono ?_
  rintro e w1 ⟨rfl, b1⟩
  rw [show (ByteArray.mk #[48, 120, 55, 102]).data.toList = [48, 120, 55, 102] from rfl, parse_x1.1, parse_x1.2]
  go_wp2_with fail
  refine (Parse_calls _ (by decide) _).mono ?_
  rintro e w2 ⟨rfl, b2⟩
  rw [show (ByteArray.mk #[48, 49, 55]).data.toList = [48, 49, 55] from rfl, parse_x2.1, parse_x2.2]
  go_wp2_with fail
  refine (Parse_calls _ (by decide) _).mono ?_
  rintro e w3 ⟨rfl, b3⟩
  rw [show (ByteArray.mk #[48, 56]).data.toList = [48, 56] from rfl, parse_x3]
  go_wp2_with fail
  refine (AwakeL2_calls _).mono ?_
  rintro e w4 ⟨rfl, b4⟩
  go_wp2_with fail
  refine (Ends_calls _ _ (by decide)).mono ?_
  rintro e w5 ⟨rfl, b5⟩
  rw [show (ByteArray.mk #[97, 46, 48, 120]).data.toList = [97, 46, 48, 120] from rfl, ends_x]
  go_wp2
  go_ret
  have B2 := below_then b1 b1.size b2
  have B3 := below_then B2 B2.size b3
  have B4 := below_then B3 B3.size b4
  exact ⟨rfl, below_then B4 B4.size b5⟩

theorem dots_data (b : ByteArray) (l : List UInt8) : (b ++ ⟨l.toArray⟩).data.toList = b.data.toList ++ l := by
  rw [ByteArray.data_append]
  simp
theorem app_data (a b : ByteArray) : (a ++ b).data.toList = a.data.toList ++ b.data.toList := by
  rw [ByteArray.data_append]
  simp
theorem bsize (b : ByteArray) : b.data.toList.length = b.size := by simp

set_option maxHeartbeats 4000000 in
set_option maxRecDepth 100000 in
theorem NumberEnds_calls (a b : ByteArray) (w : World) (ha : a.size ≤ 140737488351232) (hb : b.size ≤ 140737488351232) :
    Calls Try.prog 5 #[.string a, .string b] w fun e w' => e = .returned (.bool true) ∧ Below w.heap.size w w' := by
  by_cases h1 : a.size ≤ 300
  · by_cases h2 : b.size ≤ 300
    · by_cases h3 : b.data.toList = []
      · have e0 : b.toList.isEmpty = true := by rw [toList_eq, h3]; rfl
        clear h3
        go_enter Try.func5, Try.ntmps5
        go_wp2_with fail
        refine (awake3_calls _).mono ?_
        rintro e w1 ⟨rfl, b1⟩
        go_wp2_with fail
        go_ret
        exact ⟨rfl, b1⟩
      · have e0 : b.toList.isEmpty = false := by rw [toList_eq]; simpa using h3
        have hpos : 0 < b.size := by rw [← bsize]; exact List.length_pos_iff.2 h3
        obtain ⟨m, hm⟩ : ∃ m, m + 1 = b.size := ⟨b.size - 1, by omega⟩
        have hmi : (b.size : Int) - 1 = (m : Int) := by omega
        have hlt : m < b.size := by omega
        by_cases h46 : (b[m]'hlt).toNat = 46
        · have q1 : (((b[m]'hlt).toNat : Int) == 46) = true := by simp [h46]
          clear h46 h3
          have HM := Lib.hid hm
          clear hm
          go_enter Try.func5, Try.ntmps5
          go_wp2_with fail
          refine (awake3_calls _).mono ?_
          rintro e w1 ⟨rfl, b1⟩
          go_wp2_with fail
          go_ret
          exact ⟨rfl, b1⟩
        · have q1 : (((b[m]'hlt).toNat : Int) == 46) = false := by simp; omega
          have HM := Lib.hid hm
          have H46 := Lib.hid h46
          have H3 := Lib.hid h3
          clear hm h46 h3
          go_enter Try.func5, Try.ntmps5
          go_wp2_with fail
          refine (awake3_calls _).mono ?_
          rintro e w1 ⟨rfl, b1⟩
          go_wp2_with fail
          have HB := Aside0.mk b1
          clear b1
          go_loop [5, 32] (fun q i => ∃ (j k : Nat) (x : ByteArray) (l : List (List UInt8)), i = .int .i64 j ∧ q = .string x ∧ k ≤ j ∧ j ≤ b.size ∧ Aside0 (x.data.toList = b.data.toList.drop k) ∧ Aside0 (l ++ glue (piece b k j) (splitL (isAt ⟨#[46]⟩) (b.data.toList.drop j)) = splitL (isAt ⟨#[46]⟩) b.data.toList) ∧ Aside0 (k = 0 ∨ ∃ h : k - 1 < b.size, (b[k-1]'h).toNat = 46)) (fun _ i => b.size - (intOf i).toNat)
          case atStart => exact ⟨0, 0, b, [], rfl, rfl, by omega, by omega, ⟨rfl⟩, ⟨by rw [piece_self, glue_nil _ (splitL_ne _ _)]; rfl⟩, ⟨.inl rfl⟩⟩
          case round =>
            obtain ⟨j, k, x, l, rfl, rfl, hk, hj, hx, hr, ht⟩ := hrel
            by_cases hl : j < b.size
            · have Hd := Lib.hid (drop_byte b j hl)
              by_cases hc : (b[j]'hl).toNat = 46
              · have q2 : (((b[j]'hl).toNat : Int) == 46) = true := by simp [hc]
                have Hc := Lib.hid hc
                clear hc
                go_wp2_with fail
                refine ⟨⟨j + 1, j + 1, b.extract (j + 1) b.size, l ++ [piece b k j], by go_num, rfl, by omega, by omega, ⟨extract_list b (j + 1)⟩, ⟨?_⟩, ⟨.inr ⟨by omega, Hc.out⟩⟩⟩, by simp [intOf]; omega⟩
                rw [← hr.out, Hd.out, split_at _ _ _ _ (by rw [dot_at, beq_iff_eq]; exact UInt8.toNat_inj.1 Hc.out), piece_self, glue_nil _ (splitL_ne _ _), List.append_assoc]
                rfl
              · have q2 : (((b[j]'hl).toNat : Int) == 46) = false := by simp; omega
                have Hc := Lib.hid hc
                clear hc
                go_wp2_with fail
                refine ⟨⟨j + 1, k, x, l, by go_num, rfl, by omega, by omega, hx, ⟨?_⟩, ht⟩, by simp [intOf]; omega⟩
                rw [← hr.out, Hd.out, split_on _ _ _ _ (by rw [dot_at, beq_eq_false_iff_ne]; intro h; exact Hc.out (by rw [h]; rfl)), piece_step b k j hk hl]
            · obtain rfl : j = b.size := by omega
              have hs : splitL (isAt ⟨#[46]⟩) b.data.toList = l ++ [x.data.toList] := by
                rw [← hr.out, List.drop_of_length_le (by simp), hx.out]
                simp [splitL, glue, piece_end]
              have hne : x.data.toList ≠ [] := by
                rw [hx.out]
                intro h
                have hk2 : b.size ≤ k := by
                  have := congrArg List.length h
                  simp at this
                  omega
                rcases ht.out with rfl | ⟨h', h''⟩
                · rw [List.drop_zero] at h
                  exact H3.out h
                · have : k - 1 = m := by have := HM.out; omega
                  subst this
                  exact H46.out h''
              have hxs : x.size ≤ 300 := by rw [← bsize, hx.out]; simp; omega
              have E1 := Lib.hid (ends_of _ l _ hne hs)
              have E2 := Lib.hid (ends_point _ l _ hs)
              have E3 := Lib.hid (ends_ahead a.data.toList _ l _ hne hs)
              have E4 := Lib.hid (ends_last _ l _ hne hs)
              have E5 := Lib.hid (ends_two b.data.toList)
              have z1 : (b ++ ⟨#[46]⟩).size ≤ 1000 := by rw [← bsize, app_data]; simp; omega
              have z2 : (a ++ ⟨#[46]⟩ ++ b).size ≤ 1000 := by rw [← bsize, app_data, app_data]; simp; omega
              have z3 : (b ++ ⟨#[46, 46]⟩).size ≤ 1000 := by rw [← bsize, app_data]; simp; omega
              have D1 := Lib.hid (show (b ++ ⟨#[46]⟩).data.toList = b.data.toList ++ [46] by rw [app_data])
              have D2 := Lib.hid (show (a ++ ⟨#[46]⟩ ++ b).data.toList = a.data.toList ++ 46 :: b.data.toList by rw [app_data, app_data]; simp)
              have D3 := Lib.hid (show (b ++ ⟨#[46, 46]⟩).data.toList = b.data.toList ++ [46, 46] by rw [app_data])
              clear hs hne hx hr ht hk
              go_wp2_with fail
              refine (Ends_calls _ _ (by omega)).mono ?_
              rintro e w2 ⟨rfl, b2⟩
              rw [D1.out, E2.out]
              go_wp2_with fail
              refine (Ends_calls _ _ (by omega)).mono ?_
              rintro e w3 ⟨rfl, b3⟩
              rw [E1.out]
              go_wp2_with fail
              refine (Ends_calls _ _ (by omega)).mono ?_
              rintro e w4 ⟨rfl, b4⟩
              rw [D2.out, E3.out]
              go_wp2_with fail
              refine (Ends_calls _ _ (by omega)).mono ?_
              rintro e w5 ⟨rfl, b5⟩
              rw [E1.out]
              go_wp2_with fail
              refine (Ends_calls _ _ (by omega)).mono ?_
              rintro e w6 ⟨rfl, b6⟩
              rw [E4.out]
              go_wp2_with fail
              refine (Ends_calls _ _ (by omega)).mono ?_
              rintro e w7 ⟨rfl, b7⟩
              rw [E1.out]
              go_wp2_with fail
              refine (Ends_calls _ _ (by decide)).mono ?_
              rintro e w8 ⟨rfl, b8⟩
              rw [show endsL (ByteArray.mk #[]).data.toList = false from rfl]
              go_wp2_with fail
              refine (Ends_calls _ _ (by omega)).mono ?_
              rintro e w9 ⟨rfl, b9⟩
              rw [D3.out, E5.out]
              go_wp2_with fail
              go_ret
              have B2 := below_then HB.out HB.out.size b2
              have B3 := below_then B2 B2.size b3
              have B4 := below_then B3 B3.size b4
              have B5 := below_then B4 B4.size b5
              have B6 := below_then B5 B5.size b6
              have B7 := below_then B6 B6.size b7
              have B8 := below_then B7 B7.size b8
              exact ⟨rfl, below_then B8 B8.size b9⟩
    · go_enter Try.func5, Try.ntmps5
      go_wp2_with fail
      refine (awake3_calls _).mono ?_
      rintro e w1 ⟨rfl, b1⟩
      go_wp2_with fail
      go_ret
      exact ⟨rfl, b1⟩
  · go_enter Try.func5, Try.ntmps5
    go_wp2_with fail
    refine (awake3_calls _).mono ?_
    rintro e w1 ⟨rfl, b1⟩
    go_wp2_with fail
    go_ret
    exact ⟨rfl, b1⟩
end Go.Proofs.Ytajcndaealonbaa
