/- The law NumberBack, walked. -/
import Derived.Test.YtajcndaealonbaaDoorFmtB
import Derived.Test.YtajcndaealonbaaDoorRDecim
namespace Go.Proofs.YtajcndaealonbaaDoor
open Go.RowKit Go.ChangeShapes Go.Proofs.YtajcndaealonbaaDoorW.PrintWords Go.Proofs.YtajcndaealonbaaDoorW.PrintMore

theorem digB_len (b : Nat) (hb : 2 ≤ b) (u : Nat) : ∀ k, u < 2 ^ k → (digB b u).length ≤ k + 1 := by
  refine digB_ind b hb (fun u => ∀ k, u < 2 ^ k → (digB b u).length ≤ k + 1) (fun u h k _ => ?_) (fun u h ih k hk => ?_) u
  · rw [digB_small h]
    simp
  · rw [digB_big hb h, List.length_append, List.length_singleton]
    rcases k with _ | k
    · simp at hk
      omega
    · have h1 : u / b ≤ u / 2 := Nat.div_le_div_left hb (by omega)
      have h2 : u / 2 < 2 ^ k := by rw [Nat.pow_succ] at hk; omega
      have := ih k (by omega)
      omega
theorem FormatUint_ex (b : Nat) (hb : b = 8 ∨ b = 10 ∨ b = 16) (u : Nat) (hu : u < 18446744073709551616) (w : World) (hP : Pows w) (hT : Debr w) :
    Calls Tryd.prog 18 #[.int .u64 u, .int .i64 b] w fun e w' => ∃ y : ByteArray, Aside0 (y.data.toList = digB b u) ∧ y.size ≤ 65 ∧ e = .returned (.string y) ∧ Aside0 (Below w.heap.size w w') := by
  refine (FormatUint_calls b hb u hu w hP hT).mono ?_
  rintro e w1 ⟨rfl, hb'⟩
  refine ⟨_, ⟨rfl⟩, ?_, rfl, ⟨hb'⟩⟩
  have := digB_len b (by omega) u 64 (by omega)
  rw [mk_size]
  omega
theorem parse_is (l : List UInt8) (n : Int) (h : parseL l = some n) : parseN l = n ∧ parseOk l = true := by
  rw [parseN, parseOk, h]
  exact ⟨rfl, rfl⟩

theorem sz1 (a : UInt8) (z : ByteArray) (n : Nat) (h : z.size + 1 ≤ n) : ((ByteArray.mk #[a]) ++ z).size ≤ n := by
  rw [ByteArray.size_append]
  have : (ByteArray.mk #[a]).size = 1 := rfl
  omega
theorem sz2 (a b : UInt8) (z : ByteArray) (n : Nat) (h : z.size + 2 ≤ n) : ((ByteArray.mk #[a, b]) ++ z).size ≤ n := by
  rw [ByteArray.size_append]
  have : (ByteArray.mk #[a, b]).size = 2 := rfl
  omega
theorem sz5 (a b c d e : UInt8) (z : ByteArray) (n : Nat) (h : z.size + 5 ≤ n) : ((ByteArray.mk #[a, b]) ++ (ByteArray.mk #[c, d]) ++ z ++ (ByteArray.mk #[e])).size ≤ n := by
  simp only [ByteArray.size_append]
  have h1 : (ByteArray.mk #[a, b]).size = 2 := rfl
  have h2 : (ByteArray.mk #[c, d]).size = 2 := rfl
  have h3 : (ByteArray.mk #[e]).size = 1 := rfl
  omega
theorem dat1 (a : UInt8) (z : ByteArray) : ((ByteArray.mk #[a]) ++ z).data.toList = a :: z.data.toList := by
  rw [ByteArray.data_append]; simp
theorem dat2 (a b : UInt8) (z : ByteArray) : ((ByteArray.mk #[a, b]) ++ z).data.toList = a :: b :: z.data.toList := by
  rw [ByteArray.data_append]; simp
theorem dat5 (a b c d e : UInt8) (z : ByteArray) : ((ByteArray.mk #[a, b]) ++ (ByteArray.mk #[c, d]) ++ z ++ (ByteArray.mk #[e])).data.toList = a :: b :: c :: d :: (z.data.toList ++ [e]) := by
  simp only [ByteArray.data_append]; simp

set_option maxHeartbeats 8000000 in
set_option maxRecDepth 100000 in
theorem NumberBack_calls (u : Nat) (hu : u < 18446744073709551616) (great : Bool) (w : World) (hP : Pows w) (hT : Debr w) (hE : Errs w) :
    Calls Tryd.prog 6 #[.int .u64 u, .bool great] w fun e w' => e = .returned (.bool true) ∧ Below w.heap.size w w' := by
  have HW : Aside0 (∀ (w2 : World), Below w.heap.size w w2 → Pows w2 ∧ Debr w2 ∧ Errs w2) := ⟨fun w2 hb => ⟨hP.stays hb, hT.stays hb, hE.stays hb⟩⟩
  clear hP hT hE
  have hwant : ∃ want : Int, min (u : Int) 1099511627776 = want ∧ (if (1099511627776 : Int) < (u : Int) then (1099511627776 : Int) else (u : Int)) = want ∧ 0 ≤ want ∧ want ≤ 1099511627776 := ⟨_, rfl, by split <;> omega, by omega, by omega⟩
  obtain ⟨want, hw, hif, hw0, hw1⟩ := hwant
  obtain ⟨dv, dk, hdv⟩ : ∃ (dv : Int) (dk : Bool), ((u : Int) ≤ 4611686018427387904 ∧ dv = u ∧ dk = true) ∨ (4611686018427387904 < (u : Int) ∧ dv = 0 ∧ dk = false) := by
    rcases Int.lt_or_le 4611686018427387904 (u : Int) with h | h
    · exact ⟨0, false, .inr ⟨h, rfl, rfl⟩⟩
    · exact ⟨u, true, .inl ⟨h, rfl, rfl⟩⟩
  have h10 : Aside0 (∀ l, l = digB 10 u → parseN l = want ∧ parseOk l = true) := ⟨fun l h => parse_is l want (by rw [h, parse_dec, hw])⟩
  have h8 : Aside0 (∀ l, l = digB 8 u → parseN (48 :: l) = want ∧ parseOk (48 :: l) = true) := ⟨fun l h => parse_is _ want (by rw [h, parse_oct, hw])⟩
  have h16 : Aside0 (∀ l c, l = digB 16 u → c = 120 ∨ c = 88 → parseN (48 :: c :: l) = want ∧ parseOk (48 :: c :: l) = true) := ⟨fun l c h hc => parse_is _ want (by rw [h, parse_hex _ _ hc, hw])⟩
  have hD : Aside0 (∀ l, l = digB 10 u → decN l 4611686018427387904 = dv ∧ decOk l 4611686018427387904 = dk) := ⟨fun l h => by
    subst h
    rcases hdv with ⟨h1, rfl, rfl⟩ | ⟨h1, rfl, rfl⟩
    · have := plain_some (digB 10 u) 4611686018427387904 (plain_dig u) (by rw [decV_dig]; exact h1)
      rw [decV_dig] at this
      exact this
    · exact plain_big (digB 10 u) 4611686018427387904 (by rw [decV_dig]; exact h1)⟩
  have hD0 : Aside0 (∀ l, l = digB 10 u → decN (48 :: l) 4611686018427387904 = 0 ∧ decOk (48 :: l) 4611686018427387904 = false) := ⟨fun l h => by
    subst h
    exact plain_none _ _ (plain_nought u)⟩
  have hE0 : Aside0 (∀ l, l = digB 10 u → endsL l = true) := ⟨fun l h => by rw [h]; exact ends_dec u⟩
  have hE1 : Aside0 (∀ l c, l = digB 16 u → c = 120 ∨ c = 88 → endsL (97 :: 46 :: 48 :: c :: (l ++ [46])) = true) := ⟨fun l c h hc => by rw [h]; exact ends_hex u c hc⟩
  clear hw
  go_enter Tryd.func6, Tryd.ntmps6
  go_wp2_with fail
  refine (awake3_calls _).mono ?_
  rintro e w1 ⟨rfl, b1⟩
  have B1 := Aside0.mk b1
  clear b1
  go_wp2_with fail
  refine (FormatUint_ex 16 (by omega) u hu _ (HW.out _ B1.out).1 (HW.out _ B1.out).2.1).mono ?_
  rintro e w2 ⟨y, hy, hys, rfl, b2⟩
  have B2 := Aside0.mk (below_then B1.out B1.out.size b2.out)
  clear b2
  go_upto_if 24 with (fail)
  go_cut [6] from 18 (fun s6 wz => ∃ c : UInt8, s6 = .string ⟨#[48, c]⟩ ∧ (c = 120 ∨ c = 88) ∧ wz = w2)
  case first =>
    cases great
    · go_wp2_with fail
      go_meet
      case rel => exact ⟨120, rfl, .inl rfl, rfl⟩
    · go_wp2_with fail
      go_meet
      case rel => exact ⟨88, rfl, .inr rfl, rfl⟩
  case rest =>
  obtain ⟨c, rfl, hc, rfl⟩ := hcut
  have HC := Lib.hid hc
  clear hc
  go_wp2_with fail
  refine (FormatUint_ex 10 (by omega) u hu _ (HW.out _ B2.out).1 (HW.out _ B2.out).2.1).mono ?_
  rintro e w3 ⟨z1, hz1, hzs1, rfl, b3⟩
  have B3 := Aside0.mk (below_then B2.out B2.out.size b3.out)
  clear b3
  go_wp2_with fail
  refine (Parse_calls z1 (by omega) _).mono ?_
  rintro e w4 ⟨rfl, b4⟩
  have B4 := Aside0.mk (below_then B3.out B3.out.size b4)
  clear b4
  rw [(h10.out _ hz1.out).1, (h10.out _ hz1.out).2]
  go_wp2_with fail
  refine (FormatUint_ex 8 (by omega) u hu _ (HW.out _ B4.out).1 (HW.out _ B4.out).2.1).mono ?_
  rintro e w5 ⟨z2, hz2, hzs2, rfl, b5⟩
  have B5 := Aside0.mk (below_then B4.out B4.out.size b5.out)
  clear b5
  go_wp2_with fail
  refine (Parse_calls _ (sz1 _ _ _ (by omega)) _).mono ?_
  rintro e w6 ⟨rfl, b6⟩
  have B6 := Aside0.mk (below_then B5.out B5.out.size b6)
  clear b6
  rw [dat1, (h8.out _ hz2.out).1, (h8.out _ hz2.out).2]
  go_wp2_with fail
  refine (Parse_calls _ (sz2 _ _ _ _ (by omega)) _).mono ?_
  rintro e w7 ⟨rfl, b7⟩
  have B7 := Aside0.mk (below_then B6.out B6.out.size b7)
  clear b7
  rw [dat2, (h16.out _ _ hy.out HC.out).1, (h16.out _ _ hy.out HC.out).2]
  go_wp2_with fail
  refine (FormatUint_ex 10 (by omega) u hu _ (HW.out _ B7.out).1 (HW.out _ B7.out).2.1).mono ?_
  rintro e w8 ⟨z3, hz3, hzs3, rfl, b8⟩
  have B8 := Aside0.mk (below_then B7.out B7.out.size b8.out)
  clear b8
  go_wp2_with fail
  refine (Decimal_calls z3 (by omega) 4611686018427387904 (by omega) _ ⟨(HW.out _ B8.out).2.2⟩).mono ?_
  rintro e w9 ⟨rfl, b9⟩
  have B9 := Aside0.mk (below_then B8.out B8.out.size b9)
  clear b9
  rw [(hD.out _ hz3.out).1, (hD.out _ hz3.out).2]
  go_wp2_with fail
  refine (FormatUint_ex 10 (by omega) u hu _ (HW.out _ B9.out).1 (HW.out _ B9.out).2.1).mono ?_
  rintro e wa ⟨z4, hz4, hzs4, rfl, ba⟩
  have BA := Aside0.mk (below_then B9.out B9.out.size ba.out)
  clear ba
  go_wp2_with fail
  refine (Decimal_calls _ (sz1 _ _ _ (by omega)) 4611686018427387904 (by omega) _ ⟨(HW.out _ BA.out).2.2⟩).mono ?_
  rintro e wb ⟨rfl, bb⟩
  have BB := Aside0.mk (below_then BA.out BA.out.size bb)
  clear bb
  rw [dat1, (hD0.out _ hz4.out).1, (hD0.out _ hz4.out).2]
  rcases hdv with ⟨h1, rfl, rfl⟩ | ⟨h1, rfl, rfl⟩
  all_goals
    go_wp2_with fail
    refine (Ends_calls _ _ ?_).mono ?_
    · exact sz5 _ _ _ _ _ _ _ (by omega)
    rintro e wc ⟨rfl, bc⟩
    have BC := Aside0.mk (below_then BB.out BB.out.size bc)
    clear bc
    rw [dat5, hE1.out _ _ hy.out HC.out]
    go_wp2_with fail
    refine (FormatUint_ex 10 (by omega) u hu _ (HW.out _ BC.out).1 (HW.out _ BC.out).2.1).mono ?_
    rintro e wd ⟨z5, hz5, hzs5, rfl, bd⟩
    have BD := Aside0.mk (below_then BC.out BC.out.size bd.out)
    clear bd
    go_wp2_with fail
    refine (Ends_calls z5 _ (by omega)).mono ?_
    rintro e we ⟨rfl, be⟩
    have BE := Aside0.mk (below_then BD.out BD.out.size be)
    clear be
    rw [hE0.out _ hz5.out]
    go_wp2_with fail
    go_ret
    exact ⟨by first | rfl | exact ret_bool (by simp; try omega), BE.out⟩
theorem NumberBack_row (n : Int) (great : Bool) (w : World) (hw : (Lit.int .u64 n).wf = true) (hP : Aside0 (Pows w)) (hT : Aside0 (Debr w)) (hE : Aside0 (Errs w)) :
    Calls Tryd.prog 6 #[.int .u64 n, .bool great] w fun e w' => e = .returned (.bool true) ∧ Below w.heap.size w w' := by
  have h := wf_u64 hw
  obtain ⟨u, rfl⟩ : ∃ u : Nat, n = u := ⟨n.toNat, by omega⟩
  exact NumberBack_calls u (by omega) great w hP.out hT.out hE.out
end Go.Proofs.YtajcndaealonbaaDoor
