/- Addresses of four bytes: built of bytes, told as bytes, written. -/
import Derived.Test.YtfcnfkedoihpoaaDoorStrict
import Derived.Test.YtfcnfkedoihpoaaDoorFmt
namespace Go.Proofs.YtfcnfkedoihpoaaDoor
open Go.RowKit Go.Proofs.YtfcnfkedoihpoaaDoorW.PrintWords Go.Proofs.YtfcnfkedoihpoaaDoorW.PrintMore

theorem Of_calls (a b c d : Int) (ha : 0 ≤ a ∧ a ≤ 255) (hb : 0 ≤ b ∧ b ≤ 255) (hc : 0 ≤ c ∧ c ≤ 255) (hd : 0 ≤ d ∧ d ≤ 255) (w : World) :
    Calls Tryd.prog 24 #[.int .u8 a, .int .u8 b, .int .u8 c, .int .u8 d] w fun e w' => e = .returned (.int .u32 (((a * 256 + b) * 256 + c) * 256 + d)) ∧ w = w' := by
  have h1 := or_u32 24 a (b * 65536) (by omega) (by omega) (by simp only [Int.reducePow]; omega) (by simp only [Int.reducePow]; omega) (by omega)
  have h2 := or_u32 16 (a * 256 + b) (c * 256) (by omega) (by omega) (by simp only [Int.reducePow]; omega) (by simp only [Int.reducePow]; omega) (by omega)
  have h3 := or_u32 8 ((a * 256 + b) * 256 + c) d (by omega) (by omega) (by simp only [Int.reducePow]; omega) (by simp only [Int.reducePow]; omega) (by omega)
  simp only [Int.reducePow] at h1 h2 h3
  rw [show (a * 256 + b) * 65536 = a * 16777216 + b * 65536 by omega] at h2
  rw [show ((a * 256 + b) * 256 + c) * 256 = a * 16777216 + b * 65536 + c * 256 by omega] at h3
  go_enter Tryd.func24, Tryd.ntmps24
  go_wp2_with fail
  go_ret
  exact ⟨congrArg (fun z => Ending.returned (.int .u32 z)) (by omega), rfl⟩
theorem Bytes_calls (n : Int) (h0 : 0 ≤ n) (h1 : n < 4294967296) (w : World) :
    Calls Tryd.prog 22 #[.int .u32 n] w fun e w' => e = .returned (.agg #[.int .u8 (n / 16777216), .int .u8 (n / 65536 % 256), .int .u8 (n / 256 % 256), .int .u8 (n % 256)]) ∧ Below w.heap.size w w' := by
  go_enter Tryd.func22, Tryd.ntmps22
  go_wp2_with fail
  refine bodyPost_ret (results_cell_row rfl _ _ w.heap.size 31 _ (0, 0) _ rfl (heap_alloc_new _ _) Tryd.underlying31 rfl (by kernel_rfl)) rfl ?_
  exact ⟨rfl, (Below.refl _ _).alloc (Nat.le_refl _) _⟩
theorem Wide_calls (n : Int) (h0 : 0 ≤ n) (h1 : n < 4294967296) (w : World) :
    Calls Tryd.prog 23 #[.int .u32 n] w fun e w' => e = .returned (.tuple #[.int .u64 0, .int .u64 (281470681743360 + n)]) ∧ w = w' := by
  have h1 := or_u64 32 65535 n (by omega) (by omega) (by simp only [Int.reducePow]; omega) (by decide) (by omega)
  simp only [Int.reducePow, Int.reduceMul] at h1
  go_enter Tryd.func23, Tryd.ntmps23
  go_wp2_with fail
  go_ret2
  exact ⟨rfl, rfl⟩

def fourPre (n : Nat) : Nat → List UInt8
  | 0 => []
  | 1 => digB 10 (n / 16777216)
  | 2 => digB 10 (n / 16777216) ++ 46 :: digB 10 (n / 65536 % 256)
  | 3 => digB 10 (n / 16777216) ++ 46 :: (digB 10 (n / 65536 % 256) ++ 46 :: digB 10 (n / 256 % 256))
  | _ => fourT n
/-- An address, written. -/
def fourB (n : Nat) : ByteArray := ⟨(fourT n).toArray⟩
theorem bytes_of (z : ByteArray) (l : List UInt8) (h : z.data.toList = l) : z = ⟨l.toArray⟩ := by
  subst h
  rfl
theorem fourB_list (n : Nat) : (fourB n).data.toList = fourT n := rfl
theorem fourB_size (n : Nat) (hn : n < 4294967296) : (fourB n).size ≤ 200 := by
  have h (u : Nat) (hu : u < 1099511627776) : (digB 10 u).length ≤ 41 := digB_len 10 (by omega) u 40 hu
  rw [fourB, mk_size, fourT]
  simp only [List.length_append, List.length_cons]
  have h1 := h (n / 16777216) (by omega)
  have h2 := h (n / 65536 % 256) (by omega)
  have h3 := h (n / 256 % 256) (by omega)
  have h4 := h (n % 256) (by omega)
  omega
theorem sz_cat (a b : ByteArray) (m n k : Nat) (ha : a.size ≤ m) (hb : b.size ≤ n) (h : m + n ≤ k) : (a ++ b).size ≤ k := by
  rw [ByteArray.size_append]
  omega
theorem dat_cat (a b : ByteArray) : (a ++ b).data.toList = a.data.toList ++ b.data.toList := by simp
theorem Byte10_calls (u : Int) (h0 : 0 ≤ u) (h1 : u < 256) (w : World) (hP : Pows w) :
    Calls Tryd.prog 49 #[.int .i64 u] w fun e w' => (∃ D : ByteArray, e = .returned (.string D) ∧ D.size ≤ 9 ∧ Aside0 (D.data.toList = digB 10 u.toNat)) ∧ Below w.heap.size w w' := by
  refine (Itoa_calls u h0 (by omega) w hP).mono ?_
  rintro e w' ⟨rfl, hb⟩
  refine ⟨⟨_, rfl, ?_, ⟨?_⟩⟩, hb⟩
  · rw [mk_size, dec_eq]
    exact digB_len 10 (by omega) _ 8 (by omega)
  · rw [← dec_eq]
theorem pre_0 (n : Nat) (z D : ByteArray) (hz : z.data.toList = fourPre n 0) (hD : D.data.toList = digB 10 ((n : Int) / 16777216).toNat) : (z ++ D).data.toList = fourPre n 1 := by
  rw [dat_cat, hz, hD, show ((n : Int) / 16777216).toNat = n / 16777216 by omega]
  rfl
theorem dat_dot (z D : ByteArray) : (z ++ ⟨#[46]⟩ ++ D).data.toList = z.data.toList ++ 46 :: D.data.toList := by
  rw [dat_cat, dat_cat, List.append_assoc]
  rfl
theorem pre_1 (n : Nat) (z D : ByteArray) (hz : z.data.toList = fourPre n 1) (hD : D.data.toList = digB 10 ((n : Int) / 65536 % 256).toNat) : (z ++ ⟨#[46]⟩ ++ D).data.toList = fourPre n 2 := by
  rw [dat_dot, hz, hD, show ((n : Int) / 65536 % 256).toNat = n / 65536 % 256 by omega]
  rfl
theorem pre_2 (n : Nat) (z D : ByteArray) (hz : z.data.toList = fourPre n 2) (hD : D.data.toList = digB 10 ((n : Int) / 256 % 256).toNat) : (z ++ ⟨#[46]⟩ ++ D).data.toList = fourPre n 3 := by
  rw [dat_dot, hz, hD, show ((n : Int) / 256 % 256).toNat = n / 256 % 256 by omega]
  simp [fourPre]
theorem pre_3 (n : Nat) (z D : ByteArray) (hz : z.data.toList = fourPre n 3) (hD : D.data.toList = digB 10 ((n : Int) % 256).toNat) : (z ++ ⟨#[46]⟩ ++ D).data.toList = fourPre n 4 := by
  rw [dat_dot, hz, hD, show ((n : Int) % 256).toNat = n % 256 by omega]
  simp [fourPre, fourT]

theorem idx4 (a b c d : Value) (j : Nat) (hj : j < 4) (w : World) : (Instr.index 31 (.agg #[a, b, c, d]) (.int .i64 j)).run Tryd.prog w = .ok (#[a, b, c, d].getD j undef) w := by
  have hs := Tryd.sizeOf5
  have ha := Tryd.isAgg5
  have h4 : (0 : Int) ≤ (j : Int) ∧ (j : Int) < ((4 : Nat) : Int) := by omega
  have hj4 : j = 0 ∨ j = 1 ∨ j = 2 ∨ j = 3 := by omega
  rcases hj4 with rfl | rfl | rfl | rfl <;> simp [Instr.index, run_underlying Tryd.underlying31, asIntOf, go_sem, part, hs, ha]
set_option maxHeartbeats 1000000 in
set_option maxRecDepth 100000 in
theorem Text_calls (n : Nat) (hn : n < 4294967296) (w : World) (hP : Aside0 (Pows w)) :
    Calls Tryd.prog 21 #[.int .u32 n] w fun e w' => e = .returned (.string (fourB n)) ∧ Below w.heap.size w w' := by
  go_enter Tryd.func21, Tryd.ntmps21
  go_wp2_with fail
  refine (Bytes_calls n (by omega) (by omega) _).mono ?_
  rintro e w1 ⟨rfl, b1⟩
  have HB := Aside0.mk b1
  clear b1
  go_wp2_with fail
  go_loopw [3, 8] (fun ss i wr => ∃ (j : Nat) (z : ByteArray), i = .int .i64 j ∧ ss = .string z ∧ j ≤ 4 ∧ z.size ≤ 20 * j ∧ Aside0 (z.data.toList = fourPre n j) ∧ Aside0 (Below w.heap.size w wr)) (fun _ i _ => 4 - (intOf i).toNat)
  case atStart => exact ⟨0, _, rfl, rfl, by omega, by decide, ⟨rfl⟩, ⟨HB.out⟩⟩
  case round =>
    obtain ⟨j, z, rfl, rfl, hj, hz, hd, hbw⟩ := hrel
    by_cases hlt : j < 4
    · have q0 := idx4 (.int .u8 ((n : Int) / 16777216)) (.int .u8 ((n : Int) / 65536 % 256)) (.int .u8 ((n : Int) / 256 % 256)) (.int .u8 ((n : Int) % 256)) 0 (by omega)
      have q1 := idx4 (.int .u8 ((n : Int) / 16777216)) (.int .u8 ((n : Int) / 65536 % 256)) (.int .u8 ((n : Int) / 256 % 256)) (.int .u8 ((n : Int) % 256)) 1 (by omega)
      have q2 := idx4 (.int .u8 ((n : Int) / 16777216)) (.int .u8 ((n : Int) / 65536 % 256)) (.int .u8 ((n : Int) / 256 % 256)) (.int .u8 ((n : Int) % 256)) 2 (by omega)
      have q3 := idx4 (.int .u8 ((n : Int) / 16777216)) (.int .u8 ((n : Int) / 65536 % 256)) (.int .u8 ((n : Int) / 256 % 256)) (.int .u8 ((n : Int) % 256)) 3 (by omega)
      simp only [Int.cast_ofNat_Int, Array.getD_eq_getD_getElem?] at q0 q1 q2 q3
      have hj4 : j = 0 ∨ j = 1 ∨ j = 2 ∨ j = 3 := by omega
      rcases hj4 with rfl | rfl | rfl | rfl
      · go_wp2_with fail
        refine (Byte10_calls _ (by omega) (by omega) _ (hP.out.stays hbw.out)).mono ?_
        rintro e w2 ⟨⟨D, rfl, hDs, hDd⟩, b2⟩
        have B2 := Aside0.mk (below_then hbw.out hbw.out.size b2)
        clear b2
        go_wp2_with fail
        go_roundw
        case rel => exact ⟨1, _, rfl, rfl, by omega, sz_cat z D 0 9 20 hz hDs (by omega), ⟨pre_0 n z D hd.out hDd.out⟩, B2⟩
        case measure => simp [intOf]
      · go_wp2_with fail
        refine (Byte10_calls _ (by omega) (by omega) _ (hP.out.stays hbw.out)).mono ?_
        rintro e w2 ⟨⟨D, rfl, hDs, hDd⟩, b2⟩
        have B2 := Aside0.mk (below_then hbw.out hbw.out.size b2)
        clear b2
        go_wp2_with fail
        go_roundw
        case rel => exact ⟨2, _, rfl, rfl, by omega, sz_cat _ D 21 9 40 (sz_cat z ⟨#[46]⟩ 20 1 21 hz (by decide) (by omega)) hDs (by omega), ⟨pre_1 n z D hd.out hDd.out⟩, B2⟩
        case measure => simp [intOf]
      · go_wp2_with fail
        refine (Byte10_calls _ (by omega) (by omega) _ (hP.out.stays hbw.out)).mono ?_
        rintro e w2 ⟨⟨D, rfl, hDs, hDd⟩, b2⟩
        have B2 := Aside0.mk (below_then hbw.out hbw.out.size b2)
        clear b2
        go_wp2_with fail
        go_roundw
        case rel => exact ⟨3, _, rfl, rfl, by omega, sz_cat _ D 41 9 60 (sz_cat z ⟨#[46]⟩ 40 1 41 hz (by decide) (by omega)) hDs (by omega), ⟨pre_2 n z D hd.out hDd.out⟩, B2⟩
        case measure => simp [intOf]
      · go_wp2_with fail
        refine (Byte10_calls _ (by omega) (by omega) _ (hP.out.stays hbw.out)).mono ?_
        rintro e w2 ⟨⟨D, rfl, hDs, hDd⟩, b2⟩
        have B2 := Aside0.mk (below_then hbw.out hbw.out.size b2)
        clear b2
        go_wp2_with fail
        go_roundw
        case rel => exact ⟨4, _, rfl, rfl, by omega, sz_cat _ D 61 9 80 (sz_cat z ⟨#[46]⟩ 60 1 61 hz (by decide) (by omega)) hDs (by omega), ⟨pre_3 n z D hd.out hDd.out⟩, B2⟩
        case measure => simp [intOf]
    · obtain rfl : j = 4 := by omega
      go_wp2_with fail
      go_ret
      exact ⟨congrArg (fun s => Ending.returned (.string s)) (bytes_of z _ hd.out), hbw.out⟩

set_option maxHeartbeats 1000000 in
theorem rText4_calls (n : Nat) (hn : n < 4294967296) (w : World) (hP : Aside0 (Pows w)) :
    Calls Tryd.prog 25 #[.int .u32 n] w fun e w' => e = .returned (.string (fourB n)) ∧ Below w.heap.size w w' := by
  go_enter Tryd.func25, Tryd.ntmps25
  go_wp2_with fail
  refine (Byte10_calls _ (by omega) (by omega) _ hP.out).mono ?_
  rintro e w1 ⟨⟨D1, rfl, hD1, hd1⟩, b1⟩
  have B1 := Aside0.mk b1
  clear b1
  go_wp2_with fail
  refine (Byte10_calls _ (by omega) (by omega) _ (hP.out.stays B1.out)).mono ?_
  rintro e w2 ⟨⟨D2, rfl, hD2, hd2⟩, b2⟩
  have B2 := Aside0.mk (below_then B1.out B1.out.size b2)
  have s1 : (D1 ++ ⟨#[46]⟩).size ≤ 20 := sz_cat D1 _ 9 1 20 hD1 (by decide) (by omega)
  have s2 : (D1 ++ ⟨#[46]⟩ ++ D2).size ≤ 40 := sz_cat _ D2 20 9 40 s1 hD2 (by omega)
  have s3 : (D1 ++ ⟨#[46]⟩ ++ D2 ++ ⟨#[46]⟩).size ≤ 60 := sz_cat _ _ 40 1 60 s2 (by decide) (by omega)
  clear b2
  go_wp2_with fail
  refine (Byte10_calls _ (by omega) (by omega) _ (hP.out.stays B2.out)).mono ?_
  rintro e w3 ⟨⟨D3, rfl, hD3, hd3⟩, b3⟩
  have B3 := Aside0.mk (below_then B2.out B2.out.size b3)
  have s4 : (D1 ++ ⟨#[46]⟩ ++ D2 ++ ⟨#[46]⟩ ++ D3).size ≤ 80 := sz_cat _ D3 60 9 80 s3 hD3 (by omega)
  have s5 : (D1 ++ ⟨#[46]⟩ ++ D2 ++ ⟨#[46]⟩ ++ D3 ++ ⟨#[46]⟩).size ≤ 100 := sz_cat _ _ 80 1 100 s4 (by decide) (by omega)
  clear b3
  go_wp2_with fail
  refine (Byte10_calls _ (by omega) (by omega) _ (hP.out.stays B3.out)).mono ?_
  rintro e w4 ⟨⟨D4, rfl, hD4, hd4⟩, b4⟩
  have B4 := Aside0.mk (below_then B3.out B3.out.size b4)
  clear b4
  go_wp2_with fail
  go_ret
  refine ⟨congrArg (fun s => Ending.returned (.string s)) (bytes_of _ _ ?_), B4.out⟩
  refine pre_3 n _ D4 (pre_2 n _ D3 (pre_1 n D1 D2 ?_ hd2.out) hd3.out) hd4.out
  rw [hd1.out, show ((n : Int) / 16777216).toNat = n / 16777216 by omega]
  rfl
end Go.Proofs.YtfcnfkedoihpoaaDoor
