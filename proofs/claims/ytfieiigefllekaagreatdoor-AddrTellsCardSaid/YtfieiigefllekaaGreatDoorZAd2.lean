/- Addresses of either sort: read, told as the document's; walked. -/
import Derived.Test.YtfieiigefllekaaGreatDoorZAdP
import Derived.Test.YtfieiigefllekaaGreatDoorJI
import Derived.Test.YtfieiigefllekaaGreatDoorJK
import Derived.Test.YtfieiigefllekaaGreatDoorJF
namespace Go.Proofs.YtfieiigefllekaaGreatDoor
open Go.RowKit Go.Proofs.YtfieiigefllekaaGreatDoorW.PrintWords Go.Proofs.YtfieiigefllekaaGreatDoorW.PrintMore

set_option maxRecDepth 100000 in
theorem refFour_calls (n : Int) (h0 : 0 ≤ n) (h1 : n < 4294967296) (w : World) :
    Calls Tryz.prog 71 #[.int .u32 n] w fun e w' => e = .returned (refV (some (false, 0, n))) ∧ Below w.heap.size w w' := by
  go_enter Tryz.func71, Tryz.ntmps71
  go_wp2_with fail
  refine bodyPost_ret (results_cell_row rfl _ _ w.heap.size 48 #[.bool false, .int .u64 0, .int .u64 (281470681743360 + n)] (0, 0) _ rfl (heap_alloc_new' _ _ _ rfl) Tryz.underlying48 rfl (by kernel_rfl)) rfl ?_
  exact ⟨rfl, (Below.refl _ _).alloc (Nat.le_refl _) _⟩
theorem heap_set3 {w : World} {g : Nat} {t : TypeId} {z0 z1 z2 : Value} (v0 v1 v2 : Value) (hg : w.heap[g]? = some (.cells #[z0, z1, z2] t (0, 0))) : (((w.setCell ⟨g, 0, none⟩ v0).setCell ⟨g, 1, none⟩ v1).setCell ⟨g, 2, none⟩ v2).heap[g]? = some (.cells #[v0, v1, v2] t (0, 0)) := by
  have h0 : (w.setCell ⟨g, 0, none⟩ v0).heap[g]? = some (.cells #[v0, z1, z2] t (0, 0)) := heap_setN v0 hg
  have h1 : ((w.setCell ⟨g, 0, none⟩ v0).setCell ⟨g, 1, none⟩ v1).heap[g]? = some (.cells #[v0, v1, z2] t (0, 0)) := heap_setN v1 h0
  exact heap_setN v2 h1
theorem below_set3 {B : Nat} {w w' : World} {g : Nat} (h : Below B w w') (hg : B ≤ g) (v0 v1 v2 : Value) : Below B w (((w'.setCell ⟨g, 0, none⟩ v0).setCell ⟨g, 1, none⟩ v1).setCell ⟨g, 2, none⟩ v2) := ((h.setCell hg _).setCell hg _).setCell hg _

theorem ret_ad {a b : Value} {c d : Bool} (h : a = b) (h' : c = d) : Ending.returned (.tuple #[a, .bool c]) = .returned (.tuple #[b, .bool d]) := by rw [h, h']
set_option maxHeartbeats 2000000 in
set_option maxRecDepth 100000 in
theorem AdParse_calls (s : ByteArray) (w : World) (hs : s.size ≤ 900000) (hE : Aside0 (Errs w)) (hM : Aside0 (Mx w)) :
    Calls Tryz.prog 24 #[.string s] w fun e w' => e = .returned (.tuple #[adVo (adOf s.data.toList), .bool (adOf s.data.toList).isSome]) ∧ Below w.heap.size w w' := by
  go_enter Tryz.func24, Tryz.ntmps24
  go_wp2_with fail
  refine (Strict_calls s _ hs hE).mono ?_
  rintro e w1 ⟨rfl, b1⟩
  by_cases h4 : strictOk s.data.toList = true
  · have HA := Lib.hid (show adOf s.data.toList = some (false, 0, strictN s.data.toList) from if_pos h4)
    rw [h4]
    go_wp2_with fail
    go_ret2
    exact ⟨ret_ad (by rw [HA.out]; rfl) (by rw [HA.out]; rfl), b1⟩
  · have hf : strictOk s.data.toList = false := by simpa using h4
    rw [hf]
    have H4 := Lib.hid h4
    clear h4
    go_wp2_with fail
    refine (SixParse_calls s _ hs ⟨hE.out.stays b1⟩ ⟨hM.out.stays b1⟩).mono ?_
    rintro e w2 ⟨rfl, b2⟩
    have B2 := Aside0.mk (below_then b1 b1.size b2)
    by_cases h6 : sixOk s.data.toList = true
    · have HA := Lib.hid (show adOf s.data.toList = some (true, sixHi s.data.toList, sixLo s.data.toList) by rw [adOf, if_neg H4.out, if_pos h6])
      rw [h6]
      generalize sixHi s.data.toList = hi at HA ⊢
      generalize sixLo s.data.toList = lo at HA ⊢
      go_wp2_with fail
      go_ret2
      exact ⟨ret_ad (by rw [HA.out]; rfl) (by rw [HA.out]; rfl), B2.out.alloc B2.out.size _⟩
    · have HA := Lib.hid (show adOf s.data.toList = none by rw [adOf, if_neg H4.out, if_neg h6])
      rw [show sixOk s.data.toList = false by simpa using h6]
      generalize sixHi s.data.toList = hi
      generalize sixLo s.data.toList = lo
      clear h6
      go_wp2_with fail
      go_ret2
      exact ⟨ret_ad (by rw [HA.out]; rfl) (by rw [HA.out]; rfl), B2.out.alloc B2.out.size _⟩

set_option maxHeartbeats 4000000 in
set_option maxRecDepth 100000 in
theorem refParse6_calls (s : ByteArray) (w : World) (hs : s.size ≤ 900000) :
    Calls Tryz.prog 25 #[.string s] w fun e w' => e = .returned (.tuple #[refV (adOf s.data.toList), .bool (adOf s.data.toList).isSome]) ∧ Below w.heap.size w w' := by
  have hval := strict_val s.data.toList
  go_enter Tryz.func25, Tryz.ntmps25
  go_wp2_with fail
  obtain ⟨W0, hW0⟩ : ∃ W0, W0 = w.alloc (.cells #[.bool false, .int .u64 0, .int .u64 0] 48) := ⟨_, rfl⟩
  try rw [← hW0]
  have hg0 : W0.heap[w.heap.size]? = some (.cells #[.bool false, .int .u64 0, .int .u64 0] 48 (0, 0)) := by rw [hW0]; exact heap_alloc_new' _ _ _ rfl
  have hl0 : w.heap.size < W0.heap.size := by rw [hW0]; simp
  have B0 : Below w.heap.size w W0 := by rw [hW0]; exact (Below.refl _ _).alloc (Nat.le_refl _) _
  clear hW0
  refine (rStrict_calls s _ hs).mono ?_
  rintro e w1 ⟨rfl, b1⟩
  have hg1 := (b1.block _ hl0).trans hg0
  have hl1 := Nat.lt_of_lt_of_le hl0 b1.size
  have B1 := below_then B0 B0.size b1
  clear B0 b1 hg0 hl0
  by_cases h4 : strictOk s.data.toList = true
  · have HA := Lib.hid (show adOf s.data.toList = some (false, 0, strictN s.data.toList) from if_pos h4)
    have hn : 0 ≤ strictN s.data.toList ∧ strictN s.data.toList < 4294967296 := by
      rcases hval with ⟨_, _, h3⟩ | ⟨n, hn, _, _, h3, _⟩ <;> rw [h3] <;> omega
    rw [h4]
    generalize strictN s.data.toList = n at HA hn ⊢
    clear hval h4
    go_wp2_with fail
    refine (refFour_calls n hn.1 hn.2 _).mono ?_
    rintro e w2 ⟨rfl, b2⟩
    have hg2 := (b2.block _ hl1).trans hg1
    have HB2 := Aside0.mk (below_then B1 B1.size b2)
    simp only [refV, adHi, adLo]
    obtain ⟨k0, f0⟩ := heap_cell (j := 0) hg2 rfl
    obtain ⟨k1, f1⟩ := heap_cell (j := 1) hg2 rfl
    obtain ⟨k2, f2⟩ := heap_cell (j := 2) hg2 rfl
    clear b2 hg1 B1
    go_wp2_with fail
    refine bodyPost_ret (results_cell_bool rfl _ _ w.heap.size 48 #[.bool false, .int .u64 0, .int .u64 (281470681743360 + n)] (0, 0) _ rfl (heap_set3 _ _ _ hg2) Tryz.underlying48 rfl (by kernel_rfl)) rfl ?_
    exact ⟨ret_ad (by rw [HA.out]; rfl) (by rw [HA.out]; rfl), below_set3 HB2.out (Nat.le_refl _) _ _ _⟩
  · have H4 := Lib.hid h4
    rw [show strictOk s.data.toList = false by simpa using h4]
    generalize strictN s.data.toList = n
    clear h4 hval
    go_wp2_with fail
    refine (rParse5_calls s _ hs).mono ?_
    rintro e w2 ⟨rfl, b2⟩
    have hg2 := (b2.block _ hl1).trans hg1
    have HB2 := Aside0.mk (below_then B1 B1.size b2)
    obtain ⟨k0, f0⟩ := heap_cell (j := 0) hg2 rfl
    obtain ⟨k1, f1⟩ := heap_cell (j := 1) hg2 rfl
    obtain ⟨k2, f2⟩ := heap_cell (j := 2) hg2 rfl
    clear b2 hg1 B1
    by_cases h6 : sixOk s.data.toList = true
    · have HA := Lib.hid (show adOf s.data.toList = some (true, sixHi s.data.toList, sixLo s.data.toList) by rw [adOf, if_neg H4.out, if_pos h6])
      rw [h6]
      generalize sixHi s.data.toList = hi at HA ⊢
      generalize sixLo s.data.toList = lo at HA ⊢
      go_wp2_with fail
      refine bodyPost_ret (results_cell_bool rfl _ _ w.heap.size 48 #[.bool true, .int .u64 hi, .int .u64 lo] (0, 0) _ rfl (heap_set3 _ _ _ hg2) Tryz.underlying48 rfl (by kernel_rfl)) rfl ?_
      exact ⟨ret_ad (by rw [HA.out]; rfl) (by rw [HA.out]; rfl), below_set3 HB2.out (Nat.le_refl _) _ _ _⟩
    · have HA := Lib.hid (show adOf s.data.toList = none by rw [adOf, if_neg H4.out, if_neg h6])
      rw [show sixOk s.data.toList = false by simpa using h6]
      generalize sixHi s.data.toList = hi
      generalize sixLo s.data.toList = lo
      clear h6
      go_wp2_with fail
      refine bodyPost_ret (results_cell_bool rfl _ _ w.heap.size 48 #[.bool false, .int .u64 0, .int .u64 0] (0, 0) _ rfl (heap_set3 _ _ _ hg2) Tryz.underlying48 rfl (by kernel_rfl)) rfl ?_
      exact ⟨ret_ad (by rw [HA.out]; rfl) (by rw [HA.out]; rfl), below_set3 HB2.out (Nat.le_refl _) _ _ _⟩

set_option maxHeartbeats 4000000 in
set_option maxRecDepth 100000 in
theorem AdOf_calls (o : Option (Bool × Int × Int)) (ho : ∀ a, o = some a → adOk a) (w : World) :
    Calls Tryz.prog 26 #[adVo o] w fun e w' => e = .returned (refV o) ∧ Below w.heap.size w w' := by
  have q1 := ta_44
  have q2 := ta_64
  have q3 := ta_04
  have q4 := ta_66
  have q5 := ta_06
  obtain ⟨W0, hW0⟩ : ∃ W0, W0 = w.alloc (.cells #[.bool false, .int .u64 0, .int .u64 0] 48) := ⟨_, rfl⟩
  have hg0 : W0.heap[w.heap.size]? = some (.cells #[.bool false, .int .u64 0, .int .u64 0] 48 (0, 0)) := by rw [hW0]; exact heap_alloc_new' _ _ _ rfl
  have hl0 : w.heap.size < W0.heap.size := by rw [hW0]; simp
  have B0 : Below w.heap.size w W0 := by rw [hW0]; exact (Below.refl _ _).alloc (Nat.le_refl _) _
  have HW0 := Lib.hid hW0
  clear hW0
  rcases o with _ | ⟨sx, hi, lo⟩
  · simp only [adVo]
    go_enter Tryz.func26, Tryz.ntmps26
    go_wp2_with fail
    refine bodyPost_ret (results_cell_row rfl _ _ w.heap.size 48 #[.bool false, .int .u64 0, .int .u64 0] (0, 0) _ rfl (by rw [heap_alloc_old' _ _ _ (by simp)]; exact heap_alloc_new' _ _ _ rfl) Tryz.underlying48 rfl (by kernel_rfl)) rfl ?_
    exact ⟨rfl, ((Below.refl _ _).alloc (Nat.le_refl _) _).alloc (by simp) _⟩
  · cases sx
    · obtain ⟨rfl, hn⟩ := ho _ rfl
      simp only [adVo, adV]
      go_enter Tryz.func26, Tryz.ntmps26
      go_wp2_with fail
      rw [← HW0.out]
      refine (refFour_calls lo hn.1 hn.2 _).mono ?_
      rintro e w2 ⟨rfl, b2⟩
      have hg2 := (b2.block _ hl0).trans hg0
      have HB2 := Aside0.mk (below_then B0 B0.size b2)
      simp only [refV, adHi, adLo]
      obtain ⟨k0, f0⟩ := heap_cell (j := 0) hg2 rfl
      obtain ⟨k1, f1⟩ := heap_cell (j := 1) hg2 rfl
      obtain ⟨k2, f2⟩ := heap_cell (j := 2) hg2 rfl
      clear b2 hg0 B0
      go_wp2_with fail
      refine bodyPost_ret (results_cell_row rfl _ _ w.heap.size 48 #[.bool false, .int .u64 0, .int .u64 (281470681743360 + lo)] (0, 0) _ rfl (heap_set3 _ _ _ hg2) Tryz.underlying48 rfl (by kernel_rfl)) rfl ?_
      exact ⟨rfl, below_set3 HB2.out (Nat.le_refl _) _ _ _⟩
    · simp only [adVo, adV]
      go_enter Tryz.func26, Tryz.ntmps26
      go_wp2_with fail
      refine bodyPost_ret (results_cell_row rfl _ _ w.heap.size 48 #[.bool true, .int .u64 hi, .int .u64 lo] (0, 0) _ rfl (by rw [heap_alloc_old' _ _ _ (by simp)]; exact heap_alloc_new' _ _ _ rfl) Tryz.underlying48 rfl (by kernel_rfl)) rfl ?_
      exact ⟨rfl, ((Below.refl _ _).alloc (Nat.le_refl _) _).alloc (by simp) _⟩
end Go.Proofs.YtfieiigefllekaaGreatDoor
