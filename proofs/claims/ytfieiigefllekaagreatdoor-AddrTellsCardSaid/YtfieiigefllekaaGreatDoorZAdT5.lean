/- An address's text, of either sort: what is written is read; the document's Text, walked. -/
import Derived.Test.YtfieiigefllekaaGreatDoorZAdT2
import Derived.Test.YtfieiigefllekaaGreatDoorZAdT4
import Derived.Test.YtfieiigefllekaaGreatDoorJK
import Derived.Test.YtfieiigefllekaaGreatDoorZAdP
import Derived.Test.YtfieiigefllekaaGreatDoorJF
namespace Go.Proofs.YtfieiigefllekaaGreatDoor
open Go.RowKit Go.Proofs.YtfieiigefllekaaGreatDoorW.PrintWords Go.Proofs.YtfieiigefllekaaGreatDoorW.PrintMore

/-- An address's text. -/
def adT : Bool × Int × Int → ByteArray
  | (true, hi, lo) => ⟨(textL6 (piecesOf hi lo)).toArray⟩
  | (false, _, n) => fourB n.toNat
theorem dig_colon (u : Nat) : ∀ c ∈ digB 10 u, c ≠ 58 := by
  intro c hc
  obtain ⟨d, hd, rfl⟩ := digB_mem 10 (by omega) u c hc
  exact hexCh_colon ⟨d, by omega⟩
theorem four_colon (n : Nat) : ∀ c ∈ fourT n, c ≠ 58 := by
  intro c hc
  simp only [fourT, List.mem_append, List.mem_cons] at hc
  rcases hc with h | rfl | h | rfl | h | rfl | h
  · exact dig_colon _ c h
  · decide
  · exact dig_colon _ c h
  · decide
  · exact dig_colon _ c h
  · decide
  · exact dig_colon _ c h
theorem six_has_colon (hi lo : Int) : (58 : UInt8) ∈ textL6 (piecesOf hi lo) := by
  rw [textL6]
  split
  · rw [piecesOf, words_cons]
    simp
  · simp
theorem six_strict (hi lo : Int) : strictOk (textL6 (piecesOf hi lo)) = false := by
  rcases strict_val (textL6 (piecesOf hi lo)) with ⟨_, h, _⟩ | ⟨n, _, _, _, _, h⟩
  · exact h
  · exact absurd rfl (four_colon n 58 (by rw [← h]; exact six_has_colon hi lo))
theorem six_text_back (hi lo : Int) (h0 : 0 ≤ hi ∧ hi < 18446744073709551616) (h1 : 0 ≤ lo ∧ lo < 18446744073709551616) : sixHi (textL6 (piecesOf hi lo)) = hi ∧ sixLo (textL6 (piecesOf hi lo)) = lo ∧ sixOk (textL6 (piecesOf hi lo)) = true := by
  have h := six_some (six_back (piecesOf hi lo) rfl (pieces_bd hi lo h0 h1))
  have hp := half_pieces hi lo
  rw [hp.1, hp.2] at h
  exact h
/-- What is written is read. -/
theorem ad_back (a : Bool × Int × Int) (ha : adOk a) : adOf (adT a).data.toList = some a := by
  obtain ⟨sx, hi, lo⟩ := a
  cases sx
  · obtain ⟨rfl, h0, h1⟩ := ha
    have e : (adT (false, 0, lo)).data.toList = fourT lo.toNat := fourB_list _
    have hs := strict_text lo.toNat (by omega)
    rw [e, adOf, if_pos (by rw [strictOk, hs]; rfl), strictN, hs]
    simp only [Option.getD_some]
    rw [Int.toNat_of_nonneg h0]
  · have e : (adT (true, hi, lo)).data.toList = textL6 (piecesOf hi lo) := rfl
    have hb := six_text_back hi lo ha.1 ha.2
    rw [e, adOf, if_neg (by rw [six_strict]; decide), if_pos hb.2.2, hb.1, hb.2.1]

set_option maxRecDepth 100000 in
theorem refInner4_calls (h l : Int) (w : World) : Calls Tryz.prog 44 #[.agg #[.bool false, .int .u64 h, .int .u64 l]] w fun e w' => e = .returned (.slice none 0 0) ∧ Below w.heap.size w w' := by
  obtain ⟨W0, hW0⟩ : ∃ W0, W0 = w.alloc (.cells #[.bool false, .int .u64 h, .int .u64 l] 48) := ⟨_, rfl⟩
  have hg : W0.heap[w.heap.size]? = some (.cells #[.bool false, .int .u64 h, .int .u64 l] 48 (0, 0)) := by rw [hW0]; exact heap_alloc_new' _ _ _ rfl
  have B0 : Aside0 (Below w.heap.size w W0) := ⟨by rw [hW0]; exact (Below.refl _ _).alloc (Nat.le_refl _) _⟩
  have HW := Lib.hid hW0
  obtain ⟨k0, _⟩ := heap_cell (j := 0) hg rfl
  clear hg hW0
  go_enter Tryz.func44, Tryz.ntmps44
  go_upto_region 2 with (fail)
  rw [← HW.out]
  go_wp2_with fail
  go_ret
  exact ⟨rfl, B0.out⟩
set_option maxRecDepth 100000 in
theorem Num_calls (n : Int) (h0 : 0 ≤ n) (h1 : n < 4294967296) (w : World) : Calls Tryz.prog 89 #[.agg #[.bool false, .int .u64 0, .int .u64 (281470681743360 + n)]] w fun e w' => e = .returned (.int .u32 n) ∧ Below w.heap.size w w' := by
  obtain ⟨W0, hW0⟩ : ∃ W0, W0 = w.alloc (.cells #[.bool false, .int .u64 0, .int .u64 (281470681743360 + n)] 48) := ⟨_, rfl⟩
  have hg : W0.heap[w.heap.size]? = some (.cells #[.bool false, .int .u64 0, .int .u64 (281470681743360 + n)] 48 (0, 0)) := by rw [hW0]; exact heap_alloc_new' _ _ _ rfl
  have B0 : Aside0 (Below w.heap.size w W0) := ⟨by rw [hW0]; exact (Below.refl _ _).alloc (Nat.le_refl _) _⟩
  have HW := Lib.hid hW0
  obtain ⟨k2, _⟩ := heap_cell (j := 2) hg rfl
  have E := Lib.hid (show (281470681743360 + n) % 4294967296 = n by omega)
  clear hg hW0
  go_enter Tryz.func89, Tryz.ntmps89
  go_upto_region 1 with (fail)
  rw [← HW.out]
  clear HW
  go_wp2_with fail
  go_ret
  exact ⟨ret_int E.out, B0.out⟩
set_option maxRecDepth 100000 in
theorem refText_calls (a : Bool × Int × Int) (ha : adOk a) (w : World) (hP : Aside0 (Pows w)) : Calls Tryz.prog 48 #[refV (some a)] w fun e w' => e = .returned (.string (adT a)) ∧ Below w.heap.size w w' := by
  obtain ⟨sx, hi, lo⟩ := a
  cases sx
  · obtain ⟨rfl, h0, h1⟩ := ha
    simp only [refV, adHi, adLo]
    obtain ⟨W0, hW0⟩ : ∃ W0, W0 = w.alloc (.cells #[.bool false, .int .u64 0, .int .u64 (281470681743360 + lo)] 48) := ⟨_, rfl⟩
    have hg : W0.heap[w.heap.size]? = some (.cells #[.bool false, .int .u64 0, .int .u64 (281470681743360 + lo)] 48 (0, 0)) := by rw [hW0]; exact heap_alloc_new' _ _ _ rfl
    have B0 : Aside0 (Below w.heap.size w W0) := ⟨by rw [hW0]; exact (Below.refl _ _).alloc (Nat.le_refl _) _⟩
    have HW := Lib.hid hW0
    obtain ⟨k0, _⟩ := heap_cell (j := 0) hg rfl
    obtain ⟨k1, _⟩ := heap_cell (j := 1) hg rfl
    obtain ⟨k2, _⟩ := heap_cell (j := 2) hg rfl
    clear hg hW0
    go_enter Tryz.func48, Tryz.ntmps48
    go_upto_region 1 with (fail)
    rw [← HW.out]
    clear HW
    go_wp2_with fail
    refine (Num_calls lo h0 h1 _).mono ?_
    rintro e w1 ⟨rfl, b1⟩
    have B1 := Aside0.mk (below_then B0.out B0.out.size b1)
    have RT := Aside0.mk (rText4_calls lo.toNat (by omega) w1 ⟨hP.out.stays B1.out⟩)
    rw [Int.toNat_of_nonneg h0] at RT
    clear b1
    go_wp2_with fail
    refine RT.out.mono ?_
    rintro e w2 ⟨rfl, b2⟩
    go_wp2_with fail
    go_ret
    exact ⟨rfl, below_then B1.out B1.out.size b2⟩
  · simp only [refV, adHi, adLo]
    obtain ⟨W0, hW0⟩ : ∃ W0, W0 = w.alloc (.cells #[.bool true, .int .u64 hi, .int .u64 lo] 48) := ⟨_, rfl⟩
    have hg : W0.heap[w.heap.size]? = some (.cells #[.bool true, .int .u64 hi, .int .u64 lo] 48 (0, 0)) := by rw [hW0]; exact heap_alloc_new' _ _ _ rfl
    have B0 : Aside0 (Below w.heap.size w W0) := ⟨by rw [hW0]; exact (Below.refl _ _).alloc (Nat.le_refl _) _⟩
    have HW := Lib.hid hW0
    obtain ⟨k0, _⟩ := heap_cell (j := 0) hg rfl
    obtain ⟨k1, _⟩ := heap_cell (j := 1) hg rfl
    obtain ⟨k2, _⟩ := heap_cell (j := 2) hg rfl
    clear hg hW0
    go_enter Tryz.func48, Tryz.ntmps48
    go_upto_region 1 with (fail)
    rw [← HW.out]
    clear HW
    go_wp2_with fail
    refine (rText5_calls hi lo ha.1 ha.2 _).mono ?_
    rintro e w1 ⟨rfl, b1⟩
    go_wp2_with fail
    go_ret
    exact ⟨rfl, below_then B0.out B0.out.size b1⟩
end Go.Proofs.YtfieiigefllekaaGreatDoor
