/- The document's Compare and Text of an address of either sort, walked. -/
import Derived.Test.YtfieiigefllekaaGreatDoorZAdT1
import Derived.Test.YtfieiigefllekaaGreatDoorZRSix5
import Derived.Test.YtfieiigefllekaaGreatDoorJH
namespace Go.Proofs.YtfieiigefllekaaGreatDoor
open Go.RowKit Go.Proofs.YtfieiigefllekaaGreatDoorW.PrintWords Go.Proofs.YtfieiigefllekaaGreatDoorW.PrintMore

set_option maxHeartbeats 4000000 in
set_option maxRecDepth 100000 in
theorem refCompare_calls (s : Bool) (h l : Int) (s' : Bool) (h' l' : Int) (w : World) :
    Calls Tryz.prog 42 #[.agg #[.bool s, .int .u64 h, .int .u64 l], .agg #[.bool s', .int .u64 h', .int .u64 l']] w fun e w' => e = .returned (.int .i64 (refCmp s h l s' h' l')) ∧ Below w.heap.size w w' := by
  obtain ⟨W1, hW1⟩ : ∃ W1, W1 = w.alloc (.cells #[.bool s, .int .u64 h, .int .u64 l] 48) := ⟨_, rfl⟩
  obtain ⟨W2, hW2⟩ : ∃ W2, W2 = W1.alloc (.cells #[.bool s', .int .u64 h', .int .u64 l'] 48) := ⟨_, rfl⟩
  have hz : W1.heap.size = w.heap.size + 1 := by rw [hW1]; simp
  have hg : W2.heap[w.heap.size]? = some (.cells #[.bool s, .int .u64 h, .int .u64 l] 48 (0, 0)) := by
    rw [hW2, heap_alloc_old' _ _ _ (by omega), hW1]
    exact heap_alloc_new' _ _ _ rfl
  have hg' : W2.heap[w.heap.size + 1]? = some (.cells #[.bool s', .int .u64 h', .int .u64 l'] 48 (0, 0)) := by
    rw [hW2]
    exact heap_alloc_new' _ _ _ hz.symm
  have B2 : Aside0 (Below w.heap.size w W2) := ⟨by rw [hW2, hW1]; exact ((Below.refl _ _).alloc (Nat.le_refl _) _).alloc (by simp) _⟩
  have HW := Lib.hid (show W2 = (w.alloc (.cells #[.bool s, .int .u64 h, .int .u64 l] 48)).alloc (.cells #[.bool s', .int .u64 h', .int .u64 l'] 48) by rw [hW2, hW1])
  obtain ⟨c0, _⟩ := heap_cell (j := 0) hg rfl
  obtain ⟨c1, _⟩ := heap_cell (j := 1) hg rfl
  obtain ⟨c2, _⟩ := heap_cell (j := 2) hg rfl
  obtain ⟨d0, _⟩ := heap_cell (j := 0) hg' rfl
  obtain ⟨d1, _⟩ := heap_cell (j := 1) hg' rfl
  obtain ⟨d2, _⟩ := heap_cell (j := 2) hg' rfl
  clear hg hg' hz hW1 hW2
  go_enter Tryz.func42, Tryz.ntmps42
  go_upto_region 1 with (fail)
  rw [← HW.out]
  clear HW
  rcases Int.lt_trichotomy h h' with a1 | a1 | a1
  · have a2 : ¬ h' < h := by omega
    have E := Lib.hid (show refCmp s h l s' h' l' = -1 by rw [refCmp]; rw [if_pos (.inl a1)])
    go_wp2_with fail
    go_ret
    exact ⟨ret_int E.out.symm, B2.out⟩
  · have n1 : ¬ h < h' := by omega
    have n2 : ¬ h' < h := by omega
    have b1 : (h == h') = true := by simpa using a1
    have A1 := Lib.hid a1
    clear a1
    rcases Int.lt_trichotomy l l' with g1 | g1 | g1
    · have g2 : ¬ l' < l := by omega
      have E := Lib.hid (show refCmp s h l s' h' l' = -1 by rw [refCmp]; rw [if_pos (.inr ⟨A1.out, g1⟩)])
      go_wp2_with fail
      go_ret
      exact ⟨ret_int E.out.symm, B2.out⟩
    · have m1 : ¬ l < l' := by omega
      have m2 : ¬ l' < l := by omega
      clear g1
      cases s <;> cases s'
      · have E := Lib.hid (show refCmp false h l false h' l' = 0 by rw [refCmp]; rw [if_neg (by omega), if_neg (by omega)]; rfl)
        go_wp2_with fail
        go_ret
        exact ⟨ret_int E.out.symm, B2.out⟩
      · have E := Lib.hid (show refCmp false h l true h' l' = -1 by rw [refCmp]; rw [if_neg (by omega), if_neg (by omega)]; rfl)
        go_wp2_with fail
        go_ret
        exact ⟨ret_int E.out.symm, B2.out⟩
      · have E := Lib.hid (show refCmp true h l false h' l' = 1 by rw [refCmp]; rw [if_neg (by omega), if_neg (by omega)]; rfl)
        go_wp2_with fail
        go_ret
        exact ⟨ret_int E.out.symm, B2.out⟩
      · have E := Lib.hid (show refCmp true h l true h' l' = 0 by rw [refCmp]; rw [if_neg (by omega), if_neg (by omega)]; rfl)
        go_wp2_with fail
        go_ret
        exact ⟨ret_int E.out.symm, B2.out⟩
    · have g2 : ¬ l < l' := by omega
      have E := Lib.hid (show refCmp s h l s' h' l' = 1 by rw [refCmp]; rw [if_neg (by omega), if_pos (.inr g1)])
      go_wp2_with fail
      go_ret
      exact ⟨ret_int E.out.symm, B2.out⟩
  · have n1 : ¬ h < h' := by omega
    have b1 : (h == h') = false := by rw [beq_eq_false_iff_ne]; omega
    have E := Lib.hid (show refCmp s h l s' h' l' = 1 by rw [refCmp]; rw [if_neg (by omega), if_pos (.inl a1)])
    go_wp2_with fail
    go_ret
    exact ⟨ret_int E.out.symm, B2.out⟩
end Go.Proofs.YtfieiigefllekaaGreatDoor
