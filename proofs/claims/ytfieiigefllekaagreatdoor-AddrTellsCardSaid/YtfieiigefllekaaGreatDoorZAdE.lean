/- Equal lists of numbers, as the library tells it; walked. -/
import Derived.Test.YtfieiigefllekaaGreatDoorJA
import Derived.Test.YtfieiigefllekaaGreatDoorJF
import Derived.BigRegion
namespace Go.Proofs.YtfieiigefllekaaGreatDoor
open Go.RowKit Go.Proofs.YtfieiigefllekaaGreatDoorW.PrintWords Go.Proofs.YtfieiigefllekaaGreatDoorW.PrintMore

theorem C_kget {k : IntKind} {w : World} {A : Option Addr} {xs : List Int} (h : Kd.C (Kd.int k) w A xs.length xs) (j : Nat) (hj : j < xs.length) : ∃ ad, A = some ad ∧ w.cell? (ad.add j) = some (.int k (xs.getD j 0)) := by
  obtain ⟨ad, rfl⟩ := C_some h (by omega)
  refine ⟨ad, rfl, ?_⟩
  rw [C_int_at h j hj, List.getD_eq_getElem?_getD, List.getElem?_eq_getElem hj]
  rfl
theorem take_eq_next (xs ys : List Int) (j : Nat) (hx : j < xs.length) (hy : j < ys.length) (h : xs.take j = ys.take j) (he : xs.getD j 0 = ys.getD j 0) : xs.take (j + 1) = ys.take (j + 1) := by
  rw [List.getD_eq_getElem?_getD, List.getD_eq_getElem?_getD, List.getElem?_eq_getElem hx, List.getElem?_eq_getElem hy] at he
  rw [List.take_succ_eq_append_getElem hx, List.take_succ_eq_append_getElem hy, h, show xs[j] = ys[j] from he]
theorem take_ne (xs ys : List Int) (j : Nat) (he : xs.getD j 0 ≠ ys.getD j 0) : xs ≠ ys := fun h => he (by rw [h])
set_option maxHeartbeats 2000000 in
theorem EqualF_calls (xs ys : List Int) (n m : Nat) (hn : n = xs.length) (hm : m = ys.length) (A B : Option Addr) (c c' : Nat) (w : World) (hnm : n ≤ 1000000) (hA : ∀ j, j < xs.length → ∃ ad, A = some ad ∧ w.cell? (ad.add j) = some (.int .u32 (xs.getD j 0))) (hB : ∀ j, j < ys.length → ∃ ad, B = some ad ∧ w.cell? (ad.add j) = some (.int .u32 (ys.getD j 0))) :
    Calls Tryz.prog 68 #[.slice A n c, .slice B m c'] w fun e w' => e = .returned (.bool (decide (xs = ys))) ∧ Below w.heap.size w w' := by
  have HA := Aside0.mk hA
  have HB := Aside0.mk hB
  have HN := Lib.hid hn
  have HM := Lib.hid hm
  by_cases hd : n = m
  · subst hd
    clear hA hB hn hm
    go_enter Tryz.func68, Tryz.ntmps68
    go_wp2_with fail
    go_loopw [13] (fun i wr => ∃ j : Nat, i = .int .i64 j ∧ j ≤ n ∧ Aside0 (xs.take j = ys.take j) ∧ Aside0 (Below w.heap.size w wr)) (fun i _ => n - (intOf i).toNat)
    case atStart => exact ⟨0, rfl, by omega, ⟨rfl⟩, ⟨Below.refl _ _⟩⟩
    case round =>
      obtain ⟨j, rfl, hj, ht, hbw⟩ := hrel
      by_cases hlt : j < n
      · have hjx : j < xs.length := by rw [← HN.out]; exact hlt
        have hjy : j < ys.length := by rw [← HM.out]; exact hlt
        obtain ⟨ad, rfl, cx0⟩ := HA.out j hjx
        obtain ⟨bd, rfl, cy0⟩ := HB.out j hjy
        have cx := (hbw.out.cell (cell_blk cx0)).trans cx0
        have cy := (hbw.out.cell (cell_blk cy0)).trans cy0
        have hj0 : (0 : Int) ≤ (j : Int) := by omega
        have hji : (j : Int) < (n : Int) := by omega
        by_cases he : xs.getD j 0 = ys.getD j 0
        · have HT := Lib.hid (take_eq_next xs ys j hjx hjy ht.out he)
          rw [he] at cx
          clear he cx0 cy0 hjx hjy
          generalize ys.getD j 0 = y at cx cy
          go_wp2_with fail
          go_region
          all_goals
            go_wp2_with fail
            exact ⟨⟨j + 1, by go_num, by omega, ⟨HT.out⟩, ⟨hbw.out.drew⟩⟩, by simp [intOf]; omega⟩
        · have HF := Lib.hid (show false = decide (xs = ys) from (decide_eq_false (take_ne xs ys j he)).symm)
          have hb : (xs.getD j 0 == ys.getD j 0) = false := by simpa using he
          have hb' : (xs.getD j 0 != ys.getD j 0) = true := by simpa using he
          clear cx0 cy0 hjx hjy
          generalize ys.getD j 0 = y at cx cy hb hb' he
          generalize xs.getD j 0 = x at cx hb hb' he
          go_wp2_with fail
          go_region
          all_goals
            go_wp2_with fail
            go_ret
            exact ⟨ret_bool HF.out, hbw.out.drew⟩
      · have HF := Lib.hid (show true = decide (xs = ys) by
          have := ht.out
          rw [List.take_of_length_le (by rw [← HN.out]; omega), List.take_of_length_le (by rw [← HM.out]; omega)] at this
          exact (decide_eq_true this).symm)
        go_wp2_with fail
        go_ret
        exact ⟨ret_bool HF.out, hbw.out⟩
  · have HF := Lib.hid (show false = decide (xs = ys) from (decide_eq_false (fun h => hd (by rw [hn, hm, h]))).symm)
    clear hA hB hn hm
    go_enter Tryz.func68, Tryz.ntmps68
    go_wp2_with fail
    go_ret
    exact ⟨ret_bool HF.out, Below.refl _ _⟩
end Go.Proofs.YtfieiigefllekaaGreatDoor
