/- The document's begins and two, walked. -/
import Derived.Test.YtfieiigefllekaaGreatDoorZRSix4
import Derived.Test.YtfieiigefllekaaGreatDoorZAdE
import Derived.BigRegion
namespace Go.Proofs.YtfieiigefllekaaGreatDoor
open Go.RowKit Go.Proofs.YtfieiigefllekaaGreatDoorW.PrintWords Go.Proofs.YtfieiigefllekaaGreatDoorW.PrintMore

set_option maxHeartbeats 2000000 in
theorem begins_calls (xs ys : List Int) (n m : Nat) (hn : n = xs.length) (hm : m = ys.length) (A B : Option Addr) (c c' : Nat) (w : World) (hmn : m ≤ n) (hnm : n ≤ 1000000) (hA : ∀ j, j < xs.length → ∃ ad, A = some ad ∧ w.cell? (ad.add j) = some (.int .i64 (xs.getD j 0))) (hB : ∀ j, j < ys.length → ∃ ad, B = some ad ∧ w.cell? (ad.add j) = some (.int .i64 (ys.getD j 0))) :
    Calls Tryz.prog 87 #[.slice A n c, .slice B m c'] w fun e w' => e = .returned (.bool (decide (xs.take m = ys))) ∧ Below w.heap.size w w' := by
  have HA := Aside0.mk hA
  have HB := Aside0.mk hB
  have HN := Lib.hid hn
  have HM := Lib.hid hm
  clear hA hB hn hm
  go_enter Tryz.func87, Tryz.ntmps87
  go_wp2_with fail
  go_loopw [5] (fun i wr => ∃ j : Nat, i = .int .i64 j ∧ j ≤ m ∧ Aside0 (xs.take j = ys.take j) ∧ Aside0 (Below w.heap.size w wr)) (fun i _ => m - (intOf i).toNat)
  case atStart => exact ⟨0, rfl, by omega, ⟨rfl⟩, ⟨Below.refl _ _⟩⟩
  case round =>
    obtain ⟨j, rfl, hj, ht, hbw⟩ := hrel
    by_cases hlt : j < m
    · have hjx : j < xs.length := by rw [← HN.out]; omega
      have hjy : j < ys.length := by rw [← HM.out]; exact hlt
      obtain ⟨ad, rfl, cx0⟩ := HA.out j hjx
      obtain ⟨bd, rfl, cy0⟩ := HB.out j hjy
      have cx := (hbw.out.cell (cell_blk cx0)).trans cx0
      have cy := (hbw.out.cell (cell_blk cy0)).trans cy0
      have hj0 : (0 : Int) ≤ (j : Int) := by omega
      have hji : (j : Int) < (n : Int) := by omega
      have hjm : (j : Int) < (m : Int) := by omega
      by_cases he : xs.getD j 0 = ys.getD j 0
      · have HT := Lib.hid (take_eq_next xs ys j hjx hjy ht.out he)
        rw [he] at cx
        clear he cx0 cy0 hjx hjy
        generalize ys.getD j 0 = y at cx cy
        go_wp2_with fail
        go_region
        all_goals
          go_wp2_with fail
          exact ⟨⟨j + 1, by go_num, by omega, ⟨HT.out⟩, ⟨hbw.out.drew⟩⟩, by simp [intOf]; omega⟩
      · have HF := Lib.hid (show false = decide (xs.take m = ys) by
          refine (decide_eq_false fun h => he ?_).symm
          rw [← h, List.getD_eq_getElem?_getD, List.getD_eq_getElem?_getD, List.getElem?_take_of_lt hlt])
        have hb : (xs.getD j 0 == ys.getD j 0) = false := by simpa using he
        have hb' : (xs.getD j 0 != ys.getD j 0) = true := by simpa using he
        clear cx0 cy0 hjx hjy
        generalize ys.getD j 0 = y at cx cy hb hb' he
        generalize xs.getD j 0 = x at cx hb hb' he
        go_wp2_with fail
        go_region
        all_goals
          go_wp2_with fail
          go_ret
          exact ⟨ret_bool HF.out, hbw.out.drew⟩
    · have HF := Lib.hid (show true = decide (xs.take m = ys) by
        have := ht.out
        rw [show j = m by omega, List.take_of_length_le (l := ys) (by rw [← HM.out]; exact Nat.le_refl _)] at this
        exact (decide_eq_true this).symm)
      go_wp2_with fail
      go_ret
      exact ⟨ret_bool HF.out, hbw.out⟩
set_option maxHeartbeats 2000000 in
theorem two_calls (x y : Int) (k : Nat) (hk : k ≤ 6) (ad : Addr) (c : Nat) (w : World) (hx : 0 ≤ x ∧ x ≤ 65535) (hy : 0 ≤ y ∧ y ≤ 65535) (c0 : w.cell? (ad.add k) = some (.int .i64 x)) (c1 : w.cell? (ad.add (k + 1)) = some (.int .i64 y)) :
    Calls Tryz.prog 86 #[.slice (some ad) 8 c, .int .i64 k] w fun e w' => e = .returned (.int .u32 (x * 65536 + y)) ∧ Below w.heap.size w w' := by
  obtain ⟨m, hm⟩ : ∃ m : Nat, m = k + 1 := ⟨_, rfl⟩
  have hmw : IntKind.i64.wrap ((k : Int) + 1) = (m : Int) := by
    rw [i64_small' _ (by omega) (by omega)]
    omega
  have hmi : (k : Int) + 1 = (m : Int) := by omega
  rw [← hm] at c1
  have k0 : (0 : Int) ≤ (k : Int) := by omega
  have k8 : (k : Int) < 8 := by omega
  have m0 : (0 : Int) ≤ (m : Int) := by omega
  have m8 : (m : Int) < 8 := by omega
  clear hm hk
  go_enter Tryz.func86, Tryz.ntmps86
  go_wp2_with fail
  go_region
  all_goals
    go_wp2_with fail
    go_ret
    exact ⟨rfl, (Below.refl _ _).drew⟩
end Go.Proofs.YtfieiigefllekaaGreatDoor
