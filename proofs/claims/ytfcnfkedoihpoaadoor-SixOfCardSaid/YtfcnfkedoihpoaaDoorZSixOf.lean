/- The law SixOf, walked. -/
import Derived.Test.YtfcnfkedoihpoaaDoorJI
import Derived.Deep.QuietTactic
import Derived.BigQuiet
import Derived.BigRegion
namespace Go.Proofs.YtfcnfkedoihpoaaDoor
open Go.RowKit Go.Proofs.YtfcnfkedoihpoaaDoorW.PrintWords Go.Proofs.YtfcnfkedoihpoaaDoorW.PrintMore

theorem pieces_half (y0 y1 y2 y3 y4 y5 y6 y7 : Int) (h : ∀ y ∈ [y0, y1, y2, y3, y4, y5, y6, y7], 0 ≤ y ∧ y ≤ 65535) : piecesOf (half [y0, y1, y2, y3]) (half [y4, y5, y6, y7]) = [y0, y1, y2, y3, y4, y5, y6, y7] := by
  have h0 := h y0 (by simp)
  have h1 := h y1 (by simp)
  have h2 := h y2 (by simp)
  have h3 := h y3 (by simp)
  have h4 := h y4 (by simp)
  have h5 := h y5 (by simp)
  have h6 := h y6 (by simp)
  have h7 := h y7 (by simp)
  simp only [piecesOf, half, List.foldl, List.cons.injEq, and_true]
  refine ⟨?_, ?_, ?_, ?_, ?_, ?_, ?_, ?_⟩ <;> omega
theorem half_bd (y0 y1 y2 y3 : Int) (h : ∀ y ∈ [y0, y1, y2, y3], 0 ≤ y ∧ y ≤ 65535) : 0 ≤ half [y0, y1, y2, y3] ∧ half [y0, y1, y2, y3] < 18446744073709551616 := by
  have h0 := h y0 (by simp)
  have h1 := h y1 (by simp)
  have h2 := h y2 (by simp)
  have h3 := h y3 (by simp)
  simp only [half, List.foldl]
  omega
theorem eight_at (xs : List Int) (j : Nat) (hj : j < 8) : (eight xs).getD j 0 = xs.getD j 0 := by
  rw [eight, List.getD_eq_getElem?_getD, List.getElem?_take, if_pos hj, List.getElem?_append]
  split
  · rw [List.getD_eq_getElem?_getD]
  · rename_i h
    rw [List.getD_eq_getElem?_getD, List.getElem?_eq_none (l := xs) (by omega), List.getElem?_replicate]
    split <;> rfl

set_option maxHeartbeats 2000000 in
set_option maxRecDepth 100000 in
theorem SixOf_law (A : Option Addr) (c : Nat) (xs : List Int) (w : World) (hn : xs.length ≤ c) (hb : ∀ x ∈ xs, 0 ≤ x ∧ x ≤ 65535)
    (hA : 0 < xs.length → ∃ ad, A = some ad ∧ ∀ j v, (u16s xs)[j]? = some v → w.cell? (ad.add j) = some v) (hE : Aside0 (Errs w)) (hM : Aside0 (Mx w)) (hP : Aside0 (Pows w)) (hT : Aside0 (Debr w)) :
    Calls Tryd.prog 8 #[.slice A xs.length c] w fun e w' => e = .returned (.bool true) ∧ Below w.heap.size w w' := by
  have HA := Aside0.mk hA
  have HBD := Aside0.mk hb
  clear hA hb
  by_cases h40 : xs.length ≤ 40
  · go_enter Tryd.func8, Tryd.ntmps8
    go_wp2_with fail
    refine (awake5_calls _ hE hM hP hT).mono ?_
    rintro e w1 ⟨rfl, b1⟩
    have B1 := Aside0.mk b1
    clear b1
    go_wp2_with fail
    refine (SixOf_calls A c xs w1 hn HBD.out (fun h => by
      obtain ⟨ad, e, hc⟩ := HA.out h
      exact ⟨ad, e, fun j v hv => (B1.out.cell (cell_lt (hc j v hv))).trans (hc j v hv)⟩)).mono ?_
    rintro e w2 ⟨rfl, b2⟩
    have B2 := Aside0.mk (below_then B1.out B1.out.size b2)
    clear b2
    have hyb : ∀ y ∈ eight xs, 0 ≤ y ∧ y ≤ 65535 := by
      intro y hy
      rcases List.mem_append.1 (List.mem_of_mem_take hy) with h | h
      · exact HBD.out y h
      · rw [(List.mem_replicate.1 h).2]
        omega
    have hat := eight_at xs
    obtain ⟨y0, y1, y2, y3, y4, y5, y6, y7, hy⟩ := list8 (eight xs) (by simp [eight])
    rw [hy] at hyb hat ⊢
    rw [show ([y0, y1, y2, y3, y4, y5, y6, y7] : List Int).take 4 = [y0, y1, y2, y3] from rfl, show ([y0, y1, y2, y3, y4, y5, y6, y7] : List Int).drop 4 = [y4, y5, y6, y7] from rfl]
    have hpc := pieces_half y0 y1 y2 y3 y4 y5 y6 y7 hyb
    have hh := half_bd y0 y1 y2 y3 (fun y h => hyb y (by simp at h ⊢; omega))
    have hl := half_bd y4 y5 y6 y7 (fun y h => hyb y (by simp at h ⊢; omega))
    generalize half [y0, y1, y2, y3] = hi at hpc hh ⊢
    generalize half [y4, y5, y6, y7] = lo at hpc hl ⊢
    clear hy hyb
    have HAT := Aside0.mk hat
    simp only [piecesOf, List.cons.injEq, and_true] at hpc
    obtain ⟨e0, e1, e2, e3, e4, e5, e6, e7⟩ := hpc
    have E := Lib.hid (And.intro e0 (And.intro e1 (And.intro e2 (And.intro e3 (And.intro e4 (And.intro e5 (And.intro e6 e7)))))))
    clear e0 e1 e2 e3 e4 e5 e6 e7 hat
    go_wp2_with fail
    refine (Pieces_calls hi lo hh hl _).mono ?_
    rintro e w3 ⟨rfl, b3⟩
    have B3 := Aside0.mk (below_then B2.out B2.out.size b3)
    rw [E.out.1, E.out.2.1, E.out.2.2.1, E.out.2.2.2.1, E.out.2.2.2.2.1, E.out.2.2.2.2.2.1, E.out.2.2.2.2.2.2.1, E.out.2.2.2.2.2.2.2]
    clear b3 E
    go_wp2_with fail
    obtain ⟨W4, hW4⟩ : ∃ W4, W4 = w3.alloc (.cells #[.int .u16 y0, .int .u16 y1, .int .u16 y2, .int .u16 y3, .int .u16 y4, .int .u16 y5, .int .u16 y6, .int .u16 y7] 51) := ⟨_, rfl⟩
    rw [← hW4]
    have hcell : ∀ j, j < 8 → W4.cell? ⟨w3.heap.size, j, none⟩ = some (.int .u16 (xs.getD j 0)) := by
      intro j hj
      rw [hW4, World.cell?_alloc_new, ← HAT.out j hj]
      have hj8 : j = 0 ∨ j = 1 ∨ j = 2 ∨ j = 3 ∨ j = 4 ∨ j = 5 ∨ j = 6 ∨ j = 7 := by omega
      rcases hj8 with rfl | rfl | rfl | rfl | rfl | rfl | rfl | rfl <;> rfl
    have hlt : w3.heap.size < W4.heap.size := by rw [hW4]; simp
    have B4 : Aside0 (Below w.heap.size w W4) := ⟨by rw [hW4]; exact B3.out.alloc B3.out.size _⟩
    have HC := Aside0.mk hcell
    clear hW4 hcell HAT
    generalize w3.heap.size = g at *
    go_loopw [13] (fun ii wx => ∃ (j : Nat), ii = .int .i64 j ∧ j ≤ 8 ∧ Aside0 (Below W4.heap.size W4 wx)) (fun i _ => 8 - (intOf i).toNat)
    case atStart => exact ⟨0, rfl, by omega, ⟨Below.refl _ _⟩⟩
    case round =>
      obtain ⟨j, rfl, hj, hbx⟩ := hrel
      by_cases hlt8 : j < 8
      · have hcj := (hbx.out.cell (p := ⟨g, j, none⟩) hlt).trans (HC.out j hlt8)
        have hj0 : (0 : Int) ≤ (j : Int) := by omega
        have hj8 : (j : Int) < 8 := by omega
        by_cases hjn : j < xs.length
        · obtain ⟨ad, rfl, hc⟩ := HA.out (by omega)
          obtain ⟨x, hx⟩ : ∃ x, xs[j]? = some x := ⟨_, List.getElem?_eq_getElem hjn⟩
          have h0 := hc j (.int .u16 x) (by rw [u16s, List.getElem?_map, hx]; rfl)
          have h1 := (hbx.out.cell (p := ad.add j) (Nat.lt_of_lt_of_le (cell_lt h0) B4.out.size)).trans ((B4.out.cell (cell_lt h0)).trans h0)
          rw [show xs.getD j 0 = x by rw [List.getD_eq_getElem?_getD, hx]; rfl] at hcj
          have hji : (j : Int) < (xs.length : Int) := by omega
          have hjd : decide ((j : Int) < (xs.length : Int)) = true := by simpa using hjn
          have hje : decide ((xs.length : Int) ≤ (j : Int)) = false := by simpa using hjn
          have hjf : decide (xs.length ≤ j) = false := by simpa using hjn
          have hjg : decide (j < xs.length) = true := by simpa using hjn
          clear hx h0 hc
          go_wp2_with fail
          go_region
          go_wp2_with fail
          go_roundw
          case rel => exact ⟨j + 1, by go_num, by omega, ⟨hbx.out.drew⟩⟩
          case measure => simp [intOf]; omega
        · have hjf : decide (xs.length ≤ j) = true := by simpa using hjn
          have hjg : decide (j < xs.length) = false := by simpa using hjn
          have hjh : (xs.length : Int) ≤ (j : Int) := by omega
          have hjd : decide ((j : Int) < (xs.length : Int)) = false := by simpa using hjn
          have hje : decide ((xs.length : Int) ≤ (j : Int)) = true := by simpa using hjn
          rw [show xs.getD j 0 = 0 by rw [List.getD_eq_getElem?_getD, List.getElem?_eq_none (by omega)]; rfl] at hcj
          go_wp2_with fail
          go_region
          go_wp2_with fail
          go_roundw
          case rel => exact ⟨j + 1, by go_num, by omega, ⟨hbx.out.drew⟩⟩
          case measure => simp [intOf]; omega
      · obtain rfl : j = 8 := by omega
        go_wp2_with fail
        go_ret
        exact ⟨rfl, below_then B4.out B4.out.size hbx.out⟩
  · go_enter Tryd.func8, Tryd.ntmps8
    go_wp2_with fail
    refine (awake5_calls _ hE hM hP hT).mono ?_
    rintro e w1 ⟨rfl, b1⟩
    go_wp2
    go_ret
    exact ⟨rfl, b1⟩
theorem SixOf_row (A : Option Addr) (c : Nat) (xs : List Int) (w : World) (hw : xs.length ≤ c ∧ (∀ x ∈ xs, 0 ≤ x ∧ x ≤ 65535) ∧ (0 < xs.length → ∃ ad, A = some ad ∧ ∀ j v, (u16s xs)[j]? = some v → w.cell? (ad.add j) = some v)) (hP : Aside0 (Pows w)) (hT : Aside0 (Debr w)) (hE : Aside0 (Errs w)) (hM : Aside0 (Mx w)) :
    Calls Tryd.prog 8 #[.slice A xs.length c] w fun e w' => e = .returned (.bool true) ∧ Below w.heap.size w w' := SixOf_law A c xs w hw.1 hw.2.1 hw.2.2 hE hM hP hT
end Go.Proofs.YtfcnfkedoihpoaaDoor
