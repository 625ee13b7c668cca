/- The law SixWrites, walked: an address's pieces, its text, which is read again. -/
import Derived.Test.YtfieiigefllekaaGreatDoorJI
import Derived.Test.YtfieiigefllekaaGreatDoorZRSix5
import Derived.Deep.RegionHeld3
namespace Go.Proofs.YtfieiigefllekaaGreatDoor
open Go.RowKit Go.Proofs.YtfieiigefllekaaGreatDoorW.PrintWords Go.Proofs.YtfieiigefllekaaGreatDoorW.PrintMore

theorem Wide6_calls (hi lo : Int) (w : World) : Calls Tryz.prog 20 #[.agg #[.int .u64 hi, .int .u64 lo]] w fun e w' => e = .returned (.tuple #[.int .u64 hi, .int .u64 lo]) ∧ Below w.heap.size w w' := by
  go_enter Tryz.func20, Tryz.ntmps20
  go_wp2_with fail
  have hg : (w.alloc (.cells #[.int .u64 hi, .int .u64 lo] 25)).heap[w.heap.size]? = some (.cells #[.int .u64 hi, .int .u64 lo] 25 (0, 0)) := heap_alloc_new' _ _ _ rfl
  have hb : Below w.heap.size w (w.alloc (.cells #[.int .u64 hi, .int .u64 lo] 25)) := (Below.refl _ _).alloc (Nat.le_refl _) _
  generalize w.alloc (.cells #[.int .u64 hi, .int .u64 lo] 25) = W at hg hb ⊢
  have HB := Aside0.mk hb
  obtain ⟨c0, _⟩ := heap_cell (j := 0) hg rfl
  obtain ⟨c1, _⟩ := heap_cell (j := 1) hg rfl
  clear hb hg
  go_region
  all_goals
    go_wp2_with fail
    go_ret2
    exact ⟨rfl, HB.out.drew⟩

theorem text_back (hi lo : Int) (h0 : 0 ≤ hi ∧ hi < 18446744073709551616) (h1 : 0 ≤ lo ∧ lo < 18446744073709551616) : sixHi (textL6 (piecesOf hi lo)) = hi ∧ sixLo (textL6 (piecesOf hi lo)) = lo ∧ sixOk (textL6 (piecesOf hi lo)) = true := by
  have h := six_some (six_back (piecesOf hi lo) rfl (pieces_bd hi lo h0 h1))
  have hp := half_pieces hi lo
  rw [hp.1, hp.2] at h
  exact h

set_option maxHeartbeats 8000000 in
set_option maxRecDepth 100000 in
theorem SixWrites_law (hi lo : Int) (h0 : 0 ≤ hi ∧ hi < 18446744073709551616) (h1 : 0 ≤ lo ∧ lo < 18446744073709551616) (w : World) (hP : Aside0 (Pows w)) (hT : Aside0 (Debr w)) (hE : Aside0 (Errs w)) (hM : Aside0 (Mx w)) :
    Calls Tryz.prog 4 #[.int .u64 hi, .int .u64 lo] w fun e w' => e = .returned (.bool true) ∧ Below w.heap.size w w' := by
  have TB := Aside0.mk (text_back hi lo h0 h1)
  have TL := Aside0.mk (text_len (piecesOf hi lo) rfl (pieces_bd hi lo h0 h1))
  have PB := Aside0.mk (pieces_bd hi lo h0 h1)
  go_enter Tryz.func4, Tryz.ntmps4
  go_wp2_with fail
  refine (awake5_calls _ hE hM hP hT).mono ?_
  rintro e w1 ⟨rfl, b1⟩
  have B1 := Aside0.mk b1
  clear b1
  go_wp2_with fail
  obtain ⟨W1, hW1⟩ : ∃ W1, W1 = w1.alloc (.cells #[.int .u64 hi, .int .u64 lo] 25) := ⟨_, rfl⟩
  rw [← hW1]
  have hg : W1.heap[w1.heap.size]? = some (.cells #[.int .u64 hi, .int .u64 lo] 25 (0, 0)) := by rw [hW1]; exact heap_alloc_new' _ _ _ rfl
  have hlt : w1.heap.size < W1.heap.size := by rw [hW1]; simp
  have BW1 : Aside0 (Below w.heap.size w W1) := ⟨by rw [hW1]; exact B1.out.alloc B1.out.size _⟩
  have HG := Aside0.mk hg
  clear hW1 hg
  generalize w1.heap.size = g at *
  refine (Pieces_calls hi lo h0 h1 _).mono ?_
  rintro e w2 ⟨rfl, b2⟩
  have HG2 := Aside0.mk ((b2.block g hlt).trans HG.out)
  have B2 := Aside0.mk (below_then BW1.out BW1.out.size b2)
  have hlt2 : g < w2.heap.size := Nat.lt_of_lt_of_le hlt b2.size
  clear b2 HG
  go_wp2_with fail
  obtain ⟨W2, hW2⟩ : ∃ W2, W2 = w2.alloc (.cells #[.int .u16 (hi / 281474976710656), .int .u16 (hi / 4294967296 % 65536), .int .u16 (hi / 65536 % 65536), .int .u16 (hi % 65536), .int .u16 (lo / 281474976710656), .int .u16 (lo / 4294967296 % 65536), .int .u16 (lo / 65536 % 65536), .int .u16 (lo % 65536)] 32) := ⟨_, rfl⟩
  rw [← hW2]
  have hcell : ∀ j, j < 8 → W2.cell? ⟨w2.heap.size, j, none⟩ = some (.int .u16 ((piecesOf hi lo).getD j 0)) := by
    intro j hj
    rw [hW2, World.cell?_alloc_new]
    have hj8 : j = 0 ∨ j = 1 ∨ j = 2 ∨ j = 3 ∨ j = 4 ∨ j = 5 ∨ j = 6 ∨ j = 7 := by omega
    rcases hj8 with rfl | rfl | rfl | rfl | rfl | rfl | rfl | rfl <;> rfl
  have hltp : w2.heap.size < W2.heap.size := by rw [hW2]; simp
  have HG3 : Aside0 (W2.heap[g]? = some (.cells #[.int .u64 hi, .int .u64 lo] 25 (0, 0))) := ⟨by rw [hW2, heap_alloc_old' _ _ _ hlt2]; exact HG2.out⟩
  have BW2 : Aside0 (Below w.heap.size w W2) := ⟨by rw [hW2]; exact B2.out.alloc B2.out.size _⟩
  have HPc := Aside0.mk hcell
  have hlt3 : g < W2.heap.size := by omega
  clear hW2 hcell HG2
  generalize w2.heap.size = p at *
  refine (rPieces5_calls hi lo h0 h1 _).mono ?_
  rintro e w3 ⟨r, cap, rfl, hcap, hr, hR, b3⟩
  have HG4 := Aside0.mk ((b3.block g hlt3).trans HG3.out)
  have HP4 : Aside0 (∀ j, j < 8 → w3.cell? ⟨p, j, none⟩ = some (.int .u16 ((piecesOf hi lo).getD j 0))) := ⟨fun j hj => (b3.cell (p := ⟨p, j, none⟩) hltp).trans (HPc.out j hj)⟩
  have HR4 : Aside0 (∀ j, j < 8 → w3.cell? ⟨r, j, none⟩ = some (.int .i64 ((piecesOf hi lo).getD j 0))) := ⟨fun j hj => (cell8 rfl hR j hj).1⟩
  have B3 := Aside0.mk (below_then BW2.out BW2.out.size b3)
  have hl3 := Nat.lt_of_lt_of_le hlt3 b3.size
  have hl4 := Nat.lt_of_lt_of_le hltp b3.size
  have HXb : Aside0 (∀ j, j < 8 → 0 ≤ (piecesOf hi lo).getD j 0 ∧ (piecesOf hi lo).getD j 0 ≤ 65535) := ⟨fun j hj => by
    rw [List.getD_eq_getElem?_getD, List.getElem?_eq_getElem (show j < (piecesOf hi lo).length from hj)]
    exact PB.out _ (List.getElem_mem _)⟩
  clear b3 hR HPc HG3 hltp hlt3 hlt2 hlt
  go_wp2_with fail
  go_loop [24] (fun i => ∃ j : Nat, i = .int .i64 j ∧ j ≤ 8) (fun i => 8 - (intOf i).toNat)
  case atStart => exact ⟨0, rfl, by omega⟩
  case round =>
    obtain ⟨j, rfl, hj⟩ := hrel
    by_cases hlt : j < 8
    · have c1 := HP4.out j hlt
      have c2 := HR4.out j hlt
      have hx := HXb.out j hlt
      generalize (piecesOf hi lo).getD j 0 = x at c1 c2 hx
      go_wp2_with fail
      exact ⟨⟨j + 1, by go_num, by omega⟩, by simp [intOf]; omega⟩
    · obtain ⟨tx, htx⟩ : ∃ tx : ByteArray, tx = ⟨(textL6 (piecesOf hi lo)).toArray⟩ := ⟨_, rfl⟩
      have hs1 : tx.size ≤ 39 := by
        rw [htx]
        show (textL6 (piecesOf hi lo)).toArray.size ≤ 39
        rw [List.size_toArray]
        exact TL.out
      have HS2 := Lib.hid (show tx.data.toList = textL6 (piecesOf hi lo) by rw [htx])
      have HTX := Lib.hid htx
      clear htx
      obtain ⟨k0, _⟩ := heap_cell (j := 0) HG4.out rfl
      obtain ⟨k1, _⟩ := heap_cell (j := 1) HG4.out rfl
      go_wp2_with fail
      refine (Text6_calls hi lo h0 h1 _ ⟨hP.out.stays B3.out⟩ ⟨hT.out.stays B3.out⟩).mono ?_
      rintro e w4 ⟨rfl, b4⟩
      have HG5 := Aside0.mk ((b4.block g hl3).trans HG4.out)
      have HP5 : Aside0 (∀ j, j < 8 → w4.cell? ⟨p, j, none⟩ = some (.int .u16 ((piecesOf hi lo).getD j 0))) := ⟨fun j hj => (b4.cell (p := ⟨p, j, none⟩) hl4).trans (HP4.out j hj)⟩
      have B4 := Aside0.mk (below_then B3.out B3.out.size b4)
      have hl5 := Nat.lt_of_lt_of_le hl3 b4.size
      have hl6 := Nat.lt_of_lt_of_le hl4 b4.size
      clear b4 k0 k1 HG4 HP4 HR4
      rw [← HTX.out]
      go_wp2_with fail
      refine (SixParse_calls tx _ (by omega) ⟨hE.out.stays B4.out⟩ ⟨hM.out.stays B4.out⟩).mono ?_
      rw [HS2.out, TB.out.1, TB.out.2.1, TB.out.2.2]
      rintro e w5 ⟨rfl, b5⟩
      have hg5 := (b5.block g hl5).trans HG5.out
      have hl7 := Nat.lt_of_lt_of_le hl5 b5.size
      have hl8 := Nat.lt_of_lt_of_le hl6 b5.size
      have hp5 : ∀ j, j < 8 → w5.cell? ⟨p, j, none⟩ = some (.int .u16 ((piecesOf hi lo).getD j 0)) := fun j hj => (b5.cell (p := ⟨p, j, none⟩) hl6).trans (HP5.out j hj)
      have B5 := Aside0.mk (below_then B4.out B4.out.size b5)
      have hg6 : (w5.alloc (.cells #[.int .u64 hi, .int .u64 lo] 25)).heap[g]? = some (.cells #[.int .u64 hi, .int .u64 lo] 25 (0, 0)) := by rw [heap_alloc_old' _ _ _ hl7]; exact hg5
      have hn6 : (w5.alloc (.cells #[.int .u64 hi, .int .u64 lo] 25)).heap[w5.heap.size]? = some (.cells #[.int .u64 hi, .int .u64 lo] 25 (0, 0)) := heap_alloc_new' _ _ _ rfl
      have hp6 : ∀ j, j < 8 → (w5.alloc (.cells #[.int .u64 hi, .int .u64 lo] 25)).cell? ⟨p, j, none⟩ = some (.int .u16 ((piecesOf hi lo).getD j 0)) := fun j hj => ((Below.refl w5.heap.size w5).alloc (Nat.le_refl _) _ |>.cell (p := ⟨p, j, none⟩) hl8).trans (hp5 j hj)
      have hb6 : Below w.heap.size w (w5.alloc (.cells #[.int .u64 hi, .int .u64 lo] 25)) := B5.out.alloc B5.out.size _
      obtain ⟨k0, _⟩ := heap_cell (j := 0) hg6 rfl
      obtain ⟨k1, _⟩ := heap_cell (j := 1) hg6 rfl
      have HG6 := Aside0.mk hg6
      have HN6 := Aside0.mk hn6
      have HP6 := Aside0.mk hp6
      have HB6 := Aside0.mk hb6
      have HL6 := Aside0.mk (show g < (w5.alloc (.cells #[.int .u64 hi, .int .u64 lo] 25)).heap.size ∧ w5.heap.size < (w5.alloc (.cells #[.int .u64 hi, .int .u64 lo] 25)).heap.size ∧ p < (w5.alloc (.cells #[.int .u64 hi, .int .u64 lo] 25)).heap.size by simp; omega)
      clear b5 hg5 hp5 hg6 hn6 hp6 hb6 HG5 HP5 B5
      go_wp2_with fail
      refine (Wide6_calls hi lo _).mono ?_
      rintro e w7 ⟨rfl, b7⟩
      generalize w5.alloc (.cells #[.int .u64 hi, .int .u64 lo] 25) = W6 at *
      have HG7 := Aside0.mk ((b7.block g HL6.out.1).trans HG6.out)
      have HN7 := Aside0.mk ((b7.block w5.heap.size HL6.out.2.1).trans HN6.out)
      have HP7 : Aside0 (∀ j, j < 8 → w7.cell? ⟨p, j, none⟩ = some (.int .u16 ((piecesOf hi lo).getD j 0))) := ⟨fun j hj => (b7.cell (p := ⟨p, j, none⟩) HL6.out.2.2).trans (HP6.out j hj)⟩
      have B7 := Aside0.mk (below_then HB6.out HB6.out.size b7)
      have HL7 := Aside0.mk (show g < w7.heap.size ∧ w5.heap.size < w7.heap.size ∧ p < w7.heap.size from ⟨Nat.lt_of_lt_of_le HL6.out.1 b7.size, Nat.lt_of_lt_of_le HL6.out.2.1 b7.size, Nat.lt_of_lt_of_le HL6.out.2.2 b7.size⟩)
      clear b7 HG6 HN6 HP6 HB6 HL6 k0 k1
      generalize w5.heap.size = b at *
      have KS0 : Aside0 (Below w7.heap.size w7 w7.drew ∧ w7.drew.cell? ⟨g, 0, none⟩ = some (.int .u64 hi) ∧ w7.drew.cell? ⟨g, 1, none⟩ = some (.int .u64 lo) ∧ w7.drew.cell? ⟨b, 0, none⟩ = some (.int .u64 hi) ∧ w7.drew.cell? ⟨b, 1, none⟩ = some (.int .u64 lo)) := ⟨(Below.refl _ _).drew, (heap_cell (j := 0) HG7.out rfl).1, (heap_cell (j := 1) HG7.out rfl).1, (heap_cell (j := 0) HN7.out rfl).1, (heap_cell (j := 1) HN7.out rfl).1⟩
      have KS : Aside0 (∀ W W' : World, (Below w7.heap.size w7 W ∧ W.cell? ⟨g, 0, none⟩ = some (.int .u64 hi) ∧ W.cell? ⟨g, 1, none⟩ = some (.int .u64 lo) ∧ W.cell? ⟨b, 0, none⟩ = some (.int .u64 hi) ∧ W.cell? ⟨b, 1, none⟩ = some (.int .u64 lo)) → Below W.heap.size W W' → (Below w7.heap.size w7 W' ∧ W'.cell? ⟨g, 0, none⟩ = some (.int .u64 hi) ∧ W'.cell? ⟨g, 1, none⟩ = some (.int .u64 lo) ∧ W'.cell? ⟨b, 0, none⟩ = some (.int .u64 hi) ∧ W'.cell? ⟨b, 1, none⟩ = some (.int .u64 lo))) := ⟨fun W W' h hb => by
        obtain ⟨h0, h1, h2, h3, h4⟩ := h
        have e : ∀ (k j : Nat), k < w7.heap.size → W'.cell? ⟨k, j, none⟩ = W.cell? ⟨k, j, none⟩ := fun k j hk => hb.cell (p := ⟨k, j, none⟩) (Nat.lt_of_lt_of_le hk h0.size)
        exact ⟨below_then h0 h0.size hb, (e g 0 HL7.out.1).trans h1, (e g 1 HL7.out.1).trans h2, (e b 0 HL7.out.2.1).trans h3, (e b 1 HL7.out.2.1).trans h4⟩⟩
      have TX : Aside0 (∀ W : World, (Below w7.heap.size w7 W ∧ W.cell? ⟨g, 0, none⟩ = some (.int .u64 hi) ∧ W.cell? ⟨g, 1, none⟩ = some (.int .u64 lo) ∧ W.cell? ⟨b, 0, none⟩ = some (.int .u64 hi) ∧ W.cell? ⟨b, 1, none⟩ = some (.int .u64 lo)) → Calls Tryz.prog 19 #[.agg #[.int .u64 hi, .int .u64 lo]] W fun e w' => e = .returned (.string tx) ∧ Below W.heap.size W w') := ⟨fun W h => by
        rw [HTX.out]
        exact Text6_calls hi lo h0 h1 W ⟨hP.out.stays (below_then B7.out B7.out.size h.1)⟩ ⟨hT.out.stays (below_then B7.out B7.out.size h.1)⟩⟩
      have RT : Aside0 (∀ W : World, Calls Tryz.prog 21 #[.int .u64 hi, .int .u64 lo] W fun e w' => e = .returned (.string tx) ∧ Below W.heap.size W w') := ⟨fun W => by
        rw [HTX.out]
        exact rText5_calls hi lo h0 h1 W⟩
      have OF : Aside0 (∀ W : World, (Below w7.heap.size w7 W ∧ W.cell? ⟨g, 0, none⟩ = some (.int .u64 hi) ∧ W.cell? ⟨g, 1, none⟩ = some (.int .u64 lo) ∧ W.cell? ⟨b, 0, none⟩ = some (.int .u64 hi) ∧ W.cell? ⟨b, 1, none⟩ = some (.int .u64 lo)) → Calls Tryz.prog 22 #[.slice (some ⟨p, 0, none⟩) 8 8] W fun e w' => e = .returned (.agg #[.int .u64 hi, .int .u64 lo]) ∧ Below W.heap.size W w') := ⟨fun W h => by
        have hh := SixOf_calls (some ⟨p, 0, none⟩) 8 (piecesOf hi lo) W (show 8 ≤ 8 from Nat.le_refl 8) PB.out (fun _ => ⟨_, rfl, fun j v hv => by
          rw [Go.Proofs.YtfieiigefllekaaGreatDoorW.PrintWords.add_plain]
          rw [u16s, List.getElem?_map] at hv
          obtain ⟨x, hx, rfl⟩ := Option.map_eq_some_iff.1 hv
          have hj : j < 8 := (List.getElem?_eq_some_iff.1 hx).1
          rw [(h.1.cell (p := ⟨p, j, none⟩) HL7.out.2.2), HP7.out j hj, List.getD_eq_getElem?_getD, hx]
          rfl⟩)
        have hp := half_pieces hi lo
        rw [show eight (piecesOf hi lo) = piecesOf hi lo from rfl, hp.1, hp.2] at hh
        exact hh⟩
      have hs39 : ((tx.size : Nat) : Int) ≤ 39 := by omega
      go_wp2_with fail
      go_region_held3 (fun W => (Below w7.heap.size w7 W ∧ W.cell? ⟨g, 0, none⟩ = some (.int .u64 hi) ∧ W.cell? ⟨g, 1, none⟩ = some (.int .u64 lo) ∧ W.cell? ⟨b, 0, none⟩ = some (.int .u64 hi) ∧ W.cell? ⟨b, 1, none⟩ = some (.int .u64 lo))) (first | exact KS0.out | exact KS.out _ _ (by assumption) (by assumption))
        (first
          | (go_at_call 19; refine (TX.out _ (by assumption)).mono ?_; rintro e w' ⟨rfl, hb⟩)
          | (go_at_call 21; refine (RT.out _).mono ?_; rintro e w' ⟨rfl, hb⟩)
          | (go_at_call 22; refine (OF.out _ (by assumption)).mono ?_; rintro e w' ⟨rfl, hb⟩))
      all_goals
        go_wp2_with fail
        go_ret
        exact ⟨rfl, below_then B7.out B7.out.size (And.left (by assumption))⟩
theorem SixWrites_row (hi lo : Int) (w : World) (w0 : (Lit.int .u64 hi).wf = true) (w1 : (Lit.int .u64 lo).wf = true) (hP : Aside0 (Pows w)) (hT : Aside0 (Debr w)) (hE : Aside0 (Errs w)) (hM : Aside0 (Mx w)) :
    Calls Tryz.prog 4 #[.int .u64 hi, .int .u64 lo] w fun e w' => e = .returned (.bool true) ∧ Below w.heap.size w w' := by
  have b0 := wf_u64 w0
  have b1 := wf_u64 w1
  exact SixWrites_law hi lo ⟨b0.1, by omega⟩ ⟨b1.1, by omega⟩ w hP hT hE hM
end Go.Proofs.YtfieiigefllekaaGreatDoor
