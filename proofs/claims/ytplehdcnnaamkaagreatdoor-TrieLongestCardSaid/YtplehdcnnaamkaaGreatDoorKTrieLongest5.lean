/- Texts that the claim's row leans on, joined by wip/pack.py: TrieLongest Wrap -/
import Derived.Test.YtplehdcnnaamkaaGreatDoorKTrieLongest4
import Derived.Deep.RegionHeld3
import Derived.Handed
import Derived.SizedLaws
import Derived.Shelf.Vars
import Derived.ChangeSlices
import Derived.Carry
/- The law TrieLongest, walked. -/
namespace Go.Proofs.YtplehdcnnaamkaaGreatDoor
open Go.RowKit Go.Proofs.YtplehdcnnaamkaaGreatDoorW.PrintWords Go.Proofs.YtplehdcnnaamkaaGreatDoorW.PrintMore Go.Maps

theorem MapL.mono {w : World} {b n m : Nat} {L : List E4} (h : MapL w b n L) (hm : n ≤ m) : MapL w b m L := by
  obtain ⟨D, h1, h2⟩ := h
  exact ⟨D, h1.mono hm, h2⟩
set_option maxHeartbeats 64000000 in
set_option maxRecDepth 100000 in
theorem TrieLongest_law (A : Option Addr) (c : Nat) (l : List P3) (is : Bool) (hi lo : Int) (w : World) (hok : ∀ p ∈ l, okP3 p) (hrow : PfRow w A l) (h0 : 0 ≤ hi ∧ hi < 18446744073709551616) (h1 : 0 ≤ lo ∧ lo < 18446744073709551616)
    (hP : Aside0 (Pows w)) (hT : Aside0 (Debr w)) (hE : Aside0 (Errs w)) (hM : Aside0 (Mx w)) :
    Calls Tryz.prog 7 #[.slice A l.length c, .bool is, .int .u64 hi, .int .u64 lo] w fun e w' => e = .returned (.bool true) ∧ Below w.heap.size w w' := by
  have HOK := Aside0.mk hok
  have HROW := Aside0.mk hrow
  have MA := Aside0.mk (fun W : World => MakeA_calls is hi lo h0 h1 W)
  have AOK := Aside0.mk (mkA_ok is hi lo h0 h1)
  clear hok hrow h0 h1
  generalize mkA is hi lo = x at MA AOK
  have B0 := Aside0.mk (Below.refl w.heap.size w)
  have hmm := @run_makeMap Tryz.prog
  go_enter Tryz.func7, Tryz.ntmps7
  go_wp2_with fail
  refine (awake8_calls _ ⟨hE.out.stays B0.out⟩ ⟨hM.out.stays B0.out⟩ ⟨hP.out.stays B0.out⟩ ⟨hT.out.stays B0.out⟩).mono ?_
  rintro e w_1 ⟨rfl, hb_1⟩
  have BB_2 := Aside0.mk (below_then B0.out B0.out.size hb_1)
  clear hb_1
  by_cases h60 : l.length ≤ 60
  case neg =>
    go_wp2_with fail
    go_ret
    exact ⟨rfl, BB_2.out⟩
  go_wp2_with fail
  refine (New_calls _).mono ?_
  rintro e w_3 ⟨tt, Nt_3, Dt_3, rfl, hT_3, hb_3, hO_3⟩
  have OWt_3 : Aside0 (∀ k, Own tt Nt_3 k → w.heap.size ≤ k) := ⟨fun k hk => Nat.le_trans BB_2.out.size (hO_3 k hk)⟩
  have Tt_3 := Aside0.mk hT_3
  clear hT_3 hO_3
  have BB_4 := Aside0.mk (below_then BB_2.out BB_2.out.size hb_3)
  clear BB_2 hb_3
  obtain ⟨W_m, hW_m⟩ : ∃ W_m, W_m = w_3.alloc (.map #[] 0) := ⟨_, rfl⟩
  have hMm := MapL.made w_3
  have hb_m : Below w_3.heap.size w_3 W_m := by rw [hW_m]; exact (Below.refl _ _).alloc (Nat.le_refl _) _
  rw [← hW_m] at hMm
  obtain ⟨gm, hgg_m⟩ : ∃ gm, gm = w_3.heap.size := ⟨_, rfl⟩
  rw [← hgg_m] at hMm
  have HGM : Aside0 (w.heap.size ≤ gm) := ⟨by rw [hgg_m]; exact BB_4.out.size⟩
  have HMm := Aside0.mk hMm
  have HGG_m := Lib.hid hgg_m
  have HWW_m := Lib.hid hW_m
  clear hMm hgg_m hW_m
  have Tt_5 := Aside0.mk (Tt_3.out.below hb_m)
  have BB_5 := Aside0.mk (below_then BB_4.out BB_4.out.size hb_m)
  clear BB_4 hb_m
  clear Tt_3
  go_wp2_with fail
  try rw [← HWW_m.out]
  try rw [← HGG_m.out]
  go_loopw [29] (fun x wr => ∃ (i : Nat) (N : Nm) (D : Dm) (L : List E4), x = .int .i64 i ∧ i ≤ l.length ∧ L.length ≤ i ∧ Aside0 (Tri wr tt N D L) ∧ Aside0 (∀ k, Own tt N k → w.heap.size ≤ k) ∧ Aside0 (MapL wr gm i L) ∧ Aside0 (KeysR L (l.take i)) ∧ Aside0 (Below w.heap.size w wr)) (fun x _ => l.length - (intOf x).toNat)
  case atStart => exact ⟨0, _, _, _, rfl, Nat.zero_le _, Nat.le_refl _, Tt_5, OWt_3, HMm, ⟨KeysR.nil⟩, BB_5⟩
  case round =>
    obtain ⟨i, N, D, L, rfl, hi_, hL, HTr, HOr, HMr, HKr, HBr⟩ := hrel
    by_cases hlt : i < l.length
    · have HLW := HTr
      obtain ⟨ad, e, c0, c1, c2⟩ := HROW.out i hlt
      subst e
      have hmem : l.getD i (0, 0, 0) ∈ l := by rw [List.getD_eq_getElem?_getD, List.getElem?_eq_getElem hlt]; exact List.getElem_mem hlt
      have HTK : Aside0 (l.take (i + 1) = l.take i ++ [l.getD i (0, 0, 0)]) := ⟨by rw [List.take_add_one, List.getElem?_eq_getElem hlt, List.getD_eq_getElem?_getD, List.getElem?_eq_getElem hlt]; rfl⟩
      have HQ := Aside0.mk (HOK.out _ hmem)
      have HME := Aside0.mk hmem
      clear hmem
      generalize l.getD i (0, 0, 0) = q at HQ HTK HME c0 c1 c2
      obtain ⟨q0, q1, q2⟩ := q
      obtain ⟨⟨s0, s1⟩, _, _⟩ := HQ.out
      simp only at c0 c1 c2 s0 s1
      have c0 := (HBr.out.cell (cell_lt c0)).trans c0
      have c1 := (HBr.out.cell (cell_lt c1)).trans c1
      have c2 := (HBr.out.cell (cell_lt c2)).trans c2
      have d0 : wr.cell? ⟨(ad.add (i * 3)).block, (ad.add (i * 3)).off, none⟩ = some (.int .u64 q0) := row_at (j := 0) c0
      have d1 : wr.cell? ⟨(ad.add (i * 3)).block, (ad.add (i * 3)).off + 1, none⟩ = some (.int .u64 q1) := row_at (j := 1) c1
      have d2 : wr.cell? ⟨(ad.add (i * 3)).block, (ad.add (i * 3)).off + 2, none⟩ = some (.int .i64 q2) := row_at (j := 2) c2
      clear c1 c2
      obtain ⟨W_1, hW_1⟩ : ∃ W_1, W_1 = wr.alloc (.cells #[.int .u64 q0, .int .u64 q1, .int .i64 q2] 25) := ⟨_, rfl⟩
      obtain ⟨hg_1, hl_1, hb_1⟩ := boxN hW_1
      obtain ⟨gq, hgg_1⟩ : ∃ gq, gq = wr.heap.size := ⟨_, rfl⟩
      rw [← hgg_1] at hg_1 hl_1
      have HAq := Aside0.mk hg_1
      have LAq := hl_1
      have HGG_1 := Lib.hid hgg_1
      have HWW_1 := Lib.hid hW_1
      clear hW_1 hgg_1 hg_1 hl_1
      have Tt_2 := Aside0.mk (HTr.out.below hb_1)
      have Ml_2 := Aside0.mk (HMr.out.kept (hb_1.block _ HMr.out.lt))
      have BB_2 := Aside0.mk (below_then HBr.out HBr.out.size hb_1)
      clear hb_1
      clear HTr HMr
      go_upto_region 10 with (fail)
      try rw [← HWW_1.out]
      try rw [← HGG_1.out]
      clear c0 d0 d1 d2
      have hq := HAq.out
      have KS0 : Aside0 (W_1.drew.cell? ⟨gq, 0, none⟩ = some (.int .u64 q0) ∧ W_1.drew.cell? ⟨gq, 1, none⟩ = some (.int .u64 q1) ∧ W_1.drew.cell? ⟨gq, 2, none⟩ = some (.int .i64 q2)) := ⟨⟨(heap_cell (j := 0) hq rfl).1, (heap_cell (j := 1) hq rfl).1, (heap_cell (j := 2) hq rfl).1⟩⟩
      clear hq
      have HLEN := Aside0.mk (putL_len HLW.out.inv (q0, q1, q2) i)
      cases hr : rightP q0 q1 q2
      · refine wp_region_noPanic ?_
        refine wp_region_held_drew (S := fun W => (W.cell? ⟨gq, 0, none⟩ = some (.int .u64 q0) ∧ W.cell? ⟨gq, 1, none⟩ = some (.int .u64 q1) ∧ W.cell? ⟨gq, 2, none⟩ = some (.int .i64 q2))) (by kernel_rfl) KS0.out (fun _ => ?_)
        generalize hWd : W_1.drew = W_d at KS0 ⊢
        have hbd : Below W_1.heap.size W_1 W_d := by rw [← hWd]; exact (Below.refl _ _).drew
        clear hWd
        have Tt_3 := Aside0.mk (Tt_2.out.below hbd)
        have Ml_3 := Aside0.mk (Ml_2.out.kept (hbd.block _ Ml_2.out.lt))
        have Hq_3 := Aside0.mk ((hbd.block _ LAq).trans HAq.out)
        have lq_3 := Nat.lt_of_lt_of_le LAq hbd.size
        have BB_3 := Aside0.mk (below_then BB_2.out BB_2.out.size hbd)
        clear HAq LAq BB_2 hbd
        clear Tt_2 Ml_2
        refine wpAnyH_take (i := 0) (v := ?_) (by simp only [List.getElem?_toArray, List.getElem?_cons_zero]; rfl) (by kernel_rfl) (by kernel_rfl) (by kernel_rfl) (fun _ _ _ h => h) (Or.inl ⟨by rfl, ?_⟩) KS0.out ?_
        rotate_left
        · intro W hW
          clear hW
          go_simp
          all_goals with_reducible rfl
        try simp only [Act.put, List.setIfInBounds_toArray, List.set_cons_zero, List.set_cons_succ]
        refine wpAnyH_take (i := 1) (v := ?_) (by simp only [List.getElem?_toArray, List.getElem?_cons_zero, List.getElem?_cons_succ]; rfl) (by kernel_rfl) (by kernel_rfl) (by kernel_rfl) (fun _ _ _ h => h) (Or.inl ⟨by rfl, ?_⟩) KS0.out ?_
        rotate_left
        · intro W hW
          obtain ⟨l0, l1, l2⟩ := hW
          go_simp
          all_goals with_reducible rfl
        try simp only [Act.put, List.setIfInBounds_toArray, List.set_cons_zero, List.set_cons_succ]
        refine wpAnyH_take (i := 2) (v := ?_) (by simp only [List.getElem?_toArray, List.getElem?_cons_zero, List.getElem?_cons_succ]; rfl) (by kernel_rfl) (by kernel_rfl) (by kernel_rfl) (fun _ _ _ h => h) (Or.inl ⟨by rfl, ?_⟩) KS0.out ?_
        rotate_left
        · intro W hW
          clear hW
          go_simp
          all_goals with_reducible rfl
        try simp only [Act.put, List.setIfInBounds_toArray, List.set_cons_zero, List.set_cons_succ]
        refine wpAnyH_take (i := 4) (v := ?_) (by simp only [List.getElem?_toArray, List.getElem?_cons_zero, List.getElem?_cons_succ]; rfl) (by kernel_rfl) (by kernel_rfl) (by kernel_rfl) (fun _ _ _ h => h) (Or.inl ⟨by rfl, ?_⟩) KS0.out ?_
        rotate_left
        · intro W hW
          obtain ⟨l0, l1, l2⟩ := hW
          go_simp
          all_goals with_reducible rfl
        try simp only [Act.put, List.setIfInBounds_toArray, List.set_cons_zero, List.set_cons_succ]
        refine wpAnyH_ready (rs := [3]) (by kernel_rfl) (by simp) ?_
        refine AllReadyH.cons (by simp only [List.getElem?_toArray, List.getElem?_cons_zero, List.getElem?_cons_succ]; rfl) (fun K hK => ?_) AllReadyH.nil
        go_simp
        refine (Put_none (some tt) q0 q1 q2 i s0 s1 (.inr hr) _).mono ?_
        rintro e w_4 ⟨rfl, hb_4⟩
        have Tt_5 := Aside0.mk (Tt_3.out.below hb_4)
        have Ml_5 := Aside0.mk (Ml_3.out.kept (hb_4.block _ Ml_3.out.lt))
        have Hq_5 := Aside0.mk ((hb_4.block _ lq_3).trans Hq_3.out)
        have lq_5 := Nat.lt_of_lt_of_le lq_3 hb_4.size
        have BB_5 := Aside0.mk (below_then BB_3.out BB_3.out.size hb_4)
        clear Hq_3 lq_3 BB_3 hb_4
        clear Tt_3 Ml_3
        have hq := Hq_5.out
        have KS_5 : Aside0 (w_4.cell? ⟨gq, 0, none⟩ = some (.int .u64 q0) ∧ w_4.cell? ⟨gq, 1, none⟩ = some (.int .u64 q1) ∧ w_4.cell? ⟨gq, 2, none⟩ = some (.int .i64 q2)) := ⟨⟨(heap_cell (j := 0) hq rfl).1, (heap_cell (j := 1) hq rfl).1, (heap_cell (j := 2) hq rfl).1⟩⟩
        clear hq
        refine hK.out _ _ KS_5.out (fun _ => ?_)
        clear hK K
        try simp only [Act.put, List.setIfInBounds_toArray, List.set_cons_zero, List.set_cons_succ]
        refine wpAnyH_ready (rs := [5]) (by kernel_rfl) (by simp) ?_
        refine AllReadyH.cons (by simp only [List.getElem?_toArray, List.getElem?_cons_zero, List.getElem?_cons_succ]; rfl) (fun K hK => ?_) AllReadyH.nil
        go_simp
        refine (Right_calls q0 q1 q2 s0 s1 _).mono ?_
        rw [hr]
        rintro e w_6 ⟨rfl, hb_6⟩
        have Tt_7 := Aside0.mk (Tt_5.out.below hb_6)
        have Ml_7 := Aside0.mk (Ml_5.out.kept (hb_6.block _ Ml_5.out.lt))
        have Hq_7 := Aside0.mk ((hb_6.block _ lq_5).trans Hq_5.out)
        have lq_7 := Nat.lt_of_lt_of_le lq_5 hb_6.size
        have BB_7 := Aside0.mk (below_then BB_5.out BB_5.out.size hb_6)
        clear Hq_5 lq_5 BB_5 hb_6
        clear Tt_5 Ml_5
        have hq := Hq_7.out
        have KS_7 : Aside0 (w_6.cell? ⟨gq, 0, none⟩ = some (.int .u64 q0) ∧ w_6.cell? ⟨gq, 1, none⟩ = some (.int .u64 q1) ∧ w_6.cell? ⟨gq, 2, none⟩ = some (.int .i64 q2)) := ⟨⟨(heap_cell (j := 0) hq rfl).1, (heap_cell (j := 1) hq rfl).1, (heap_cell (j := 2) hq rfl).1⟩⟩
        clear hq
        refine hK.out _ _ KS_7.out (fun _ => ?_)
        clear hK K
        try simp only [Act.put, List.setIfInBounds_toArray, List.set_cons_zero, List.set_cons_succ]
        refine wpAnyH_take (i := 6) (v := ?_) (by simp only [List.getElem?_toArray, List.getElem?_cons_zero, List.getElem?_cons_succ]; rfl) (by kernel_rfl) (by kernel_rfl) (by kernel_rfl) (fun _ _ _ h => h) (Or.inl ⟨by rfl, ?_⟩) KS_7.out ?_
        rotate_left
        · intro W hW
          clear hW
          go_simp
          all_goals with_reducible rfl
        try simp only [Act.put, List.setIfInBounds_toArray, List.set_cons_zero, List.set_cons_succ]
        refine wpAnyH_done (by kernel_rfl) ?_ _
        refine NoPanic.normal ?_
        have hxq := Hq_7.out
        obtain ⟨kq0, fq0⟩ := heap_cell (j := 0) hxq rfl
        obtain ⟨kq1, fq1⟩ := heap_cell (j := 1) hxq rfl
        obtain ⟨kq2, fq2⟩ := heap_cell (j := 2) hxq rfl
        clear hxq
        go_wp2_with fail
        clear kq0 fq0 kq1 fq1 kq2 fq2
        refine (Right_calls q0 q1 q2 s0 s1 _).mono ?_
        rw [hr]
        rintro e w_8 ⟨rfl, hb_8⟩
        have Tt_9 := Aside0.mk (Tt_7.out.below hb_8)
        have Ml_9 := Aside0.mk (Ml_7.out.kept (hb_8.block _ Ml_7.out.lt))
        have Hq_9 := Aside0.mk ((hb_8.block _ lq_7).trans Hq_7.out)
        have lq_9 := Nat.lt_of_lt_of_le lq_7 hb_8.size
        have BB_9 := Aside0.mk (below_then BB_7.out BB_7.out.size hb_8)
        clear Hq_7 lq_7 BB_7 hb_8
        clear Tt_7 Ml_7
        go_wp2_with fail
        have HK2 : Aside0 (KeysR L (l.take (i + 1))) := ⟨by have hk := HKr.out.step (q0, q1, q2) i; rw [putA, if_neg (show ¬ rP (q0, q1, q2) = true by rw [rP, hr]; exact Bool.false_ne_true)] at hk; rw [HTK.out]; exact hk⟩
        exact ⟨⟨i + 1, _, _, _, by go_num, by omega, by omega, Tt_9, HOr, ⟨Ml_9.out.mono (by omega)⟩, HK2, BB_9⟩, by simp [intOf]; omega⟩
      · refine wp_region_noPanic ?_
        refine wp_region_held_drew (S := fun W => (W.cell? ⟨gq, 0, none⟩ = some (.int .u64 q0) ∧ W.cell? ⟨gq, 1, none⟩ = some (.int .u64 q1) ∧ W.cell? ⟨gq, 2, none⟩ = some (.int .i64 q2))) (by kernel_rfl) KS0.out (fun _ => ?_)
        generalize hWd : W_1.drew = W_d at KS0 ⊢
        have hbd : Below W_1.heap.size W_1 W_d := by rw [← hWd]; exact (Below.refl _ _).drew
        clear hWd
        have Tt_3 := Aside0.mk (Tt_2.out.below hbd)
        have Ml_3 := Aside0.mk (Ml_2.out.kept (hbd.block _ Ml_2.out.lt))
        have Hq_3 := Aside0.mk ((hbd.block _ LAq).trans HAq.out)
        have lq_3 := Nat.lt_of_lt_of_le LAq hbd.size
        have BB_3 := Aside0.mk (below_then BB_2.out BB_2.out.size hbd)
        clear HAq LAq BB_2 hbd
        clear Tt_2 Ml_2
        refine wpAnyH_take (i := 0) (v := ?_) (by simp only [List.getElem?_toArray, List.getElem?_cons_zero]; rfl) (by kernel_rfl) (by kernel_rfl) (by kernel_rfl) (fun _ _ _ h => h) (Or.inl ⟨by rfl, ?_⟩) KS0.out ?_
        rotate_left
        · intro W hW
          clear hW
          go_simp
          all_goals with_reducible rfl
        try simp only [Act.put, List.setIfInBounds_toArray, List.set_cons_zero, List.set_cons_succ]
        refine wpAnyH_take (i := 1) (v := ?_) (by simp only [List.getElem?_toArray, List.getElem?_cons_zero, List.getElem?_cons_succ]; rfl) (by kernel_rfl) (by kernel_rfl) (by kernel_rfl) (fun _ _ _ h => h) (Or.inl ⟨by rfl, ?_⟩) KS0.out ?_
        rotate_left
        · intro W hW
          obtain ⟨l0, l1, l2⟩ := hW
          go_simp
          all_goals with_reducible rfl
        try simp only [Act.put, List.setIfInBounds_toArray, List.set_cons_zero, List.set_cons_succ]
        refine wpAnyH_take (i := 2) (v := ?_) (by simp only [List.getElem?_toArray, List.getElem?_cons_zero, List.getElem?_cons_succ]; rfl) (by kernel_rfl) (by kernel_rfl) (by kernel_rfl) (fun _ _ _ h => h) (Or.inl ⟨by rfl, ?_⟩) KS0.out ?_
        rotate_left
        · intro W hW
          clear hW
          go_simp
          all_goals with_reducible rfl
        try simp only [Act.put, List.setIfInBounds_toArray, List.set_cons_zero, List.set_cons_succ]
        refine wpAnyH_take (i := 4) (v := ?_) (by simp only [List.getElem?_toArray, List.getElem?_cons_zero, List.getElem?_cons_succ]; rfl) (by kernel_rfl) (by kernel_rfl) (by kernel_rfl) (fun _ _ _ h => h) (Or.inl ⟨by rfl, ?_⟩) KS0.out ?_
        rotate_left
        · intro W hW
          obtain ⟨l0, l1, l2⟩ := hW
          go_simp
          all_goals with_reducible rfl
        try simp only [Act.put, List.setIfInBounds_toArray, List.set_cons_zero, List.set_cons_succ]
        refine wpAnyH_ready (rs := [3]) (by kernel_rfl) (by simp) ?_
        refine AllReadyH.cons (by simp only [List.getElem?_toArray, List.getElem?_cons_zero, List.getElem?_cons_succ]; rfl) (fun K hK => ?_) AllReadyH.nil
        go_simp
        refine (Put_calls tt N D L q0 q1 q2 i s0 s1 hr (by omega) _ Tt_3).mono ?_
        rintro e w_4 ⟨rfl, Nt_4, Dt_4, hT, hO⟩
        have Hq_4 := Aside0.mk ((hO.fr.block _ lq_3 (own_not Tt_3.out Hq_3.out (by decide) (by decide))).trans Hq_3.out)
        have lq_4 := Nat.lt_of_lt_of_le lq_3 hO.fr.size
        have Ml_4 := Aside0.mk (Ml_3.out.kept (hO.fr.block _ Ml_3.out.lt (own_not_map Tt_3.out Ml_3.out)))
        have OWt_4 : Aside0 (∀ k, Own tt Nt_4 k → w.heap.size ≤ k) := ⟨fun k hk => (hO.new k hk).elim (HOr.out k) (fun q => Nat.le_trans BB_3.out.size q)⟩
        have BB_4 := Aside0.mk (Fr.below BB_3.out BB_3.out.size hO.fr HOr.out)
        have Tt_4 := Aside0.mk hT
        clear Hq_3 lq_3 Ml_3 BB_3 Tt_3 HOr hT hO
        have hq := Hq_4.out
        have KS_4 : Aside0 (w_4.cell? ⟨gq, 0, none⟩ = some (.int .u64 q0) ∧ w_4.cell? ⟨gq, 1, none⟩ = some (.int .u64 q1) ∧ w_4.cell? ⟨gq, 2, none⟩ = some (.int .i64 q2)) := ⟨⟨(heap_cell (j := 0) hq rfl).1, (heap_cell (j := 1) hq rfl).1, (heap_cell (j := 2) hq rfl).1⟩⟩
        clear hq
        refine hK.out _ _ KS_4.out (fun _ => ?_)
        clear hK K
        try simp only [Act.put, List.setIfInBounds_toArray, List.set_cons_zero, List.set_cons_succ]
        refine wpAnyH_ready (rs := [5]) (by kernel_rfl) (by simp) ?_
        refine AllReadyH.cons (by simp only [List.getElem?_toArray, List.getElem?_cons_zero, List.getElem?_cons_succ]; rfl) (fun K hK => ?_) AllReadyH.nil
        go_simp
        refine (Right_calls q0 q1 q2 s0 s1 _).mono ?_
        rw [hr]
        rintro e w_5 ⟨rfl, hb_5⟩
        have Tt_6 := Aside0.mk (Tt_4.out.below hb_5)
        have Ml_6 := Aside0.mk (Ml_4.out.kept (hb_5.block _ Ml_4.out.lt))
        have Hq_6 := Aside0.mk ((hb_5.block _ lq_4).trans Hq_4.out)
        have lq_6 := Nat.lt_of_lt_of_le lq_4 hb_5.size
        have BB_6 := Aside0.mk (below_then BB_4.out BB_4.out.size hb_5)
        clear Hq_4 lq_4 BB_4 hb_5
        clear Tt_4 Ml_4
        have hq := Hq_6.out
        have KS_6 : Aside0 (w_5.cell? ⟨gq, 0, none⟩ = some (.int .u64 q0) ∧ w_5.cell? ⟨gq, 1, none⟩ = some (.int .u64 q1) ∧ w_5.cell? ⟨gq, 2, none⟩ = some (.int .i64 q2)) := ⟨⟨(heap_cell (j := 0) hq rfl).1, (heap_cell (j := 1) hq rfl).1, (heap_cell (j := 2) hq rfl).1⟩⟩
        clear hq
        refine hK.out _ _ KS_6.out (fun _ => ?_)
        clear hK K
        try simp only [Act.put, List.setIfInBounds_toArray, List.set_cons_zero, List.set_cons_succ]
        refine wpAnyH_take (i := 6) (v := ?_) (by simp only [List.getElem?_toArray, List.getElem?_cons_zero, List.getElem?_cons_succ]; rfl) (by kernel_rfl) (by kernel_rfl) (by kernel_rfl) (fun _ _ _ h => h) (Or.inl ⟨by rfl, ?_⟩) KS_6.out ?_
        rotate_left
        · intro W hW
          clear hW
          go_simp
          all_goals with_reducible rfl
        try simp only [Act.put, List.setIfInBounds_toArray, List.set_cons_zero, List.set_cons_succ]
        refine wpAnyH_done (by kernel_rfl) ?_ _
        refine NoPanic.normal ?_
        have hxq := Hq_6.out
        obtain ⟨kq0, fq0⟩ := heap_cell (j := 0) hxq rfl
        obtain ⟨kq1, fq1⟩ := heap_cell (j := 1) hxq rfl
        obtain ⟨kq2, fq2⟩ := heap_cell (j := 2) hxq rfl
        clear hxq
        go_wp2_with fail
        clear kq0 fq0 kq1 fq1 kq2 fq2
        refine (Right_calls q0 q1 q2 s0 s1 _).mono ?_
        rw [hr]
        rintro e w_7 ⟨rfl, hb_7⟩
        have Tt_8 := Aside0.mk (Tt_6.out.below hb_7)
        have Ml_8 := Aside0.mk (Ml_6.out.kept (hb_7.block _ Ml_6.out.lt))
        have Hq_8 := Aside0.mk ((hb_7.block _ lq_6).trans Hq_6.out)
        have lq_8 := Nat.lt_of_lt_of_le lq_6 hb_7.size
        have BB_8 := Aside0.mk (below_then BB_6.out BB_6.out.size hb_7)
        clear Hq_6 lq_6 BB_6 hb_7
        clear Tt_6 Ml_6
        obtain ⟨DD, hown, hlast⟩ := Ml_8.out
        have hxq := Hq_8.out
        obtain ⟨kq0, fq0⟩ := heap_cell (j := 0) hxq rfl
        obtain ⟨kq1, fq1⟩ := heap_cell (j := 1) hxq rfl
        obtain ⟨kq2, fq2⟩ := heap_cell (j := 2) hxq rfl
        clear hxq
        go_wp2_with (first | (at_mapUpdate; refine wpList_mapUpdate_own _ rfl _ _ _ 58 rfl 25 3 law_pf Tryz.underlying58 _ gm i DD rfl hown (by unfold maxLen; omega) _ _ (kP (q0, q1, q2)) rfl rfl (key_pf _ HQ.out) _ [] (plainElem_int Tryz.underlying3 (wf_ofi64 _ (by omega))) ?_; intro w1 hown1 hgrow1) | go_in)
        clear kq0 fq0 kq1 fq1 kq2 fq2
        have hF := fr_grown hgrow1
        have TF := Aside0.mk (Tt_8.out.fr hF fun k hk e => own_not_map Tt_8.out Ml_8.out (e ▸ hk))
        have BF := Aside0.mk (Fr.below BB_8.out BB_8.out.size hF fun k e => by rw [e]; exact HGM.out)
        have MF : Aside0 (MapL w1 gm (i + 1) (putL L (q0, q1, q2) i)) := ⟨⟨_, hown1, hlast.put (q0, q1, q2) i HQ.out HLEN.out⟩⟩
        have HK2 : Aside0 (KeysR (putL L (q0, q1, q2) i) (l.take (i + 1))) := ⟨by have hk := HKr.out.step (q0, q1, q2) i; rw [putA, if_pos (show rP (q0, q1, q2) = true from hr)] at hk; rw [HTK.out]; exact hk⟩
        have hl2 := putL_most (q0, q1, q2) i L
        exact ⟨⟨i + 1, _, _, _, by go_num, by omega, by omega, TF, OWt_4, MF, HK2, BF⟩, by simp [intOf]; omega⟩
    · obtain rfl : i = l.length := by omega
      clear hlt hi_
      have hL60 : L.length ≤ 60 := by omega
      have HKL : Aside0 (KeysR L l) := ⟨by have hk := HKr.out; rw [List.take_length] at hk; exact hk⟩
      clear HKr
      go_wp2_with fail
      refine (MA.out _).mono ?_
      rintro e w_1 ⟨rfl, rfl⟩
      go_wp2_with fail
      obtain ⟨ba, bb⟩ := ad_bd x AOK.out
      have hbest := Aside0.mk (HTr.out.inv.find (adHi x) (adLo x) ba bb)
      rw [show ((findI (infoI N D) (adHi x) (adLo x) 129).map fun x => (x.2, x.1)) = fndE N D (adHi x) (adLo x) from rfl] at hbest
      have HLW := HTr
      have HAN := Aside0.mk (best_any hbest.out HKL.out)
      rcases hf : fndE N D (adHi x) (adLo x) with _ | ⟨⟨e0, e1, e2⟩, v⟩ <;> rw [hf] at hbest HAN
      · refine (Find_calls tt N D L x AOK.out _ HTr).mono ?_
        rw [hf]
        simp only [findV, pfV, Option.map, Option.getD, Option.isSome]
        rintro e w_2 ⟨rfl, hb_2⟩
        have Tt_3 := Aside0.mk (HTr.out.below hb_2)
        have Ml_3 := Aside0.mk (HMr.out.kept (hb_2.block _ HMr.out.lt))
        have BB_3 := Aside0.mk (below_then HBr.out HBr.out.size hb_2)
        clear hb_2
        clear HTr HMr
        obtain ⟨W_4, hW_4⟩ : ∃ W_4, W_4 = w_2.alloc (.cells #[.int .u64 0, .int .u64 0, .int .i64 0] 25) := ⟨_, rfl⟩
        obtain ⟨hg_4, hl_4, hb_4⟩ := boxN hW_4
        obtain ⟨gf, hgg_4⟩ : ∃ gf, gf = w_2.heap.size := ⟨_, rfl⟩
        rw [← hgg_4] at hg_4 hl_4
        have HAf := Aside0.mk hg_4
        have LAf := hl_4
        have HGG_4 := Lib.hid hgg_4
        have HWW_4 := Lib.hid hW_4
        clear hW_4 hgg_4 hg_4 hl_4
        have Tt_5 := Aside0.mk (Tt_3.out.below hb_4)
        have Ml_5 := Aside0.mk (Ml_3.out.kept (hb_4.block _ Ml_3.out.lt))
        have BB_5 := Aside0.mk (below_then BB_3.out BB_3.out.size hb_4)
        clear BB_3 hb_4
        clear Tt_3 Ml_3
        go_wp2_with fail
        try rw [← HWW_4.out]
        try rw [← HGG_4.out]
        go_loopw [17, 60] (fun y x_ wr => ∃ (i : Nat) (N : Nm) (D : Dm), x_ = .int .i64 i ∧ i ≤ l.length ∧ y = .bool (anyHas (adHi x) (adLo x) (l.take i)) ∧ Aside0 (Tri wr tt N D L) ∧ Aside0 (∀ k, Own tt N k → w.heap.size ≤ k) ∧ Aside0 (MapL wr gm l.length L) ∧ Aside0 (wr.heap[gf]? = some (.cells #[.int .u64 0, .int .u64 0, .int .i64 0] 25 (0, 0))) ∧ Aside0 (Below w.heap.size w wr)) (fun _ x_ _ => l.length - (intOf x_).toNat)
        case atStart => exact ⟨0, _, _, rfl, Nat.zero_le _, rfl, Tt_5, HOr, Ml_5, HAf, BB_5⟩
        case round =>
          obtain ⟨j, N2, D2, rfl, hj_, rfl, HT2, HO2, HM2, HF2, HB2⟩ := hrel
          have lf := heap_lt HF2.out
          by_cases hlt : j < l.length
          · obtain ⟨ad, e, c0, c1, c2⟩ := HROW.out j hlt
            subst e
            have hmem : l.getD j (0, 0, 0) ∈ l := by rw [List.getD_eq_getElem?_getD, List.getElem?_eq_getElem hlt]; exact List.getElem_mem hlt
            have HTK : Aside0 (l.take (j + 1) = l.take j ++ [l.getD j (0, 0, 0)]) := ⟨by rw [List.take_add_one, List.getElem?_eq_getElem hlt, List.getD_eq_getElem?_getD, List.getElem?_eq_getElem hlt]; rfl⟩
            have HQ := Aside0.mk (HOK.out _ hmem)
            have HME := Aside0.mk hmem
            clear hmem
            generalize l.getD j (0, 0, 0) = q at HQ HTK HME c0 c1 c2
            obtain ⟨q0, q1, q2⟩ := q
            obtain ⟨⟨s0, s1⟩, _, _⟩ := HQ.out
            simp only at c0 c1 c2 s0 s1
            have c0 := (HB2.out.cell (cell_lt c0)).trans c0
            have c1 := (HB2.out.cell (cell_lt c1)).trans c1
            have c2 := (HB2.out.cell (cell_lt c2)).trans c2
            have d0 : wr.cell? ⟨(ad.add (j * 3)).block, (ad.add (j * 3)).off, none⟩ = some (.int .u64 q0) := row_at (j := 0) c0
            have d1 : wr.cell? ⟨(ad.add (j * 3)).block, (ad.add (j * 3)).off + 1, none⟩ = some (.int .u64 q1) := row_at (j := 1) c1
            have d2 : wr.cell? ⟨(ad.add (j * 3)).block, (ad.add (j * 3)).off + 2, none⟩ = some (.int .i64 q2) := row_at (j := 2) c2
            clear c1 c2
            have HAY : Aside0 (anyHas (adHi x) (adLo x) (l.take (j + 1)) = (anyHas (adHi x) (adLo x) (l.take j) || hasP q0 q1 q2 (adHi x) (adLo x))) := ⟨by rw [HTK.out, anyHas, List.any_append]; simp [anyHas]⟩
            obtain ⟨W_1, hW_1⟩ : ∃ W_1, W_1 = wr.alloc (.cells #[.int .u64 q0, .int .u64 q1, .int .i64 q2] 25) := ⟨_, rfl⟩
            obtain ⟨hg_1, hl_1, hb_1⟩ := boxN hW_1
            obtain ⟨gq, hgg_1⟩ : ∃ gq, gq = wr.heap.size := ⟨_, rfl⟩
            rw [← hgg_1] at hg_1 hl_1
            have HAq := Aside0.mk hg_1
            have LAq := hl_1
            have HGG_1 := Lib.hid hgg_1
            have HWW_1 := Lib.hid hW_1
            clear hW_1 hgg_1 hg_1 hl_1
            have Tt_2 := Aside0.mk (HT2.out.below hb_1)
            have Ml_2 := Aside0.mk (HM2.out.kept (hb_1.block _ HM2.out.lt))
            have Hf_2 := Aside0.mk ((hb_1.block _ lf).trans HF2.out)
            have lf_2 := Nat.lt_of_lt_of_le lf hb_1.size
            have BB_2 := Aside0.mk (below_then HB2.out HB2.out.size hb_1)
            clear HF2 lf hb_1
            clear HT2 HM2
            have hxq := HAq.out
            obtain ⟨kq0, fq0⟩ := heap_cell (j := 0) hxq rfl
            obtain ⟨kq1, fq1⟩ := heap_cell (j := 1) hxq rfl
            obtain ⟨kq2, fq2⟩ := heap_cell (j := 2) hxq rfl
            clear hxq
            rw [HWW_1.out] at kq0 fq0 kq1 fq1 kq2 fq2
            go_wp2_with fail
            try rw [← HWW_1.out]
            try rw [← HGG_1.out]
            clear kq0 fq0 kq1 fq1 kq2 fq2
            clear c0 d0 d1 d2
            cases hh : hasP q0 q1 q2 (adHi x) (adLo x)
            · refine (PfHas_calls q0 q1 q2 (some x) (ok_some _ AOK.out) s0 s1 _).mono ?_
              rw [hasO, hh]
              rintro e w_3 ⟨rfl, hb_3⟩
              have Tt_4 := Aside0.mk (Tt_2.out.below hb_3)
              have Ml_4 := Aside0.mk (Ml_2.out.kept (hb_3.block _ Ml_2.out.lt))
              have Hf_4 := Aside0.mk ((hb_3.block _ lf_2).trans Hf_2.out)
              have lf_4 := Nat.lt_of_lt_of_le lf_2 hb_3.size
              have Hq_4 := Aside0.mk ((hb_3.block _ LAq).trans HAq.out)
              have lq_4 := Nat.lt_of_lt_of_le LAq hb_3.size
              have BB_4 := Aside0.mk (below_then BB_2.out BB_2.out.size hb_3)
              clear Hf_2 lf_2 HAq LAq BB_2 hb_3
              clear Tt_2 Ml_2
              go_wp2_with fail
              exact ⟨⟨j + 1, _, _, by go_num, by omega, by rw [HAY.out, hh]; simp, Tt_4, HO2, Ml_4, Hf_4, BB_4⟩, by simp [intOf]; omega⟩
            · obtain ⟨e, he, _⟩ := best_len hbest.out HKL.out (q0, q1, q2) HME.out hh
              cases he
          · obtain rfl : j = l.length := by omega
            clear hlt hj_
            have han : anyHas (adHi x) (adLo x) (l.take l.length) = false := by rw [List.take_length, ← HAN.out]; rfl
            rw [han]
            have hxf := HF2.out
            obtain ⟨kf0, ff0⟩ := heap_cell (j := 0) hxf rfl
            obtain ⟨kf1, ff1⟩ := heap_cell (j := 1) hxf rfl
            obtain ⟨kf2, ff2⟩ := heap_cell (j := 2) hxf rfl
            clear hxf
            go_wp2_with fail
            clear kf0 ff0 kf1 ff1 kf2 ff2
            refine (Len_calls tt N2 D2 L _ HT2).mono ?_
            rintro e w_1 ⟨rfl, rfl⟩
            obtain ⟨DE, hown2, hlast2⟩ := HM2.out
            have RL := fun ty => hown2.len Tryz.underlying58 ty
            rw [hlast2.size_] at RL
            go_wp2_with fail
            go_ret
            exact ⟨rfl, HB2.out⟩
      · refine (Find_calls tt N D L x AOK.out _ HTr).mono ?_
        rw [hf]
        simp only [findV, pfV, Option.map, Option.getD, Option.isSome]
        rintro e w_2 ⟨rfl, hb_2⟩
        have Tt_3 := Aside0.mk (HTr.out.below hb_2)
        have Ml_3 := Aside0.mk (HMr.out.kept (hb_2.block _ HMr.out.lt))
        have BB_3 := Aside0.mk (below_then HBr.out HBr.out.size hb_2)
        clear hb_2
        clear HTr HMr
        obtain ⟨W_4, hW_4⟩ : ∃ W_4, W_4 = w_2.alloc (.cells #[.int .u64 e0, .int .u64 e1, .int .i64 e2] 25) := ⟨_, rfl⟩
        obtain ⟨hg_4, hl_4, hb_4⟩ := boxN hW_4
        obtain ⟨gf, hgg_4⟩ : ∃ gf, gf = w_2.heap.size := ⟨_, rfl⟩
        rw [← hgg_4] at hg_4 hl_4
        have HAf := Aside0.mk hg_4
        have LAf := hl_4
        have HGG_4 := Lib.hid hgg_4
        have HWW_4 := Lib.hid hW_4
        clear hW_4 hgg_4 hg_4 hl_4
        have Tt_5 := Aside0.mk (Tt_3.out.below hb_4)
        have Ml_5 := Aside0.mk (Ml_3.out.kept (hb_4.block _ Ml_3.out.lt))
        have BB_5 := Aside0.mk (below_then BB_3.out BB_3.out.size hb_4)
        clear BB_3 hb_4
        clear Tt_3 Ml_3
        go_wp2_with fail
        try rw [← HWW_4.out]
        try rw [← HGG_4.out]
        go_loopw [17, 60] (fun y x_ wr => ∃ (i : Nat) (N : Nm) (D : Dm), x_ = .int .i64 i ∧ i ≤ l.length ∧ y = .bool (anyHas (adHi x) (adLo x) (l.take i)) ∧ Aside0 (Tri wr tt N D L) ∧ Aside0 (∀ k, Own tt N k → w.heap.size ≤ k) ∧ Aside0 (MapL wr gm l.length L) ∧ Aside0 (wr.heap[gf]? = some (.cells #[.int .u64 e0, .int .u64 e1, .int .i64 e2] 25 (0, 0))) ∧ Aside0 (Below w.heap.size w wr)) (fun _ x_ _ => l.length - (intOf x_).toNat)
        case atStart => exact ⟨0, _, _, rfl, Nat.zero_le _, rfl, Tt_5, HOr, Ml_5, HAf, BB_5⟩
        case round =>
          obtain ⟨j, N2, D2, rfl, hj_, rfl, HT2, HO2, HM2, HF2, HB2⟩ := hrel
          have lf := heap_lt HF2.out
          by_cases hlt : j < l.length
          · obtain ⟨ad, e, c0, c1, c2⟩ := HROW.out j hlt
            subst e
            have hmem : l.getD j (0, 0, 0) ∈ l := by rw [List.getD_eq_getElem?_getD, List.getElem?_eq_getElem hlt]; exact List.getElem_mem hlt
            have HTK : Aside0 (l.take (j + 1) = l.take j ++ [l.getD j (0, 0, 0)]) := ⟨by rw [List.take_add_one, List.getElem?_eq_getElem hlt, List.getD_eq_getElem?_getD, List.getElem?_eq_getElem hlt]; rfl⟩
            have HQ := Aside0.mk (HOK.out _ hmem)
            have HME := Aside0.mk hmem
            clear hmem
            generalize l.getD j (0, 0, 0) = q at HQ HTK HME c0 c1 c2
            obtain ⟨q0, q1, q2⟩ := q
            obtain ⟨⟨s0, s1⟩, _, _⟩ := HQ.out
            simp only at c0 c1 c2 s0 s1
            have c0 := (HB2.out.cell (cell_lt c0)).trans c0
            have c1 := (HB2.out.cell (cell_lt c1)).trans c1
            have c2 := (HB2.out.cell (cell_lt c2)).trans c2
            have d0 : wr.cell? ⟨(ad.add (j * 3)).block, (ad.add (j * 3)).off, none⟩ = some (.int .u64 q0) := row_at (j := 0) c0
            have d1 : wr.cell? ⟨(ad.add (j * 3)).block, (ad.add (j * 3)).off + 1, none⟩ = some (.int .u64 q1) := row_at (j := 1) c1
            have d2 : wr.cell? ⟨(ad.add (j * 3)).block, (ad.add (j * 3)).off + 2, none⟩ = some (.int .i64 q2) := row_at (j := 2) c2
            clear c1 c2
            have HAY : Aside0 (anyHas (adHi x) (adLo x) (l.take (j + 1)) = (anyHas (adHi x) (adLo x) (l.take j) || hasP q0 q1 q2 (adHi x) (adLo x))) := ⟨by rw [HTK.out, anyHas, List.any_append]; simp [anyHas]⟩
            obtain ⟨W_1, hW_1⟩ : ∃ W_1, W_1 = wr.alloc (.cells #[.int .u64 q0, .int .u64 q1, .int .i64 q2] 25) := ⟨_, rfl⟩
            obtain ⟨hg_1, hl_1, hb_1⟩ := boxN hW_1
            obtain ⟨gq, hgg_1⟩ : ∃ gq, gq = wr.heap.size := ⟨_, rfl⟩
            rw [← hgg_1] at hg_1 hl_1
            have HAq := Aside0.mk hg_1
            have LAq := hl_1
            have HGG_1 := Lib.hid hgg_1
            have HWW_1 := Lib.hid hW_1
            clear hW_1 hgg_1 hg_1 hl_1
            have Tt_2 := Aside0.mk (HT2.out.below hb_1)
            have Ml_2 := Aside0.mk (HM2.out.kept (hb_1.block _ HM2.out.lt))
            have Hf_2 := Aside0.mk ((hb_1.block _ lf).trans HF2.out)
            have lf_2 := Nat.lt_of_lt_of_le lf hb_1.size
            have BB_2 := Aside0.mk (below_then HB2.out HB2.out.size hb_1)
            clear HF2 lf hb_1
            clear HT2 HM2
            have hxq := HAq.out
            obtain ⟨kq0, fq0⟩ := heap_cell (j := 0) hxq rfl
            obtain ⟨kq1, fq1⟩ := heap_cell (j := 1) hxq rfl
            obtain ⟨kq2, fq2⟩ := heap_cell (j := 2) hxq rfl
            clear hxq
            rw [HWW_1.out] at kq0 fq0 kq1 fq1 kq2 fq2
            go_wp2_with fail
            try rw [← HWW_1.out]
            try rw [← HGG_1.out]
            clear kq0 fq0 kq1 fq1 kq2 fq2
            clear c0 d0 d1 d2
            cases hh : hasP q0 q1 q2 (adHi x) (adLo x)
            · refine (PfHas_calls q0 q1 q2 (some x) (ok_some _ AOK.out) s0 s1 _).mono ?_
              rw [hasO, hh]
              rintro e w_3 ⟨rfl, hb_3⟩
              have Tt_4 := Aside0.mk (Tt_2.out.below hb_3)
              have Ml_4 := Aside0.mk (Ml_2.out.kept (hb_3.block _ Ml_2.out.lt))
              have Hf_4 := Aside0.mk ((hb_3.block _ lf_2).trans Hf_2.out)
              have lf_4 := Nat.lt_of_lt_of_le lf_2 hb_3.size
              have Hq_4 := Aside0.mk ((hb_3.block _ LAq).trans HAq.out)
              have lq_4 := Nat.lt_of_lt_of_le LAq hb_3.size
              have BB_4 := Aside0.mk (below_then BB_2.out BB_2.out.size hb_3)
              clear Hf_2 lf_2 HAq LAq BB_2 hb_3
              clear Tt_2 Ml_2
              go_wp2_with fail
              exact ⟨⟨j + 1, _, _, by go_num, by omega, by rw [HAY.out, hh]; simp, Tt_4, HO2, Ml_4, Hf_4, BB_4⟩, by simp [intOf]; omega⟩
            · have hle : q2 ≤ e2 := by obtain ⟨e, he, hl⟩ := best_len hbest.out HKL.out (q0, q1, q2) HME.out hh; cases he; exact hl
              refine (PfHas_calls q0 q1 q2 (some x) (ok_some _ AOK.out) s0 s1 _).mono ?_
              rw [hasO, hh]
              rintro e w_3 ⟨rfl, hb_3⟩
              have Tt_4 := Aside0.mk (Tt_2.out.below hb_3)
              have Ml_4 := Aside0.mk (Ml_2.out.kept (hb_3.block _ Ml_2.out.lt))
              have Hf_4 := Aside0.mk ((hb_3.block _ lf_2).trans Hf_2.out)
              have lf_4 := Nat.lt_of_lt_of_le lf_2 hb_3.size
              have Hq_4 := Aside0.mk ((hb_3.block _ LAq).trans HAq.out)
              have lq_4 := Nat.lt_of_lt_of_le LAq hb_3.size
              have BB_4 := Aside0.mk (below_then BB_2.out BB_2.out.size hb_3)
              clear Hf_2 lf_2 HAq LAq BB_2 hb_3
              clear Tt_2 Ml_2
              have hxq := Hq_4.out
              obtain ⟨kq0, fq0⟩ := heap_cell (j := 0) hxq rfl
              obtain ⟨kq1, fq1⟩ := heap_cell (j := 1) hxq rfl
              obtain ⟨kq2, fq2⟩ := heap_cell (j := 2) hxq rfl
              clear hxq
              have hxf := Hf_4.out
              obtain ⟨kf0, ff0⟩ := heap_cell (j := 0) hxf rfl
              obtain ⟨kf1, ff1⟩ := heap_cell (j := 1) hxf rfl
              obtain ⟨kf2, ff2⟩ := heap_cell (j := 2) hxf rfl
              clear hxf
              go_wp2_with fail
              clear kq0 fq0 kq1 fq1 kq2 fq2 kf0 ff0 kf1 ff1 kf2 ff2
              exact ⟨⟨j + 1, _, _, by go_num, by omega, by rw [HAY.out, hh]; simp, Tt_4, HO2, Ml_4, Hf_4, BB_4⟩, by simp [intOf]; omega⟩
          · obtain rfl : j = l.length := by omega
            clear hlt hj_
            have han : anyHas (adHi x) (adLo x) (l.take l.length) = true := by rw [List.take_length, ← HAN.out]; rfl
            rw [han]
            have hxf := HF2.out
            obtain ⟨kf0, ff0⟩ := heap_cell (j := 0) hxf rfl
            obtain ⟨kf1, ff1⟩ := heap_cell (j := 1) hxf rfl
            obtain ⟨kf2, ff2⟩ := heap_cell (j := 2) hxf rfl
            clear hxf
            go_wp2_with fail
            clear kf0 ff0 kf1 ff1 kf2 ff2
            have hme : getL L (e0, e1, e2) = some v := HLW.out.inv.getL_of hbest.out.1
            have hke : okP3 (e0, e1, e2) := HOK.out _ ((HKL.out _).1 ⟨v, hbest.out.1⟩).1
            have hhe : hasP e0 e1 e2 (adHi x) (adLo x) = true := hbest.out.2.1
            refine (PfHas_calls e0 e1 e2 (some x) (ok_some _ AOK.out) hke.1.1 hke.1.2 _).mono ?_
            rw [hasO, hhe]
            rintro e w_1 ⟨rfl, hb_1⟩
            have Tt_2 := Aside0.mk (HT2.out.below hb_1)
            have Ml_2 := Aside0.mk (HM2.out.kept (hb_1.block _ HM2.out.lt))
            have Hf_2 := Aside0.mk ((hb_1.block _ lf).trans HF2.out)
            have lf_2 := Nat.lt_of_lt_of_le lf hb_1.size
            have BB_2 := Aside0.mk (below_then HB2.out HB2.out.size hb_1)
            clear HF2 lf hb_1
            clear HT2 HM2
            have hxf := Hf_2.out
            obtain ⟨kf0, ff0⟩ := heap_cell (j := 0) hxf rfl
            obtain ⟨kf1, ff1⟩ := heap_cell (j := 1) hxf rfl
            obtain ⟨kf2, ff2⟩ := heap_cell (j := 2) hxf rfl
            clear hxf
            obtain ⟨DD, hown, hlast⟩ := Ml_2.out
            obtain ⟨cc, hrun, hat, _⟩ := hown.lookup_int law_pf Tryz.underlying58 Tryz.underlying3 (zero_int _) (key_pf _ hke)
            rw [hlast.at_ _ hke, hme] at hat
            obtain rfl : v = cc := by simpa using hat
            clear hat
            go_wp2_with fail
            clear kf0 ff0 kf1 ff1 kf2 ff2
            refine (Len_calls tt N2 D2 L _ Tt_2).mono ?_
            rintro e w_3 ⟨rfl, rfl⟩
            obtain ⟨DE, hown2, hlast2⟩ := Ml_2.out
            have RL := fun ty => hown2.len Tryz.underlying58 ty
            rw [hlast2.size_] at RL
            go_wp2_with fail
            go_ret
            exact ⟨rfl, BB_2.out⟩
theorem TrieLongest_row (A : Option Addr) (c : Nat) (l : List P3) (is : Bool) (hi lo : Int) (w : World) (hs : l.length ≤ c ∧ (∀ p ∈ l, okP3 p) ∧ PfRow w A l) (w3 : (Lit.int .u64 hi).wf = true) (w4 : (Lit.int .u64 lo).wf = true)
    (hP : Aside0 (Pows w)) (hT : Aside0 (Debr w)) (hE : Aside0 (Errs w)) (hM : Aside0 (Mx w)) :
    Calls Tryz.prog 7 #[.slice A l.length c, .bool is, .int .u64 hi, .int .u64 lo] w fun e w' => e = .returned (.bool true) ∧ Below w.heap.size w w' := by
  have a2 := wf_u64 w3
  have a3 := wf_u64 w4
  exact TrieLongest_law A c l is hi lo w hs.2.1 hs.2.2 (by omega) (by omega) hP hT hE hM
end Go.Proofs.YtplehdcnnaamkaaGreatDoor

/- A row that lists variables, its world's shape kept; a slice of numbers that came in: opened. -/
namespace Go.Proofs.YtplehdcnnaamkaaGreatDoor
open Go.ChangeShapes Go.WideShapes Go.RowKit

theorem returns_and_shaped {H : Type} {enc : TypeId × Value → H} {a : Assume} {C : Checked} {os : Os} {f : FuncId} {fn : Func} {s : ChangeSpec} {conds : List PathCond} {apart fresh handsOn again : Bool} {X : World → Array Value → Prop}
    (hX : ∀ (w w' : World) (args : Array Value), w.heap = w'.heap → X w args → X w' args)
    (own : ownKnob C.prog.godebug = none) (started : os.Started) (noInit : C.prog.inits.idxOf? f = none) (hfn : C.prog.funcs[f]? = some fn)
    (witness : ∃ (w : World) (tape : Tape) (i : Input), w.os = os ∧ (w.forCall tape i).Shaped C.prog ∧ i.vars = [] ∧ Input.okWide C.prog (w.forCall tape i) .any w.heap.size f i ∧
      ((s.pre enc C.prog fn conds apart (w.forCall tape i).memory i.args ∧ X (w.forCall tape i).memory i.args) ∧ sizedMet enc C.prog fn (OpenSpec.ofChange s) apart (w.forCall tape i).memory i.args) ∧ a.holds C.prog (lone (Frame.enter C.prog f i.args .normal) [] (w.forCall tape i)))
    (contract : ∀ (W : World) (base : Nat) (args : Array Value) (ds gs : List (DataW H)) (before : List MemPlace),
      (∀ (j : Nat) t v, fn.params[j]? = some t → args[j]? = some v → Value.okWide C.prog W .any base t v) →
      DataW.Whole enc C.prog fn.params.toList s.vars apart W args.toList ds gs before →
      conds.all (PathCond.test C.prog ⟨fn.params.toList, ds, s.plain.varTypes C.prog, gs⟩) = true →
      (DataW.weightsEach C.prog (fn.params.toList ++ s.plain.varTypes C.prog) (ds ++ gs)).all (· ≤ reachBytes) = true → X W args → W.ShapedOpen C.prog →
      a.holds C.prog (lone (Frame.enter C.prog f args .normal) [] W) →
      Calls C.prog f args W fun e W' => ∃ v, e = .returned v ∧ s.post enc C.prog fn apart fresh handsOn again W args v W') :
    ReturnsInHanded a C os f .any (fun w args => (s.pre enc C.prog fn conds apart w args ∧ X w args) ∧ sizedMet enc C.prog fn (OpenSpec.ofChange s) apart w args) (s.post enc C.prog fn apart fresh handsOn again) := by
  refine returnsInHanded_of_calls own started noInit witness ?_
  intro w tape i _ hsh _ hok hpre hholds
  obtain ⟨_, _, _, fn', hfn', _, _, _, _, hval⟩ := hok
  obtain rfl : fn' = fn := Option.some.inj (hfn'.symm.trans hfn)
  obtain ⟨⟨⟨ds, gs, before, hw, hc⟩, hx⟩, hz⟩ := hpre
  have hw' := DataW.Whole.of_heap (w' := w.forCall tape i) (by rfl) hw
  refine (contract (w.forCall tape i) w.heap.size i.args ds gs before hval hw' hc (hz.weights hw) (hX _ _ _ (by rfl) hx) hsh hholds).mono fun e W' ⟨v, he, hp⟩ => ?_
  subst he
  exact ChangeSpec.post_blind hp
theorem mx_of {W : World} (h : W.ShapedOpen Tryz.prog) : Mx W :=
  Go.Proofs.cell_of_shapedOpen_int (zero := #[.int .i64 0]) (t := 3) h (of_decide_eq_true (by kernel_rfl)) (by kernel_rfl) rfl (by kernel_rfl) (by kernel_rfl) Tryz.underlying3

end Go.Proofs.YtplehdcnnaamkaaGreatDoor

