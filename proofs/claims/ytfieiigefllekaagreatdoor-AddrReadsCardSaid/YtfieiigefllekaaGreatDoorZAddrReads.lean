/- The law AddrReads, walked. -/
import Derived.Test.YtfieiigefllekaaGreatDoorZAw6
import Derived.Deep.RegionHeld3
namespace Go.Proofs.YtfieiigefllekaaGreatDoor
open Go.RowKit Go.Proofs.YtfieiigefllekaaGreatDoorW.PrintWords Go.Proofs.YtfieiigefllekaaGreatDoorW.PrintMore

set_option maxHeartbeats 8000000 in
set_option maxRecDepth 100000 in
theorem AddrReads_row (s : ByteArray) (w : World) (_hw : s.size ≤ 140737488351232) (hP : Aside0 (Pows w)) (hT : Aside0 (Debr w)) (hE : Aside0 (Errs w)) (hM : Aside0 (Mx w)) :
    Calls Tryz.prog 5 #[.string s] w fun e w' => e = .returned (.bool true) ∧ Below w.heap.size w w' := by
  by_cases h5 : s.size ≤ 500
  · go_enter Tryz.func5, Tryz.ntmps5
    go_wp2_with fail
    refine (awake6_calls _ hE hM hP hT).mono ?_
    rintro e w1 ⟨rfl, b1⟩
    have B1 := Aside0.mk b1
    go_wp2_with fail
    refine (AdParse_calls s w1 (by omega) ⟨hE.out.stays b1⟩ ⟨hM.out.stays b1⟩).mono ?_
    rintro e w2 ⟨rfl, b2⟩
    have B2 := Aside0.mk (below_then B1.out B1.out.size b2)
    clear b1 b2
    have HO := Aside0.mk (AdOf_calls (adOf s.data.toList) (adOf_ok s.data.toList))
    have hpr := refParse6_calls s
    generalize adOf s.data.toList = o at HO hpr ⊢
    have HPR := Aside0.mk hpr
    clear hpr
    go_wp2_with fail
    refine (HPR.out _ (by omega)).mono ?_
    rintro e w3 ⟨rfl, b3⟩
    have B3 := Aside0.mk (below_then B2.out B2.out.size b3)
    clear b3
    rcases o with _ | ⟨sx, hi, lo⟩
    · simp only [adVo, refV, Option.isSome] at HO ⊢
      go_wp2_with fail
      obtain ⟨W3, hW3⟩ : ∃ W3, W3 = w3.alloc (.cells #[.bool false, .int .u64 0, .int .u64 0] 48) := ⟨_, rfl⟩
      rw [← hW3]
      have hg : W3.heap[w3.heap.size]? = some (.cells #[.bool false, .int .u64 0, .int .u64 0] 48 (0, 0)) := by rw [hW3]; exact heap_alloc_new' _ _ _ rfl
      have hlt : w3.heap.size < W3.heap.size := by rw [hW3]; simp
      have BW3 : Aside0 (Below w3.heap.size w3 W3) := ⟨by rw [hW3]; exact (Below.refl _ _).alloc (Nat.le_refl _) _⟩
      have B4 : Aside0 (∀ W, Below w3.heap.size w3 W → Below w.heap.size w W) := ⟨fun W h => below_then B3.out B3.out.size h⟩
      clear hW3
      obtain ⟨g, hgs⟩ : ∃ g, g = w3.heap.size := ⟨_, rfl⟩
      rw [← hgs] at hg ⊢
      have hlg : g < W3.heap.size := by rw [hgs]; exact hlt
      have KS0 : Aside0 (Below w3.heap.size w3 W3.drew ∧ W3.drew.cell? ⟨g, 0, none⟩ = some (.bool false) ∧ W3.drew.cell? ⟨g, 1, none⟩ = some (.int .u64 0) ∧ W3.drew.cell? ⟨g, 2, none⟩ = some (.int .u64 0)) := ⟨BW3.out.drew, (heap_cell (j := 0) hg rfl).1, (heap_cell (j := 1) hg rfl).1, (heap_cell (j := 2) hg rfl).1⟩
      have KS : Aside0 (∀ W W' : World, (g < W.heap.size ∧ (Below w3.heap.size w3 W ∧ W.cell? ⟨g, 0, none⟩ = some (.bool false) ∧ W.cell? ⟨g, 1, none⟩ = some (.int .u64 0) ∧ W.cell? ⟨g, 2, none⟩ = some (.int .u64 0))) → Below W.heap.size W W' → (g < W'.heap.size ∧ (Below w3.heap.size w3 W' ∧ W'.cell? ⟨g, 0, none⟩ = some (.bool false) ∧ W'.cell? ⟨g, 1, none⟩ = some (.int .u64 0) ∧ W'.cell? ⟨g, 2, none⟩ = some (.int .u64 0)))) := ⟨fun W W' h hb => by
        obtain ⟨hz, h0, h1, h2, h3⟩ := h
        exact ⟨Nat.lt_of_lt_of_le hz hb.size, below_then h0 h0.size hb, (hb.cell (p := ⟨g, 0, none⟩) hz).trans h1, (hb.cell (p := ⟨g, 1, none⟩) hz).trans h2, (hb.cell (p := ⟨g, 2, none⟩) hz).trans h3⟩⟩
      have KS1 : Aside0 (g < W3.drew.heap.size ∧ (Below w3.heap.size w3 W3.drew ∧ W3.drew.cell? ⟨g, 0, none⟩ = some (.bool false) ∧ W3.drew.cell? ⟨g, 1, none⟩ = some (.int .u64 0) ∧ W3.drew.cell? ⟨g, 2, none⟩ = some (.int .u64 0))) := ⟨hlg, KS0.out⟩
      clear hg hgs hlt hlg BW3 KS0
      first
        | go_loud (go_region_held3 (fun W => g < W.heap.size ∧ Below w3.heap.size w3 W ∧ W.cell? ⟨g, 0, none⟩ = some (.bool false) ∧ W.cell? ⟨g, 1, none⟩ = some (.int .u64 0) ∧ W.cell? ⟨g, 2, none⟩ = some (.int .u64 0)) (first | assumption | exact KS1.out | exact KS.out _ _ (by assumption) (by assumption))
            (first | (go_at_call 26; refine (HO.out _).mono ?_; rintro e w' ⟨rfl, hb⟩)))
        | fail
      all_goals
        go_wp2_with fail
        go_ret
        exact ⟨rfl, B4.out _ (And.left (And.right (by assumption)))⟩
    · cases sx
      · simp only [adVo, adV, refV, adHi, adLo, Option.isSome] at HO ⊢
        go_wp2_with fail
        obtain ⟨W3, hW3⟩ : ∃ W3, W3 = w3.alloc (.cells #[.bool false, .int .u64 0, .int .u64 (281470681743360 + lo)] 48) := ⟨_, rfl⟩
        rw [← hW3]
        have hg : W3.heap[w3.heap.size]? = some (.cells #[.bool false, .int .u64 0, .int .u64 (281470681743360 + lo)] 48 (0, 0)) := by rw [hW3]; exact heap_alloc_new' _ _ _ rfl
        have hlt : w3.heap.size < W3.heap.size := by rw [hW3]; simp
        have BW3 : Aside0 (Below w3.heap.size w3 W3) := ⟨by rw [hW3]; exact (Below.refl _ _).alloc (Nat.le_refl _) _⟩
        have B4 : Aside0 (∀ W, Below w3.heap.size w3 W → Below w.heap.size w W) := ⟨fun W h => below_then B3.out B3.out.size h⟩
        clear hW3
        obtain ⟨g, hgs⟩ : ∃ g, g = w3.heap.size := ⟨_, rfl⟩
        rw [← hgs] at hg ⊢
        have hlg : g < W3.heap.size := by rw [hgs]; exact hlt
        have KS : Aside0 (∀ W W' : World, (g < W.heap.size ∧ Below w3.heap.size w3 W ∧ W.cell? ⟨g, 0, none⟩ = some (.bool false) ∧ W.cell? ⟨g, 1, none⟩ = some (.int .u64 0) ∧ W.cell? ⟨g, 2, none⟩ = some (.int .u64 (281470681743360 + lo))) → Below W.heap.size W W' → (g < W'.heap.size ∧ Below w3.heap.size w3 W' ∧ W'.cell? ⟨g, 0, none⟩ = some (.bool false) ∧ W'.cell? ⟨g, 1, none⟩ = some (.int .u64 0) ∧ W'.cell? ⟨g, 2, none⟩ = some (.int .u64 (281470681743360 + lo)))) := ⟨fun W W' h hb => by
          obtain ⟨hz, h0, h1, h2, h3⟩ := h
          exact ⟨Nat.lt_of_lt_of_le hz hb.size, below_then h0 h0.size hb, (hb.cell (p := ⟨g, 0, none⟩) hz).trans h1, (hb.cell (p := ⟨g, 1, none⟩) hz).trans h2, (hb.cell (p := ⟨g, 2, none⟩) hz).trans h3⟩⟩
        have KS1 : Aside0 (g < W3.drew.heap.size ∧ Below w3.heap.size w3 W3.drew ∧ W3.drew.cell? ⟨g, 0, none⟩ = some (.bool false) ∧ W3.drew.cell? ⟨g, 1, none⟩ = some (.int .u64 0) ∧ W3.drew.cell? ⟨g, 2, none⟩ = some (.int .u64 (281470681743360 + lo))) := ⟨hlg, BW3.out.drew, (heap_cell (j := 0) hg rfl).1, (heap_cell (j := 1) hg rfl).1, (heap_cell (j := 2) hg rfl).1⟩
        clear hg hgs hlt hlg BW3
        refine wp_region_noPanic ?_
        refine wp_region_held_drew (S := fun W => (g < W.heap.size ∧ Below w3.heap.size w3 W ∧ W.cell? ⟨g, 0, none⟩ = some (.bool false) ∧ W.cell? ⟨g, 1, none⟩ = some (.int .u64 0) ∧ W.cell? ⟨g, 2, none⟩ = some (.int .u64 (281470681743360 + lo)))) (by kernel_rfl) KS1.out (fun _ => ?_)
        generalize W3.drew = W4 at KS1 ⊢
        refine wpAnyH_take (i := 0) (v := ?_) (by simp only [List.getElem?_toArray, List.getElem?_cons_zero]; rfl) (by kernel_rfl) (by kernel_rfl) (by kernel_rfl) (fun _ _ _ h => h) (Or.inl ⟨by rfl, ?_⟩) KS1.out ?_
        rotate_left
        · intro W hW
          clear hW
          go_simp
          all_goals with_reducible rfl
        try simp only [Act.put, List.setIfInBounds_toArray, List.set_cons_zero, List.set_cons_succ]
        refine wpAnyH_take (i := 1) (v := ?_) (by simp only [List.getElem?_toArray, List.getElem?_cons_zero, List.getElem?_cons_succ]; rfl) (by kernel_rfl) (by kernel_rfl) (by kernel_rfl) (fun _ _ _ h => h) (Or.inl ⟨by rfl, ?_⟩) KS1.out ?_
        rotate_left
        · intro W hW
          clear hW
          go_simp
          all_goals with_reducible rfl
        try simp only [Act.put, List.setIfInBounds_toArray, List.set_cons_zero, List.set_cons_succ]
        refine wpAnyH_take (i := 2) (v := ?_) (by simp only [List.getElem?_toArray, List.getElem?_cons_zero, List.getElem?_cons_succ]; rfl) (by kernel_rfl) (by kernel_rfl) (by kernel_rfl) (fun _ _ _ h => h) (Or.inl ⟨by rfl, ?_⟩) KS1.out ?_
        rotate_left
        · intro W hW
          clear hW
          go_simp
          all_goals with_reducible rfl
        try simp only [Act.put, List.setIfInBounds_toArray, List.set_cons_zero, List.set_cons_succ]
        refine wpAnyH_take (i := 3) (v := ?_) (by simp only [List.getElem?_toArray, List.getElem?_cons_zero, List.getElem?_cons_succ]; rfl) (by kernel_rfl) (by kernel_rfl) (by kernel_rfl) (fun _ _ _ h => h) (Or.inl ⟨by rfl, ?_⟩) KS1.out ?_
        rotate_left
        · intro W hW
          clear hW
          go_simp
          all_goals with_reducible rfl
        try simp only [Act.put, List.setIfInBounds_toArray, List.set_cons_zero, List.set_cons_succ]
        refine wpAnyH_take (i := 4) (v := ?_) (by simp only [List.getElem?_toArray, List.getElem?_cons_zero, List.getElem?_cons_succ]; rfl) (by kernel_rfl) (by kernel_rfl) (by kernel_rfl) (fun _ _ _ h => h) (Or.inl ⟨by rfl, ?_⟩) KS1.out ?_
        rotate_left
        · intro W hW
          clear hW
          go_simp
          all_goals with_reducible rfl
        try simp only [Act.put, List.setIfInBounds_toArray, List.set_cons_zero, List.set_cons_succ]
        refine wpAnyH_take (i := 6) (v := ?_) (by simp only [List.getElem?_toArray, List.getElem?_cons_zero, List.getElem?_cons_succ]; rfl) (by kernel_rfl) (by kernel_rfl) (by kernel_rfl) (fun _ _ _ h => h) (Or.inl ⟨by rfl, ?_⟩) KS1.out ?_
        rotate_left
        · intro W hW
          obtain ⟨_, _, k0, k1, k2⟩ := hW
          go_simp
          all_goals with_reducible rfl
        try simp only [Act.put, List.setIfInBounds_toArray, List.set_cons_zero, List.set_cons_succ]
        refine wpAnyH_ready (rs := [5]) (by kernel_rfl) (by simp) ?_
        refine AllReadyH.cons (by simp only [List.getElem?_toArray, List.getElem?_cons_zero, List.getElem?_cons_succ]; rfl) (fun K hK => ?_) AllReadyH.nil
        go_simp
        refine (HO.out _).mono ?_
        rintro e W5 ⟨rfl, hb⟩
        have KS2 := Aside0.mk (KS.out _ _ KS1.out hb)
        refine hK.out _ _ KS2.out (fun _ => ?_)
        clear hK K hb
        try simp only [Act.put, List.setIfInBounds_toArray, List.set_cons_zero, List.set_cons_succ]
        refine wpAnyH_take (i := 7) (v := ?_) (by simp only [List.getElem?_toArray, List.getElem?_cons_zero, List.getElem?_cons_succ]; rfl) (by kernel_rfl) (by kernel_rfl) (by kernel_rfl) (fun _ _ _ h => h) (Or.inl ⟨by rfl, ?_⟩) KS2.out ?_
        rotate_left
        · intro W hW
          clear hW
          go_simp
          all_goals with_reducible rfl
        try simp only [Act.put, List.setIfInBounds_toArray, List.set_cons_zero, List.set_cons_succ]
        refine wpAnyH_take (i := 8) (v := ?_) (by simp only [List.getElem?_toArray, List.getElem?_cons_zero, List.getElem?_cons_succ]; rfl) (by kernel_rfl) (by kernel_rfl) (by kernel_rfl) (fun _ _ _ h => h) (Or.inl ⟨by rfl, ?_⟩) KS2.out ?_
        rotate_left
        · intro W hW
          clear hW
          go_simp
          all_goals with_reducible rfl
        try simp only [Act.put, List.setIfInBounds_toArray, List.set_cons_zero, List.set_cons_succ]
        refine wpAnyH_take (i := 9) (v := ?_) (by simp only [List.getElem?_toArray, List.getElem?_cons_zero, List.getElem?_cons_succ]; rfl) (by kernel_rfl) (by kernel_rfl) (by kernel_rfl) (fun _ _ _ h => h) (Or.inl ⟨by rfl, ?_⟩) KS2.out ?_
        rotate_left
        · intro W hW
          clear hW
          go_simp
          all_goals with_reducible rfl
        try simp only [Act.put, List.setIfInBounds_toArray, List.set_cons_zero, List.set_cons_succ]
        refine wpAnyH_take (i := 10) (v := ?_) (by simp only [List.getElem?_toArray, List.getElem?_cons_zero, List.getElem?_cons_succ]; rfl) (by kernel_rfl) (by kernel_rfl) (by kernel_rfl) (fun _ _ _ h => h) (Or.inl ⟨by rfl, ?_⟩) KS2.out ?_
        rotate_left
        · intro W hW
          clear hW
          go_simp
          all_goals with_reducible rfl
        try simp only [Act.put, List.setIfInBounds_toArray, List.set_cons_zero, List.set_cons_succ]
        refine wpAnyH_take (i := 11) (v := ?_) (by simp only [List.getElem?_toArray, List.getElem?_cons_zero, List.getElem?_cons_succ]; rfl) (by kernel_rfl) (by kernel_rfl) (by kernel_rfl) (fun _ _ _ h => h) (Or.inl ⟨by rfl, ?_⟩) KS2.out ?_
        rotate_left
        · intro W hW
          clear hW
          go_simp
          all_goals with_reducible rfl
        try simp only [Act.put, List.setIfInBounds_toArray, List.set_cons_zero, List.set_cons_succ]
        refine wpAnyH_take (i := 12) (v := undef) (by simp only [List.getElem?_toArray, List.getElem?_cons_zero, List.getElem?_cons_succ]; rfl) (by kernel_rfl) (by kernel_rfl) (by kernel_rfl) (fun _ _ _ h => h) (Or.inr ⟨by rfl, rfl⟩) KS2.out ?_
        try simp only [Act.put, List.setIfInBounds_toArray, List.set_cons_zero, List.set_cons_succ]
        refine wpAnyH_take (i := 13) (v := undef) (by simp only [List.getElem?_toArray, List.getElem?_cons_zero, List.getElem?_cons_succ]; rfl) (by kernel_rfl) (by kernel_rfl) (by kernel_rfl) (fun _ _ _ h => h) (Or.inr ⟨by rfl, rfl⟩) KS2.out ?_
        try simp only [Act.put, List.setIfInBounds_toArray, List.set_cons_zero, List.set_cons_succ]
        refine wpAnyH_take (i := 14) (v := ?_) (by simp only [List.getElem?_toArray, List.getElem?_cons_zero, List.getElem?_cons_succ]; rfl) (by kernel_rfl) (by kernel_rfl) (by kernel_rfl) (fun _ _ _ h => h) (Or.inl ⟨by rfl, ?_⟩) KS2.out ?_
        rotate_left
        · intro W hW
          clear hW
          go_simp
          all_goals with_reducible rfl
        try simp only [Act.put, List.setIfInBounds_toArray, List.set_cons_zero, List.set_cons_succ]
        refine wpAnyH_take (i := 15) (v := ?_) (by simp only [List.getElem?_toArray, List.getElem?_cons_zero, List.getElem?_cons_succ]; rfl) (by kernel_rfl) (by kernel_rfl) (by kernel_rfl) (fun _ _ _ h => h) (Or.inl ⟨by rfl, ?_⟩) KS2.out ?_
        rotate_left
        · intro W hW
          clear hW
          go_simp
          all_goals with_reducible rfl
        try simp only [Act.put, List.setIfInBounds_toArray, List.set_cons_zero, List.set_cons_succ]
        refine wpAnyH_take (i := 16) (v := ?_) (by simp only [List.getElem?_toArray, List.getElem?_cons_zero, List.getElem?_cons_succ]; rfl) (by kernel_rfl) (by kernel_rfl) (by kernel_rfl) (fun _ _ _ h => h) (Or.inl ⟨by rfl, ?_⟩) KS2.out ?_
        rotate_left
        · intro W hW
          clear hW
          go_simp
          all_goals with_reducible rfl
        try simp only [Act.put, List.setIfInBounds_toArray, List.set_cons_zero, List.set_cons_succ]
        refine wpAnyH_done (by kernel_rfl) ?_ _
        refine NoPanic.normal ?_
        go_wp2_with fail
        go_ret
        exact ⟨rfl, B4.out _ KS2.out.2.1⟩
      · simp only [adVo, adV, refV, adHi, adLo, Option.isSome] at HO ⊢
        go_wp2_with fail
        obtain ⟨W3, hW3⟩ : ∃ W3, W3 = w3.alloc (.cells #[.bool true, .int .u64 hi, .int .u64 lo] 48) := ⟨_, rfl⟩
        rw [← hW3]
        have hg : W3.heap[w3.heap.size]? = some (.cells #[.bool true, .int .u64 hi, .int .u64 lo] 48 (0, 0)) := by rw [hW3]; exact heap_alloc_new' _ _ _ rfl
        have hlt : w3.heap.size < W3.heap.size := by rw [hW3]; simp
        have BW3 : Aside0 (Below w3.heap.size w3 W3) := ⟨by rw [hW3]; exact (Below.refl _ _).alloc (Nat.le_refl _) _⟩
        have B4 : Aside0 (∀ W, Below w3.heap.size w3 W → Below w.heap.size w W) := ⟨fun W h => below_then B3.out B3.out.size h⟩
        clear hW3
        obtain ⟨g, hgs⟩ : ∃ g, g = w3.heap.size := ⟨_, rfl⟩
        rw [← hgs] at hg ⊢
        have hlg : g < W3.heap.size := by rw [hgs]; exact hlt
        have KS : Aside0 (∀ W W' : World, (g < W.heap.size ∧ Below w3.heap.size w3 W ∧ W.cell? ⟨g, 0, none⟩ = some (.bool true) ∧ W.cell? ⟨g, 1, none⟩ = some (.int .u64 hi) ∧ W.cell? ⟨g, 2, none⟩ = some (.int .u64 lo)) → Below W.heap.size W W' → (g < W'.heap.size ∧ Below w3.heap.size w3 W' ∧ W'.cell? ⟨g, 0, none⟩ = some (.bool true) ∧ W'.cell? ⟨g, 1, none⟩ = some (.int .u64 hi) ∧ W'.cell? ⟨g, 2, none⟩ = some (.int .u64 lo))) := ⟨fun W W' h hb => by
          obtain ⟨hz, h0, h1, h2, h3⟩ := h
          exact ⟨Nat.lt_of_lt_of_le hz hb.size, below_then h0 h0.size hb, (hb.cell (p := ⟨g, 0, none⟩) hz).trans h1, (hb.cell (p := ⟨g, 1, none⟩) hz).trans h2, (hb.cell (p := ⟨g, 2, none⟩) hz).trans h3⟩⟩
        have KS1 : Aside0 (g < W3.drew.heap.size ∧ Below w3.heap.size w3 W3.drew ∧ W3.drew.cell? ⟨g, 0, none⟩ = some (.bool true) ∧ W3.drew.cell? ⟨g, 1, none⟩ = some (.int .u64 hi) ∧ W3.drew.cell? ⟨g, 2, none⟩ = some (.int .u64 lo)) := ⟨hlg, BW3.out.drew, (heap_cell (j := 0) hg rfl).1, (heap_cell (j := 1) hg rfl).1, (heap_cell (j := 2) hg rfl).1⟩
        clear hg hgs hlt hlg BW3
        refine wp_region_noPanic ?_
        refine wp_region_held_drew (S := fun W => (g < W.heap.size ∧ Below w3.heap.size w3 W ∧ W.cell? ⟨g, 0, none⟩ = some (.bool true) ∧ W.cell? ⟨g, 1, none⟩ = some (.int .u64 hi) ∧ W.cell? ⟨g, 2, none⟩ = some (.int .u64 lo))) (by kernel_rfl) KS1.out (fun _ => ?_)
        generalize W3.drew = W4 at KS1 ⊢
        refine wpAnyH_take (i := 0) (v := ?_) (by simp only [List.getElem?_toArray, List.getElem?_cons_zero]; rfl) (by kernel_rfl) (by kernel_rfl) (by kernel_rfl) (fun _ _ _ h => h) (Or.inl ⟨by rfl, ?_⟩) KS1.out ?_
        rotate_left
        · intro W hW
          clear hW
          go_simp
          all_goals with_reducible rfl
        try simp only [Act.put, List.setIfInBounds_toArray, List.set_cons_zero, List.set_cons_succ]
        refine wpAnyH_take (i := 1) (v := ?_) (by simp only [List.getElem?_toArray, List.getElem?_cons_zero, List.getElem?_cons_succ]; rfl) (by kernel_rfl) (by kernel_rfl) (by kernel_rfl) (fun _ _ _ h => h) (Or.inl ⟨by rfl, ?_⟩) KS1.out ?_
        rotate_left
        · intro W hW
          clear hW
          go_simp
          all_goals with_reducible rfl
        try simp only [Act.put, List.setIfInBounds_toArray, List.set_cons_zero, List.set_cons_succ]
        refine wpAnyH_take (i := 2) (v := ?_) (by simp only [List.getElem?_toArray, List.getElem?_cons_zero, List.getElem?_cons_succ]; rfl) (by kernel_rfl) (by kernel_rfl) (by kernel_rfl) (fun _ _ _ h => h) (Or.inl ⟨by rfl, ?_⟩) KS1.out ?_
        rotate_left
        · intro W hW
          clear hW
          go_simp
          all_goals with_reducible rfl
        try simp only [Act.put, List.setIfInBounds_toArray, List.set_cons_zero, List.set_cons_succ]
        refine wpAnyH_take (i := 3) (v := ?_) (by simp only [List.getElem?_toArray, List.getElem?_cons_zero, List.getElem?_cons_succ]; rfl) (by kernel_rfl) (by kernel_rfl) (by kernel_rfl) (fun _ _ _ h => h) (Or.inl ⟨by rfl, ?_⟩) KS1.out ?_
        rotate_left
        · intro W hW
          clear hW
          go_simp
          all_goals with_reducible rfl
        try simp only [Act.put, List.setIfInBounds_toArray, List.set_cons_zero, List.set_cons_succ]
        refine wpAnyH_take (i := 4) (v := ?_) (by simp only [List.getElem?_toArray, List.getElem?_cons_zero, List.getElem?_cons_succ]; rfl) (by kernel_rfl) (by kernel_rfl) (by kernel_rfl) (fun _ _ _ h => h) (Or.inl ⟨by rfl, ?_⟩) KS1.out ?_
        rotate_left
        · intro W hW
          clear hW
          go_simp
          all_goals with_reducible rfl
        try simp only [Act.put, List.setIfInBounds_toArray, List.set_cons_zero, List.set_cons_succ]
        refine wpAnyH_take (i := 6) (v := ?_) (by simp only [List.getElem?_toArray, List.getElem?_cons_zero, List.getElem?_cons_succ]; rfl) (by kernel_rfl) (by kernel_rfl) (by kernel_rfl) (fun _ _ _ h => h) (Or.inl ⟨by rfl, ?_⟩) KS1.out ?_
        rotate_left
        · intro W hW
          obtain ⟨_, _, k0, k1, k2⟩ := hW
          go_simp
          all_goals with_reducible rfl
        try simp only [Act.put, List.setIfInBounds_toArray, List.set_cons_zero, List.set_cons_succ]
        refine wpAnyH_ready (rs := [5]) (by kernel_rfl) (by simp) ?_
        refine AllReadyH.cons (by simp only [List.getElem?_toArray, List.getElem?_cons_zero, List.getElem?_cons_succ]; rfl) (fun K hK => ?_) AllReadyH.nil
        go_simp
        refine (HO.out _).mono ?_
        rintro e W5 ⟨rfl, hb⟩
        have KS2 := Aside0.mk (KS.out _ _ KS1.out hb)
        refine hK.out _ _ KS2.out (fun _ => ?_)
        clear hK K hb
        try simp only [Act.put, List.setIfInBounds_toArray, List.set_cons_zero, List.set_cons_succ]
        refine wpAnyH_take (i := 7) (v := ?_) (by simp only [List.getElem?_toArray, List.getElem?_cons_zero, List.getElem?_cons_succ]; rfl) (by kernel_rfl) (by kernel_rfl) (by kernel_rfl) (fun _ _ _ h => h) (Or.inl ⟨by rfl, ?_⟩) KS2.out ?_
        rotate_left
        · intro W hW
          clear hW
          go_simp
          all_goals with_reducible rfl
        try simp only [Act.put, List.setIfInBounds_toArray, List.set_cons_zero, List.set_cons_succ]
        refine wpAnyH_take (i := 8) (v := ?_) (by simp only [List.getElem?_toArray, List.getElem?_cons_zero, List.getElem?_cons_succ]; rfl) (by kernel_rfl) (by kernel_rfl) (by kernel_rfl) (fun _ _ _ h => h) (Or.inl ⟨by rfl, ?_⟩) KS2.out ?_
        rotate_left
        · intro W hW
          clear hW
          go_simp
          all_goals with_reducible rfl
        try simp only [Act.put, List.setIfInBounds_toArray, List.set_cons_zero, List.set_cons_succ]
        refine wpAnyH_take (i := 9) (v := ?_) (by simp only [List.getElem?_toArray, List.getElem?_cons_zero, List.getElem?_cons_succ]; rfl) (by kernel_rfl) (by kernel_rfl) (by kernel_rfl) (fun _ _ _ h => h) (Or.inl ⟨by rfl, ?_⟩) KS2.out ?_
        rotate_left
        · intro W hW
          clear hW
          go_simp
          all_goals with_reducible rfl
        try simp only [Act.put, List.setIfInBounds_toArray, List.set_cons_zero, List.set_cons_succ]
        refine wpAnyH_take (i := 10) (v := ?_) (by simp only [List.getElem?_toArray, List.getElem?_cons_zero, List.getElem?_cons_succ]; rfl) (by kernel_rfl) (by kernel_rfl) (by kernel_rfl) (fun _ _ _ h => h) (Or.inl ⟨by rfl, ?_⟩) KS2.out ?_
        rotate_left
        · intro W hW
          clear hW
          go_simp
          all_goals with_reducible rfl
        try simp only [Act.put, List.setIfInBounds_toArray, List.set_cons_zero, List.set_cons_succ]
        refine wpAnyH_take (i := 11) (v := ?_) (by simp only [List.getElem?_toArray, List.getElem?_cons_zero, List.getElem?_cons_succ]; rfl) (by kernel_rfl) (by kernel_rfl) (by kernel_rfl) (fun _ _ _ h => h) (Or.inl ⟨by rfl, ?_⟩) KS2.out ?_
        rotate_left
        · intro W hW
          clear hW
          go_simp
          all_goals with_reducible rfl
        try simp only [Act.put, List.setIfInBounds_toArray, List.set_cons_zero, List.set_cons_succ]
        refine wpAnyH_take (i := 12) (v := undef) (by simp only [List.getElem?_toArray, List.getElem?_cons_zero, List.getElem?_cons_succ]; rfl) (by kernel_rfl) (by kernel_rfl) (by kernel_rfl) (fun _ _ _ h => h) (Or.inr ⟨by rfl, rfl⟩) KS2.out ?_
        try simp only [Act.put, List.setIfInBounds_toArray, List.set_cons_zero, List.set_cons_succ]
        refine wpAnyH_take (i := 13) (v := undef) (by simp only [List.getElem?_toArray, List.getElem?_cons_zero, List.getElem?_cons_succ]; rfl) (by kernel_rfl) (by kernel_rfl) (by kernel_rfl) (fun _ _ _ h => h) (Or.inr ⟨by rfl, rfl⟩) KS2.out ?_
        try simp only [Act.put, List.setIfInBounds_toArray, List.set_cons_zero, List.set_cons_succ]
        refine wpAnyH_take (i := 14) (v := ?_) (by simp only [List.getElem?_toArray, List.getElem?_cons_zero, List.getElem?_cons_succ]; rfl) (by kernel_rfl) (by kernel_rfl) (by kernel_rfl) (fun _ _ _ h => h) (Or.inl ⟨by rfl, ?_⟩) KS2.out ?_
        rotate_left
        · intro W hW
          clear hW
          go_simp
          all_goals with_reducible rfl
        try simp only [Act.put, List.setIfInBounds_toArray, List.set_cons_zero, List.set_cons_succ]
        refine wpAnyH_take (i := 15) (v := ?_) (by simp only [List.getElem?_toArray, List.getElem?_cons_zero, List.getElem?_cons_succ]; rfl) (by kernel_rfl) (by kernel_rfl) (by kernel_rfl) (fun _ _ _ h => h) (Or.inl ⟨by rfl, ?_⟩) KS2.out ?_
        rotate_left
        · intro W hW
          clear hW
          go_simp
          all_goals with_reducible rfl
        try simp only [Act.put, List.setIfInBounds_toArray, List.set_cons_zero, List.set_cons_succ]
        refine wpAnyH_take (i := 16) (v := ?_) (by simp only [List.getElem?_toArray, List.getElem?_cons_zero, List.getElem?_cons_succ]; rfl) (by kernel_rfl) (by kernel_rfl) (by kernel_rfl) (fun _ _ _ h => h) (Or.inl ⟨by rfl, ?_⟩) KS2.out ?_
        rotate_left
        · intro W hW
          clear hW
          go_simp
          all_goals with_reducible rfl
        try simp only [Act.put, List.setIfInBounds_toArray, List.set_cons_zero, List.set_cons_succ]
        refine wpAnyH_done (by kernel_rfl) ?_ _
        refine NoPanic.normal ?_
        go_wp2_with fail
        go_ret
        exact ⟨rfl, B4.out _ KS2.out.2.1⟩
  · go_enter Tryz.func5, Tryz.ntmps5
    go_wp2_with fail
    refine (awake6_calls _ hE hM hP hT).mono ?_
    rintro e w1 ⟨rfl, b1⟩
    go_wp2
    go_ret
    exact ⟨rfl, b1⟩
end Go.Proofs.YtfieiigefllekaaGreatDoor
