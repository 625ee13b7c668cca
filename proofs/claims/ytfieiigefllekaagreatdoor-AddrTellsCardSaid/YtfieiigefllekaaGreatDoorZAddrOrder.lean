/- The law AddrOrder, walked. -/
import Derived.Test.YtfieiigefllekaaGreatDoorZAw6
import Derived.Test.YtfieiigefllekaaGreatDoorZAdO
import Derived.Deep.RegionHeld3
namespace Go.Proofs.YtfieiigefllekaaGreatDoor
open Go.RowKit Go.Proofs.YtfieiigefllekaaGreatDoorW.PrintWords Go.Proofs.YtfieiigefllekaaGreatDoorW.PrintMore

def mkAd (p : Bool) (a b : Int) : Bool × Int × Int := (p, if p = true then a else 0, if p = true then b else b % 4294967296)
theorem mkAd_ok (p : Bool) (a b : Int) (ha : 0 ≤ a ∧ a < 18446744073709551616) (hb : 0 ≤ b ∧ b < 18446744073709551616) : adOk (mkAd p a b) := by
  cases p
  · exact ⟨rfl, by show 0 ≤ b % 4294967296; omega, by show b % 4294967296 < 4294967296; omega⟩
  · exact ⟨ha, hb⟩
set_option maxHeartbeats 2000000 in
set_option maxRecDepth 100000 in
theorem AddrOrder_law (p q s : Bool) (a b c d e f : Int) (ha : 0 ≤ a ∧ a < 18446744073709551616) (hb : 0 ≤ b ∧ b < 18446744073709551616) (hc : 0 ≤ c ∧ c < 18446744073709551616) (hd : 0 ≤ d ∧ d < 18446744073709551616) (he : 0 ≤ e ∧ e < 18446744073709551616) (hf : 0 ≤ f ∧ f < 18446744073709551616) (w : World) (hP : Aside0 (Pows w)) (hT : Aside0 (Debr w)) (hE : Aside0 (Errs w)) (hM : Aside0 (Mx w)) :
    Calls Tryz.prog 7 #[.bool p, .bool q, .bool s, .int .u64 a, .int .u64 b, .int .u64 c, .int .u64 d, .int .u64 e, .int .u64 f] w fun e w' => e = .returned (.bool true) ∧ Below w.heap.size w w' := by
  have MX := Aside0.mk (Make_calls p a b ha hb)
  have MY := Aside0.mk (Make_calls q c d hc hd)
  have MZ := Aside0.mk (Make_calls s e f he hf)
  have okx := mkAd_ok p a b ha hb
  have oky := mkAd_ok q c d hc hd
  have okz := mkAd_ok s e f he hf
  rw [show (p, if p = true then a else 0, if p = true then b else b % 4294967296) = mkAd p a b from rfl] at MX
  rw [show (q, if q = true then c else 0, if q = true then d else d % 4294967296) = mkAd q c d from rfl] at MY
  rw [show (s, if s = true then e else 0, if s = true then f else f % 4294967296) = mkAd s e f from rfl] at MZ
  generalize mkAd p a b = X at MX okx
  generalize mkAd q c d = Y at MY oky
  generalize mkAd s e f = Z at MZ okz
  have CXY := Aside0.mk (Compare_calls X Y okx oky)
  have CYX := Aside0.mk (Compare_calls Y X oky okx)
  have CYZ := Aside0.mk (Compare_calls Y Z oky okz)
  have CXZ := Aside0.mk (Compare_calls X Z okx okz)
  have hflip := cmpA_flip X Y
  have htr := cmpA_trans X Y Z
  have b1 := cmpA_bd Y X
  have b2 := cmpA_bd Y Z
  have b3 := cmpA_bd X Z
  have qe := eq_ad X Y okx oky
  have qg := eqg_ad X Y
  rw [hflip] at CXY qe htr
  generalize cmpA Y X = k at CXY CYX qe htr b1
  generalize cmpA Y Z = k2 at CYZ htr b2
  generalize cmpA X Z = k3 at CXZ htr b3
  generalize adV X = x at MX CXY CYX CXZ qe qg
  generalize adV Y = y at MY CXY CYX CYZ qe qg
  generalize adV Z = z at MZ CYZ CXZ
  clear hflip okx oky okz
  have HTR := Aside0.mk htr
  clear htr
  go_enter Tryz.func7, Tryz.ntmps7
  go_wp2_with fail
  refine (awake6_calls _ hE hM hP hT).mono ?_
  rintro e' w1 ⟨rfl, b1'⟩
  have B1 := Aside0.mk b1'
  clear b1'
  go_wp2_with fail
  refine (MX.out _).mono ?_
  rintro e' w2 ⟨rfl, rfl⟩
  go_wp2_with fail
  refine (MY.out _).mono ?_
  rintro e' w3 ⟨rfl, rfl⟩
  go_wp2_with fail
  refine (MZ.out _).mono ?_
  rintro e' w4 ⟨rfl, rfl⟩
  have hwr : IntKind.i64.wrap (-k) = -k := i64_small' _ (by omega) (by omega)
  go_wp2_with fail
  refine wp_region_noPanic ?_
  refine wp_region_held_drew (S := fun W => Below w4.drew.heap.size w4.drew W) (by kernel_rfl) (Below.refl _ _) (fun _ => ?_)
  have B2 : Aside0 (Below w.heap.size w w4.drew) := ⟨B1.out.drew⟩
  generalize w4.drew = W4 at B2 ⊢
  refine wpAnyH_take (i := 0) (v := ?_) (by simp only [List.getElem?_toArray, List.getElem?_cons_zero]; rfl) (by kernel_rfl) (by kernel_rfl) (by kernel_rfl) (fun _ _ _ h => h) (Or.inl ⟨by rfl, ?_⟩) (Below.refl _ _) ?_
  rotate_left
  · intro W hW
    clear hW
    go_simp
    all_goals with_reducible rfl
  try simp only [Act.put, List.setIfInBounds_toArray, List.set_cons_zero, List.set_cons_succ]
  refine wpAnyH_take (i := 1) (v := ?_) (by simp only [List.getElem?_toArray, List.getElem?_cons_zero, List.getElem?_cons_succ]; rfl) (by kernel_rfl) (by kernel_rfl) (by kernel_rfl) (fun _ _ _ h => h) (Or.inl ⟨by rfl, ?_⟩) (Below.refl _ _) ?_
  rotate_left
  · intro W hW
    clear hW
    go_simp
    all_goals with_reducible rfl
  try simp only [Act.put, List.setIfInBounds_toArray, List.set_cons_zero, List.set_cons_succ]
  refine wpAnyH_take (i := 3) (v := ?_) (by simp only [List.getElem?_toArray, List.getElem?_cons_zero, List.getElem?_cons_succ]; rfl) (by kernel_rfl) (by kernel_rfl) (by kernel_rfl) (fun _ _ _ h => h) (Or.inl ⟨by rfl, ?_⟩) (Below.refl _ _) ?_
  rotate_left
  · intro W hW
    clear hW
    go_simp
    all_goals with_reducible rfl
  try simp only [Act.put, List.setIfInBounds_toArray, List.set_cons_zero, List.set_cons_succ]
  refine wpAnyH_take (i := 4) (v := ?_) (by simp only [List.getElem?_toArray, List.getElem?_cons_zero, List.getElem?_cons_succ]; rfl) (by kernel_rfl) (by kernel_rfl) (by kernel_rfl) (fun _ _ _ h => h) (Or.inl ⟨by rfl, ?_⟩) (Below.refl _ _) ?_
  rotate_left
  · intro W hW
    clear hW
    go_simp
    all_goals with_reducible rfl
  try simp only [Act.put, List.setIfInBounds_toArray, List.set_cons_zero, List.set_cons_succ]
  refine wpAnyH_ready (rs := [2]) (by kernel_rfl) (by simp) ?_
  refine AllReadyH.cons (by simp only [List.getElem?_toArray, List.getElem?_cons_zero, List.getElem?_cons_succ]; rfl) (fun K hK => ?_) AllReadyH.nil
  go_simp
  refine (CXY.out _).mono ?_
  rintro e' W5 ⟨rfl, hb⟩
  have D5 := Aside0.mk (hb)
  refine hK.out _ _ D5.out (fun _ => ?_)
  clear hK K hb
  try simp only [Act.put, List.setIfInBounds_toArray, List.set_cons_zero, List.set_cons_succ]
  refine wpAnyH_ready (rs := [5]) (by kernel_rfl) (by simp) ?_
  refine AllReadyH.cons (by simp only [List.getElem?_toArray, List.getElem?_cons_zero, List.getElem?_cons_succ]; rfl) (fun K hK => ?_) AllReadyH.nil
  go_simp
  refine (CYX.out _).mono ?_
  rintro e' W6 ⟨rfl, hb⟩
  have D6 := Aside0.mk (below_then D5.out D5.out.size hb)
  refine hK.out _ _ D6.out (fun _ => ?_)
  clear hK K hb
  try simp only [Act.put, List.setIfInBounds_toArray, List.set_cons_zero, List.set_cons_succ]
  refine wpAnyH_take (i := 6) (v := ?_) (by simp only [List.getElem?_toArray, List.getElem?_cons_zero, List.getElem?_cons_succ]; rfl) (by kernel_rfl) (by kernel_rfl) (by kernel_rfl) (fun _ _ _ h => h) (Or.inl ⟨by rfl, ?_⟩) D6.out ?_
  rotate_left
  · intro W hW
    clear hW
    go_simp
    all_goals with_reducible rfl
  try simp only [Act.put, List.setIfInBounds_toArray, List.set_cons_zero, List.set_cons_succ]
  refine wpAnyH_take (i := 7) (v := ?_) (by simp only [List.getElem?_toArray, List.getElem?_cons_zero, List.getElem?_cons_succ]; rfl) (by kernel_rfl) (by kernel_rfl) (by kernel_rfl) (fun _ _ _ h => h) (Or.inl ⟨by rfl, ?_⟩) D6.out ?_
  rotate_left
  · intro W hW
    clear hW
    go_simp
    all_goals with_reducible rfl
  try simp only [Act.put, List.setIfInBounds_toArray, List.set_cons_zero, List.set_cons_succ]
  refine wpAnyH_take (i := 8) (v := ?_) (by simp only [List.getElem?_toArray, List.getElem?_cons_zero, List.getElem?_cons_succ]; rfl) (by kernel_rfl) (by kernel_rfl) (by kernel_rfl) (fun _ _ _ h => h) (Or.inl ⟨by rfl, ?_⟩) D6.out ?_
  rotate_left
  · intro W hW
    clear hW
    go_simp
    all_goals with_reducible rfl
  try simp only [Act.put, List.setIfInBounds_toArray, List.set_cons_zero, List.set_cons_succ]
  refine wpAnyH_take (i := 9) (v := ?_) (by simp only [List.getElem?_toArray, List.getElem?_cons_zero, List.getElem?_cons_succ]; rfl) (by kernel_rfl) (by kernel_rfl) (by kernel_rfl) (fun _ _ _ h => h) (Or.inl ⟨by rfl, ?_⟩) D6.out ?_
  rotate_left
  · intro W hW
    clear hW
    go_simp
    all_goals with_reducible rfl
  try simp only [Act.put, List.setIfInBounds_toArray, List.set_cons_zero, List.set_cons_succ]
  refine wpAnyH_take (i := 10) (v := ?_) (by simp only [List.getElem?_toArray, List.getElem?_cons_zero, List.getElem?_cons_succ]; rfl) (by kernel_rfl) (by kernel_rfl) (by kernel_rfl) (fun _ _ _ h => h) (Or.inl ⟨by rfl, ?_⟩) D6.out ?_
  rotate_left
  · intro W hW
    clear hW
    go_simp
    all_goals with_reducible rfl
  try simp only [Act.put, List.setIfInBounds_toArray, List.set_cons_zero, List.set_cons_succ]
  refine wpAnyH_take (i := 13) (v := ?_) (by simp only [List.getElem?_toArray, List.getElem?_cons_zero, List.getElem?_cons_succ]; rfl) (by kernel_rfl) (by kernel_rfl) (by kernel_rfl) (fun _ _ _ h => h) (Or.inl ⟨by rfl, ?_⟩) D6.out ?_
  rotate_left
  · intro W hW
    clear hW
    go_simp
    all_goals with_reducible rfl
  try simp only [Act.put, List.setIfInBounds_toArray, List.set_cons_zero, List.set_cons_succ]
  refine wpAnyH_take (i := 14) (v := ?_) (by simp only [List.getElem?_toArray, List.getElem?_cons_zero, List.getElem?_cons_succ]; rfl) (by kernel_rfl) (by kernel_rfl) (by kernel_rfl) (fun _ _ _ h => h) (Or.inl ⟨by rfl, ?_⟩) D6.out ?_
  rotate_left
  · intro W hW
    clear hW
    go_simp
    all_goals with_reducible rfl
  try simp only [Act.put, List.setIfInBounds_toArray, List.set_cons_zero, List.set_cons_succ]
  refine wpAnyH_take (i := 15) (v := ?_) (by simp only [List.getElem?_toArray, List.getElem?_cons_zero, List.getElem?_cons_succ]; rfl) (by kernel_rfl) (by kernel_rfl) (by kernel_rfl) (fun _ _ _ h => h) (Or.inl ⟨by rfl, ?_⟩) D6.out ?_
  rotate_left
  · intro W hW
    clear hW
    go_simp
    all_goals with_reducible rfl
  try simp only [Act.put, List.setIfInBounds_toArray, List.set_cons_zero, List.set_cons_succ]
  refine wpAnyH_ready (rs := [11]) (by kernel_rfl) (by simp) ?_
  refine AllReadyH.cons (by simp only [List.getElem?_toArray, List.getElem?_cons_zero, List.getElem?_cons_succ]; rfl) (fun K hK => ?_) AllReadyH.nil
  go_simp
  refine (CXY.out _).mono ?_
  rintro e' W7 ⟨rfl, hb⟩
  have D7 := Aside0.mk (below_then D6.out D6.out.size hb)
  refine hK.out _ _ D7.out (fun _ => ?_)
  clear hK K hb
  try simp only [Act.put, List.setIfInBounds_toArray, List.set_cons_zero, List.set_cons_succ]
  refine wpAnyH_take (i := 12) (v := ?_) (by simp only [List.getElem?_toArray, List.getElem?_cons_zero, List.getElem?_cons_succ]; rfl) (by kernel_rfl) (by kernel_rfl) (by kernel_rfl) (fun _ _ _ h => h) (Or.inl ⟨by rfl, ?_⟩) D7.out ?_
  rotate_left
  · intro W hW
    clear hW
    go_simp
    all_goals with_reducible rfl
  try simp only [Act.put, List.setIfInBounds_toArray, List.set_cons_zero, List.set_cons_succ]
  refine wpAnyH_take (i := 16) (v := ?_) (by simp only [List.getElem?_toArray, List.getElem?_cons_zero, List.getElem?_cons_succ]; rfl) (by kernel_rfl) (by kernel_rfl) (by kernel_rfl) (fun _ _ _ h => h) (Or.inl ⟨by rfl, ?_⟩) D7.out ?_
  rotate_left
  · intro W hW
    clear hW
    go_simp
    all_goals with_reducible rfl
  try simp only [Act.put, List.setIfInBounds_toArray, List.set_cons_zero, List.set_cons_succ]
  refine wpAnyH_take (i := 17) (v := ?_) (by simp only [List.getElem?_toArray, List.getElem?_cons_zero, List.getElem?_cons_succ]; rfl) (by kernel_rfl) (by kernel_rfl) (by kernel_rfl) (fun _ _ _ h => h) (Or.inl ⟨by rfl, ?_⟩) D7.out ?_
  rotate_left
  · intro W hW
    clear hW
    go_simp
    all_goals with_reducible rfl
  try simp only [Act.put, List.setIfInBounds_toArray, List.set_cons_zero, List.set_cons_succ]
  refine wpAnyH_done (by kernel_rfl) ?_ _
  refine NoPanic.normal ?_
  have B7 := Aside0.mk (below_then B2.out B2.out.size D7.out)
  by_cases g1 : 0 < -k
  · by_cases g2 : 0 < k2
    · have g3 : 0 < k3 := HTR.out g1 g2
      go_wp2_with fail
      refine (CXY.out _).mono ?_
      rintro e' W8 ⟨rfl, hb⟩
      have B8 := Aside0.mk (below_then B7.out B7.out.size hb)
      clear hb
      go_wp2_with fail
      refine (CYZ.out _).mono ?_
      rintro e' W9 ⟨rfl, hb⟩
      have B9 := Aside0.mk (below_then B8.out B8.out.size hb)
      clear hb
      go_wp2_with fail
      refine (CXZ.out _).mono ?_
      rintro e' W10 ⟨rfl, hb⟩
      have B10 := Aside0.mk (below_then B9.out B9.out.size hb)
      clear hb
      go_wp2_with fail
      go_ret
      have HF := Lib.hid (show (!decide (k3 ≤ 0)) = true by rw [decide_eq_false (by omega)]; rfl)
      exact ⟨ret_bool HF.out, B10.out⟩
    · go_wp2_with fail
      refine (CXY.out _).mono ?_
      rintro e' W8 ⟨rfl, hb⟩
      have B8 := Aside0.mk (below_then B7.out B7.out.size hb)
      clear hb
      go_wp2_with fail
      refine (CYZ.out _).mono ?_
      rintro e' W9 ⟨rfl, hb⟩
      have B9 := Aside0.mk (below_then B8.out B8.out.size hb)
      clear hb
      go_wp2_with fail
      go_ret
      exact ⟨rfl, B9.out⟩
  · go_wp2_with fail
    refine (CXY.out _).mono ?_
    rintro e' W8 ⟨rfl, hb⟩
    have B8 := Aside0.mk (below_then B7.out B7.out.size hb)
    clear hb
    go_wp2_with fail
    go_ret
    exact ⟨rfl, B8.out⟩
theorem AddrOrder_row (p q s : Bool) (a b c d e f : Int) (w : World) (wa : (Lit.int .u64 a).wf = true) (wb : (Lit.int .u64 b).wf = true) (wc : (Lit.int .u64 c).wf = true) (wd : (Lit.int .u64 d).wf = true) (we : (Lit.int .u64 e).wf = true) (wf : (Lit.int .u64 f).wf = true) (hP : Aside0 (Pows w)) (hT : Aside0 (Debr w)) (hE : Aside0 (Errs w)) (hM : Aside0 (Mx w)) :
    Calls Tryz.prog 7 #[.bool p, .bool q, .bool s, .int .u64 a, .int .u64 b, .int .u64 c, .int .u64 d, .int .u64 e, .int .u64 f] w fun e w' => e = .returned (.bool true) ∧ Below w.heap.size w w' := by
  have a0 := wf_u64 wa
  have b0 := wf_u64 wb
  have c0 := wf_u64 wc
  have d0 := wf_u64 wd
  have e0 := wf_u64 we
  have f0 := wf_u64 wf
  exact AddrOrder_law p q s a b c d e f ⟨a0.1, by omega⟩ ⟨b0.1, by omega⟩ ⟨c0.1, by omega⟩ ⟨d0.1, by omega⟩ ⟨e0.1, by omega⟩ ⟨f0.1, by omega⟩ w hP hT hE hM
end Go.Proofs.YtfieiigefllekaaGreatDoor
