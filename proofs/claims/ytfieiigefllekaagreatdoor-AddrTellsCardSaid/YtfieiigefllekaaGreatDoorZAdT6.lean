/- Texts of addresses, and equal lists of texts, walked. -/
import Derived.Test.YtfieiigefllekaaGreatDoorZAdT5
import Derived.Test.YtfieiigefllekaaGreatDoorZAdE
import Derived.Test.YtfieiigefllekaaGreatDoorJI
import Derived.BigRegion
namespace Go.Proofs.YtfieiigefllekaaGreatDoor
open Go.RowKit Go.Proofs.YtfieiigefllekaaGreatDoorW.PrintWords Go.Proofs.YtfieiigefllekaaGreatDoorW.PrintMore

set_option maxHeartbeats 2000000 in
theorem EqualS_calls (xs : Nat → ByteArray) (n : Nat) (ad bd : Addr) (c c' : Nat) (w : World) (hnm : n ≤ 1000000) (hA : ∀ j, j < n → w.cell? (ad.add j) = some (.string (xs j))) (hB : ∀ j, j < n → w.cell? (bd.add j) = some (.string (xs j))) :
    Calls Tryz.prog 46 #[.slice (some ad) n c, .slice (some bd) n c'] w fun e w' => e = .returned (.bool true) ∧ Below w.heap.size w w' := by
  have HA := Aside0.mk hA
  have HB := Aside0.mk hB
  clear hA hB
  go_enter Tryz.func46, Tryz.ntmps46
  go_wp2_with fail
  go_loopw [13] (fun i wr => ∃ j : Nat, i = .int .i64 j ∧ j ≤ n ∧ Aside0 (Below w.heap.size w wr)) (fun i _ => n - (intOf i).toNat)
  case atStart => exact ⟨0, rfl, by omega, ⟨Below.refl _ _⟩⟩
  case round =>
    obtain ⟨j, rfl, hj, hbw⟩ := hrel
    by_cases hlt : j < n
    · have cx := (hbw.out.cell (cell_blk (HA.out j hlt))).trans (HA.out j hlt)
      have cy := (hbw.out.cell (cell_blk (HB.out j hlt))).trans (HB.out j hlt)
      have hj0 : (0 : Int) ≤ (j : Int) := by omega
      have hji : (j : Int) < (n : Int) := by omega
      generalize xs j = y at cx cy
      go_wp2_with fail
      go_region
      all_goals
        go_wp2_with fail
        exact ⟨⟨j + 1, by go_num, by omega, ⟨hbw.out.drew⟩⟩, by simp [intOf]; omega⟩
    · go_wp2_with fail
      go_ret
      exact ⟨rfl, hbw.out⟩

theorem mt_4 (n : Int) (w : World) : (method 321 57 (.int .u32 n) "Text").run Tryz.prog w = .ok (84, .int .u32 n) w := by kernel_rfl
theorem mt_6 (hi lo : Int) (w : World) : (method 321 25 (.agg #[.int .u64 hi, .int .u64 lo]) "Text").run Tryz.prog w = .ok (19, .agg #[.int .u64 hi, .int .u64 lo]) w := by kernel_rfl
def tx3 (a b : Bool × Int × Int) : List ByteArray := [adT a, ⟨#[]⟩, adT b]
theorem adT_size (a : Bool × Int × Int) (ha : adOk a) : (adT a).size ≤ 300 := by
  obtain ⟨sx, hi, lo⟩ := a
  cases sx
  · have := fourB_size lo.toNat (by have := ha.2.2; omega)
    show (fourB lo.toNat).size ≤ 300
    omega
  · have := text_len (piecesOf hi lo) rfl (pieces_bd hi lo ha.1 ha.2)
    show (textL6 (piecesOf hi lo)).toArray.size ≤ 300
    rw [List.size_toArray]
    omega
theorem TextM4 (n : Int) (h0 : 0 ≤ n) (h1 : n < 4294967296) (w : World) (hP : Aside0 (Pows w)) : Calls Tryz.prog 84 #[.int .u32 n] w fun e w' => e = .returned (.string (adT (false, 0, n))) ∧ Below w.heap.size w w' := by
  have h := Text_calls n.toNat (by omega) w hP
  rwa [Int.toNat_of_nonneg h0] at h

set_option maxHeartbeats 4000000 in
set_option maxRecDepth 100000 in
theorem Texts_calls (a b : Bool × Int × Int) (hax : adOk a) (hbx : adOk b) (g : Nat) (w : World) (hP : Aside0 (Pows w)) (hT : Aside0 (Debr w)) (hg : g < w.heap.size) (c0 : w.cell? ⟨g, 0, none⟩ = some (adV a)) (c1 : w.cell? ⟨g, 1, none⟩ = some .nilIface) (c2 : w.cell? ⟨g, 2, none⟩ = some (adV b)) :
    Calls Tryz.prog 47 #[.slice (some ⟨g, 0, none⟩) 3 3] w fun e w' => ∃ v, e = .returned v ∧ Kd.R Kd.string 9 w' w.heap.size (fun _ => True) v (tx3 a b) ∧ Below w.heap.size w w' := by
  have C0 := Aside0.mk c0
  have C1 := Aside0.mk c1
  have C2 := Aside0.mk c2
  have za := adT_size a hax
  have zb := adT_size b hbx
  clear c0 c1 c2
  go_enter Tryz.func47, Tryz.ntmps47
  go_wp2_with fail
  go_loopw [3, 9] (fun s i wr => ∃ j : Nat, i = .int .i64 j ∧ j ≤ 3 ∧ Aside0 (Kd.R Kd.string 9 wr w.heap.size (fun _ => True) s ((tx3 a b).take j)) ∧ Aside0 (Below w.heap.size w wr)) (fun _ i _ => 3 - (intOf i).toNat)
  case atStart => exact ⟨0, rfl, by omega, ⟨Kd.R_nil _ _ _ _ _⟩, ⟨Below.refl _ _⟩⟩
  case round =>
    obtain ⟨j, rfl, hj, HO, HB⟩ := hrel
    have hsz : w.heap.size ≤ wr.heap.size := HB.out.size
    have hj4 : j = 0 ∨ j = 1 ∨ j = 2 ∨ j = 3 := by omega
    rcases hj4 with rfl | rfl | rfl | rfl
    · have cc := (HB.out.cell (p := ⟨g, 0, none⟩) hg).trans C0.out
      obtain ⟨sx, hi, lo⟩ := a
      cases sx
      · obtain ⟨rfl, h0, h1⟩ := hax
        have q := mt_4
        simp only [adV] at cc
        go_wp2_with fail
        refine (TextM4 lo h0 h1 _ ⟨hP.out.stays HB.out⟩).mono ?_
        rintro e w3 ⟨rfl, b3⟩
        have HB3 := Aside0.mk (below_then HB.out HB.out.size b3)
        have HO3 := Aside0.mk (Kd.R_below HO.out b3)
        have hs3 : w.heap.size ≤ w3.heap.size := HB3.out.size
        go_wp2_with ((with_reducible refine gate_builtin (b := .append) (xs := #[.tmp 17, .tmp 19]) rfl ?_); at_builtin; refine Kd.R_append Kd.string (w0 := w) w.heap.size rfl (.tmp 17) (.tmp 19) 84 9 (.string ⟨#[]⟩) 16 rfl Tryz.underlying84 info_string rfl (by decide) (by omega) u3 ([] : List ByteArray) (adT (false, 0, lo)) [.string (adT (false, 0, lo))] (fun _ => True) (fun _ => False) rfl rfl ?aP (fun _ hk => hk.elim) ?aF ?aO ?aB ?aS ?aL ?_; (case aP => exact rfl); (case aF => exact fun _ _ => trivial); (case aO => exact HO3.out); (case aB => exact HB3.out); (case aS => omega); (case aL => (simp)); intro v1 w1 ho hb hg _)
        exact ⟨⟨1, rfl, by omega, ⟨ho⟩, ⟨hb⟩⟩, by simp [intOf]⟩
      · have q := mt_6
        simp only [adV] at cc
        go_wp2_with fail
        refine (Text6_calls hi lo hax.1 hax.2 _ ⟨hP.out.stays HB.out⟩ ⟨hT.out.stays HB.out⟩).mono ?_
        rintro e w3 ⟨rfl, b3⟩
        have HB3 := Aside0.mk (below_then HB.out HB.out.size b3)
        have HO3 := Aside0.mk (Kd.R_below HO.out b3)
        have hs3 : w.heap.size ≤ w3.heap.size := HB3.out.size
        go_wp2_with ((with_reducible refine gate_builtin (b := .append) (xs := #[.tmp 17, .tmp 19]) rfl ?_); at_builtin; refine Kd.R_append Kd.string (w0 := w) w.heap.size rfl (.tmp 17) (.tmp 19) 84 9 (.string ⟨#[]⟩) 16 rfl Tryz.underlying84 info_string rfl (by decide) (by omega) u3 ([] : List ByteArray) (adT (true, hi, lo)) [.string (adT (true, hi, lo))] (fun _ => True) (fun _ => False) rfl rfl ?aP (fun _ hk => hk.elim) ?aF ?aO ?aB ?aS ?aL ?_; (case aP => exact rfl); (case aF => exact fun _ _ => trivial); (case aO => exact HO3.out); (case aB => exact HB3.out); (case aS => omega); (case aL => (simp)); intro v1 w1 ho hb hg _)
        exact ⟨⟨1, rfl, by omega, ⟨ho⟩, ⟨hb⟩⟩, by simp [intOf]⟩
    · have cc := (HB.out.cell (p := ⟨g, 1, none⟩) hg).trans C1.out
      go_wp2_with ((with_reducible refine gate_builtin (b := .append) (xs := #[.tmp 17, .tmp 19]) rfl ?_); at_builtin; refine Kd.R_append Kd.string (w0 := w) w.heap.size rfl (.tmp 17) (.tmp 19) 84 9 (.string ⟨#[]⟩) 16 rfl Tryz.underlying84 info_string rfl (by decide) (by omega) u3 ([adT a] : List ByteArray) ⟨#[]⟩ [.string ⟨#[]⟩] (fun _ => True) (fun _ => False) rfl rfl ?aP (fun _ hk => hk.elim) ?aF ?aO ?aB ?aS ?aL ?_; (case aP => exact rfl); (case aF => exact fun _ _ => trivial); (case aO => exact HO.out); (case aB => exact HB.out); (case aS => omega); (case aL => (simp)); intro v1 w1 ho hb hg _)
      exact ⟨⟨2, rfl, by omega, ⟨ho⟩, ⟨hb⟩⟩, by simp [intOf]⟩
    · have cc := (HB.out.cell (p := ⟨g, 2, none⟩) hg).trans C2.out
      obtain ⟨sx, hi, lo⟩ := b
      cases sx
      · obtain ⟨rfl, h0, h1⟩ := hbx
        have q := mt_4
        simp only [adV] at cc
        go_wp2_with fail
        refine (TextM4 lo h0 h1 _ ⟨hP.out.stays HB.out⟩).mono ?_
        rintro e w3 ⟨rfl, b3⟩
        have HB3 := Aside0.mk (below_then HB.out HB.out.size b3)
        have HO3 := Aside0.mk (Kd.R_below HO.out b3)
        have hs3 : w.heap.size ≤ w3.heap.size := HB3.out.size
        go_wp2_with ((with_reducible refine gate_builtin (b := .append) (xs := #[.tmp 17, .tmp 19]) rfl ?_); at_builtin; refine Kd.R_append Kd.string (w0 := w) w.heap.size rfl (.tmp 17) (.tmp 19) 84 9 (.string ⟨#[]⟩) 16 rfl Tryz.underlying84 info_string rfl (by decide) (by omega) u3 ([adT a, ⟨#[]⟩] : List ByteArray) (adT (false, 0, lo)) [.string (adT (false, 0, lo))] (fun _ => True) (fun _ => False) rfl rfl ?aP (fun _ hk => hk.elim) ?aF ?aO ?aB ?aS ?aL ?_; (case aP => exact rfl); (case aF => exact fun _ _ => trivial); (case aO => exact HO3.out); (case aB => exact HB3.out); (case aS => omega); (case aL => (simp)); intro v1 w1 ho hb hg _)
        exact ⟨⟨3, rfl, by omega, ⟨ho⟩, ⟨hb⟩⟩, by simp [intOf]⟩
      · have q := mt_6
        simp only [adV] at cc
        go_wp2_with fail
        refine (Text6_calls hi lo hbx.1 hbx.2 _ ⟨hP.out.stays HB.out⟩ ⟨hT.out.stays HB.out⟩).mono ?_
        rintro e w3 ⟨rfl, b3⟩
        have HB3 := Aside0.mk (below_then HB.out HB.out.size b3)
        have HO3 := Aside0.mk (Kd.R_below HO.out b3)
        have hs3 : w.heap.size ≤ w3.heap.size := HB3.out.size
        go_wp2_with ((with_reducible refine gate_builtin (b := .append) (xs := #[.tmp 17, .tmp 19]) rfl ?_); at_builtin; refine Kd.R_append Kd.string (w0 := w) w.heap.size rfl (.tmp 17) (.tmp 19) 84 9 (.string ⟨#[]⟩) 16 rfl Tryz.underlying84 info_string rfl (by decide) (by omega) u3 ([adT a, ⟨#[]⟩] : List ByteArray) (adT (true, hi, lo)) [.string (adT (true, hi, lo))] (fun _ => True) (fun _ => False) rfl rfl ?aP (fun _ hk => hk.elim) ?aF ?aO ?aB ?aS ?aL ?_; (case aP => exact rfl); (case aF => exact fun _ _ => trivial); (case aO => exact HO3.out); (case aB => exact HB3.out); (case aS => omega); (case aL => (simp)); intro v1 w1 ho hb hg _)
        exact ⟨⟨3, rfl, by omega, ⟨ho⟩, ⟨hb⟩⟩, by simp [intOf]⟩
    · go_wp2_with fail
      go_ret
      exact ⟨_, rfl, HO.out, HB.out⟩
end Go.Proofs.YtfieiigefllekaaGreatDoor
