/- Texts that the claim's row leans on, joined by wip/pack.py: PrefixTells Pfx Wrap -/
import Derived.Test.YtplehdcnnaamkaaGreatDoorKPrefixTells4
import Derived.Lib.SmallJoins
import Derived.Test.YtplehdcnnaamkaaGreatDoorProg
import Derived.Handed
import Derived.SizedLaws
import Derived.Shelf.Vars
import Derived.ChangeSlices
import Derived.Carry
/- The law PrefixTells, walked. -/
namespace Go.Proofs.YtplehdcnnaamkaaGreatDoor
open Go.RowKit Go.Proofs.YtplehdcnnaamkaaGreatDoorW.PrintWords Go.Proofs.YtplehdcnnaamkaaGreatDoorW.PrintMore

/-- An address that is made of numbers. -/
def mkA (is : Bool) (hi lo : Int) : Bool × Int × Int := (is, if is = true then hi else 0, if is = true then lo else lo % 4294967296)
theorem mkA_ok (is : Bool) (hi lo : Int) (h0 : 0 ≤ hi ∧ hi < 18446744073709551616) (h1 : 0 ≤ lo ∧ lo < 18446744073709551616) : adOk (mkA is hi lo) := by
  cases is
  · exact ⟨rfl, by show 0 ≤ lo % 4294967296; omega, by show lo % 4294967296 < 4294967296; omega⟩
  · exact ⟨h0, h1⟩
theorem MakeA_calls (is : Bool) (hi lo : Int) (h0 : 0 ≤ hi ∧ hi < 18446744073709551616) (h1 : 0 ≤ lo ∧ lo < 18446744073709551616) (w : World) :
    Calls Tryz.prog 24 #[.bool is, .int .u64 hi, .int .u64 lo] w fun e w' => e = .returned (adV (mkA is hi lo)) ∧ w' = w := Make_calls is hi lo h0 h1 w
theorem adV_iface (a : Bool × Int × Int) : ∃ T V, adV a = .iface T V := by
  obtain ⟨s, hi, lo⟩ := a
  cases s <;> exact ⟨_, _, rfl⟩
theorem ofV_agg (a b n : Int) : ∃ x y z, ofV a b n = .agg #[.int .u64 x, .int .u64 y, .int .i64 z] := by
  rw [ofV]
  split <;> exact ⟨_, _, _, rfl⟩

set_option maxHeartbeats 16000000 in
set_option maxRecDepth 100000 in
theorem PrefixTells_law (ph pl pn qh ql qn : Int) (is : Bool) (hi lo n : Int) (hp0 : 0 ≤ ph ∧ ph < 18446744073709551616) (hp1 : 0 ≤ pl ∧ pl < 18446744073709551616) (hpn : -9223372036854775808 ≤ pn ∧ pn ≤ 9223372036854775807) (hq0 : 0 ≤ qh ∧ qh < 18446744073709551616) (hq1 : 0 ≤ ql ∧ ql < 18446744073709551616) (h0 : 0 ≤ hi ∧ hi < 18446744073709551616) (h1 : 0 ≤ lo ∧ lo < 18446744073709551616)
    (w : World) (hP : Aside0 (Pows w)) (hT : Aside0 (Debr w)) (hE : Aside0 (Errs w)) (hM : Aside0 (Mx w)) :
    Calls Tryz.prog 6 #[.agg #[.int .u64 ph, .int .u64 pl, .int .i64 pn], .agg #[.int .u64 qh, .int .u64 ql, .int .i64 qn], .bool is, .int .u64 hi, .int .u64 lo, .int .i64 n] w fun e w' => e = .returned (.bool true) ∧ Below w.heap.size w w' := by
  have okA := mkA_ok is hi lo h0 h1
  have bdA := ad_bd _ okA
  have MK := Aside0.mk (MakeA_calls is hi lo h0 h1)
  have OX := Aside0.mk (AdOf_calls (some (mkA is hi lo)) (ok_some _ okA))
  have OF := Aside0.mk (PfOf_calls (some (mkA is hi lo)) (ok_some _ okA) n)
  have O0 := Aside0.mk (PfOf_calls none (fun a h => by cases h) 0)
  have RO := Aside0.mk (rOf_calls (mkA is hi lo).1 (adHi (mkA is hi lo)) (adLo (mkA is hi lo)) n bdA.1 bdA.2)
  have HS := Aside0.mk (PfHas_calls ph pl pn (some (mkA is hi lo)) (ok_some _ okA) hp0 hp1)
  have HS0 := Aside0.mk (PfHas_calls ph pl pn none (fun a h => by cases h) hp0 hp1)
  have RH := Aside0.mk (rHas_calls ph pl pn (mkA is hi lo).1 (adHi (mkA is hi lo)) (adLo (mkA is hi lo)) hp0 hp1 bdA.1 bdA.2)
  have RI := Aside0.mk (Right_calls ph pl pn hp0 hp1)
  have RRI := Aside0.mk (rRight_calls ph pl pn hp0 hp1)
  have CV := Aside0.mk (PfCovers_calls ph pl pn qh ql qn hp0 hp1 hq0 hq1)
  have RCV := Aside0.mk (rCovers_calls ph pl pn qh ql qn hp0 hp1 hq0 hq1)
  have TX := Aside0.mk (PfText_calls ph pl pn hp0 hp1 hpn.1 hpn.2)
  have RTX := Aside0.mk (rPfText_calls ph pl pn hp0 hp1 hpn.1 hpn.2)
  simp only [hasO] at HS HS0
  rw [show refV (some (mkA is hi lo)) = .agg #[.bool (mkA is hi lo).1, .int .u64 (adHi (mkA is hi lo)), .int .u64 (adLo (mkA is hi lo))] from rfl] at OX
  rw [show ofP (some (mkA is hi lo)) n = ofV (adHi (mkA is hi lo)) (adLo (mkA is hi lo)) n from rfl, show ofPok (some (mkA is hi lo)) n = ofOk n from rfl] at OF
  rw [show ofP none 0 = .agg #[.int .u64 0, .int .u64 0, .int .i64 0] from rfl, show ofPok none 0 = false from rfl] at O0
  simp only [adVo] at OX OF O0 HS HS0
  clear okA bdA
  obtain ⟨x, y, z, hof⟩ := ofV_agg (adHi (mkA is hi lo)) (adLo (mkA is hi lo)) n
  rw [hof] at OF RO
  clear hof
  obtain ⟨Ti, Vi, hv⟩ := adV_iface (mkA is hi lo)
  rw [hv] at MK OX OF HS
  clear hv
  generalize hasP ph pl pn (adHi (mkA is hi lo)) (adLo (mkA is hi lo)) = bh at HS RH
  generalize (mkA is hi lo).1 = s0 at OX RO RH
  generalize adHi (mkA is hi lo) = ah at OX RO RH
  generalize adLo (mkA is hi lo) = al at OX RO RH
  generalize ofOk n = ok at OF RO
  generalize rightP ph pl pn = br at RI RRI
  generalize coversP ph pl pn qh ql qn = bc at CV RCV
  generalize pfT ph pl pn = tx at TX RTX
  obtain ⟨bt, BT, RB⟩ : ∃ bt, Aside0 (∀ W : World, Calls Tryz.prog 20 #[.agg #[.int .u64 ph, .int .u64 pl, .int .i64 pn], .int .i64 n] W fun e w' => e = .returned (.int .i64 bt) ∧ Below W.heap.size W w') ∧ Aside0 ((0 ≤ n ∧ n < 128 → ∀ W : World, Calls Tryz.prog 27 #[.int .u64 ph, .int .u64 pl, .int .i64 n] W fun e w' => e = .returned (.int .i64 bt) ∧ w' = W) ∧ (¬ (0 ≤ n ∧ n < 128) → bt = 0)) := by
    by_cases hn : 0 ≤ n ∧ n < 128
    · obtain ⟨m, rfl⟩ : ∃ m : Nat, n = m := ⟨n.toNat, by omega⟩
      exact ⟨pBit ph pl m, ⟨Bit_calls ph pl pn m (by omega) hp0 hp1⟩, ⟨fun _ => rBit_calls ph pl m (by omega) hp0 hp1, fun h => absurd hn h⟩⟩
    · exact ⟨0, ⟨Bit_out ph pl pn n (by omega)⟩, ⟨fun h => absurd h hn, fun _ => rfl⟩⟩
  have q1 := ep_28
  have q2 := eg_28
  obtain ⟨W0, hW0⟩ : ∃ W0, W0 = w.alloc (.cells #[.int .u64 ph, .int .u64 pl, .int .i64 pn] 25) := ⟨_, rfl⟩
  obtain ⟨hg0, hl0, hb0⟩ := box3 hW0
  obtain ⟨W1, hW1⟩ : ∃ W1, W1 = W0.alloc (.cells #[.int .u64 qh, .int .u64 ql, .int .i64 qn] 25) := ⟨_, rfl⟩
  obtain ⟨hg1, hl1, hb1⟩ := box3 hW1
  have hs0 : W0.heap.size = w.heap.size + 1 := by rw [hW0]; simp
  have B1 := Aside0.mk (below_then hb0 hb0.size hb1)
  obtain ⟨gp, hgp⟩ : ∃ gp, gp = w.heap.size := ⟨_, rfl⟩
  obtain ⟨gq, hgq⟩ : ∃ gq, gq = w.heap.size + 1 := ⟨_, rfl⟩
  have HP1 : Aside0 (W1.heap[gp]? = some (.cells #[.int .u64 ph, .int .u64 pl, .int .i64 pn] 25 (0, 0))) := ⟨by rw [hgp]; exact (hb1.block _ hl0).trans hg0⟩
  have HQ1 : Aside0 (W1.heap[gq]? = some (.cells #[.int .u64 qh, .int .u64 ql, .int .i64 qn] 25 (0, 0))) := ⟨by rw [hgq, ← hs0]; exact hg1⟩
  have lp1 : gp < W1.heap.size := by rw [hgp]; exact Nat.lt_of_lt_of_le hl0 hb1.size
  have lq1 : gq < W1.heap.size := by rw [hgq, ← hs0]; exact hl1
  have HW0 := Lib.hid hW0
  have HW1 := Lib.hid hW1
  have HGP := Lib.hid hgp
  have HGQ := Lib.hid hgq
  clear hg0 hl0 hb0 hg1 hl1 hb1 hs0 hW0 hW1 hgp hgq
  by_cases hn : 0 ≤ n ∧ n < 128
  · have RBT := Aside0.mk (RB.out.1 hn)
    obtain ⟨hna, hnb⟩ := hn
    clear RB
    go_enter Tryz.func6, Tryz.ntmps6
    go_wp2_with fail
    rw [← HW0.out, ← HW1.out, ← HGQ.out, ← HGP.out]
    refine (awake7_calls _ ⟨hE.out.stays B1.out⟩ ⟨hM.out.stays B1.out⟩ ⟨hP.out.stays B1.out⟩ ⟨hT.out.stays B1.out⟩).mono ?_
    rintro e w2 ⟨rfl, b2⟩
    have HP2 := Aside0.mk ((b2.block _ lp1).trans HP1.out)
    have HQ2 := Aside0.mk ((b2.block _ lq1).trans HQ1.out)
    have lp2 := Nat.lt_of_lt_of_le lp1 b2.size
    have lq2 := Nat.lt_of_lt_of_le lq1 b2.size
    have B2 := Aside0.mk (below_then B1.out B1.out.size b2)
    clear b2
    go_wp2_with fail
    refine (MK.out _).mono ?_
    rintro e w2' ⟨rfl, rfl⟩
    go_wp2_with fail
    refine (OF.out _).mono ?_
    rintro e w3 ⟨rfl, b3⟩
    have HP3 := Aside0.mk ((b3.block _ lp2).trans HP2.out)
    have HQ3 := Aside0.mk ((b3.block _ lq2).trans HQ2.out)
    have lp3 := Nat.lt_of_lt_of_le lp2 b3.size
    have lq3 := Nat.lt_of_lt_of_le lq2 b3.size
    have B3 := Aside0.mk (below_then B2.out B2.out.size b3)
    obtain ⟨W4, hW4⟩ : ∃ W4, W4 = w3.alloc (.cells #[.int .u64 x, .int .u64 y, .int .i64 z] 25) := ⟨_, rfl⟩
    obtain ⟨hg4, hl4, hb4⟩ := box3 hW4
    obtain ⟨gx, hgx⟩ : ∃ gx, gx = w3.heap.size := ⟨_, rfl⟩
    rw [← hgx] at hg4 hl4
    have HGX := Lib.hid hgx
    have HW4 := Lib.hid hW4
    have HP4 := Aside0.mk ((hb4.block _ lp3).trans HP3.out)
    have HQ4 := Aside0.mk ((hb4.block _ lq3).trans HQ3.out)
    have HX4 := Aside0.mk hg4
    have lp4 := Nat.lt_of_lt_of_le lp3 hb4.size
    have lq4 := Nat.lt_of_lt_of_le lq3 hb4.size
    have B4 := Aside0.mk (below_then B3.out B3.out.size hb4)
    clear b3 hW4 hgx hg4 hb4
    go_wp2_with fail
    rw [← HW4.out, ← HGX.out]
    refine (OX.out _).mono ?_
    rintro e w5 ⟨rfl, b5⟩
    have HP5 := Aside0.mk ((b5.block _ lp4).trans HP4.out)
    have HQ5 := Aside0.mk ((b5.block _ lq4).trans HQ4.out)
    have HX5 := Aside0.mk ((b5.block _ hl4).trans HX4.out)
    have lp5 := Nat.lt_of_lt_of_le lp4 b5.size
    have lq5 := Nat.lt_of_lt_of_le lq4 b5.size
    have lx5 := Nat.lt_of_lt_of_le hl4 b5.size
    have B5 := Aside0.mk (below_then B4.out B4.out.size b5)
    clear b5
    go_wp2_with fail
    refine (RO.out _).mono ?_
    rintro e w6 ⟨rfl, b6⟩
    have HP6 := Aside0.mk ((b6.block _ lp5).trans HP5.out)
    have HQ6 := Aside0.mk ((b6.block _ lq5).trans HQ5.out)
    have HX6 := Aside0.mk ((b6.block _ lx5).trans HX5.out)
    have lp6 := Nat.lt_of_lt_of_le lp5 b6.size
    have lq6 := Nat.lt_of_lt_of_le lq5 b6.size
    have lx6 := Nat.lt_of_lt_of_le lx5 b6.size
    have B6 := Aside0.mk (below_then B5.out B5.out.size b6)
    obtain ⟨W7, hW7⟩ : ∃ W7, W7 = w6.alloc (.cells #[.int .u64 x, .int .u64 y, .int .i64 z] 28) := ⟨_, rfl⟩
    obtain ⟨hg7, hl7, hb7⟩ := box3 hW7
    obtain ⟨gy, hgy⟩ : ∃ gy, gy = w6.heap.size := ⟨_, rfl⟩
    rw [← hgy] at hg7 hl7
    have HGY := Lib.hid hgy
    have HW7 := Lib.hid hW7
    have HP7 := Aside0.mk ((hb7.block _ lp6).trans HP6.out)
    have HQ7 := Aside0.mk ((hb7.block _ lq6).trans HQ6.out)
    have HX7 := Aside0.mk ((hb7.block _ lx6).trans HX6.out)
    have HY7 := Aside0.mk hg7
    have lp7 := Nat.lt_of_lt_of_le lp6 hb7.size
    have lq7 := Nat.lt_of_lt_of_le lq6 hb7.size
    have lx7 := Nat.lt_of_lt_of_le lx6 hb7.size
    have B7 := Aside0.mk (below_then B6.out B6.out.size hb7)
    clear b6 hW7 hgy hg7 hb7
    have hp7 := HP7.out
    obtain ⟨j0, _⟩ := heap_cell (j := 0) hp7 rfl
    obtain ⟨j1, _⟩ := heap_cell (j := 1) hp7 rfl
    clear hp7
    rw [HW7.out] at j0 j1
    go_wp2_with fail
    rw [← HW7.out] at j0 j1 ⊢
    rw [← HGY.out]
    refine (RBT.out _).mono ?_
    rintro e w7' ⟨rfl, rfl⟩
    clear j0 j1
    go_wp2_with fail
    refine (O0.out _).mono ?_
    rintro e w8 ⟨rfl, b8⟩
    have HP8 := Aside0.mk ((b8.block _ lp7).trans HP7.out)
    have HQ8 := Aside0.mk ((b8.block _ lq7).trans HQ7.out)
    have HX8 := Aside0.mk ((b8.block _ lx7).trans HX7.out)
    have HY8 := Aside0.mk ((b8.block _ hl7).trans HY7.out)
    have lp8 := Nat.lt_of_lt_of_le lp7 b8.size
    have lq8 := Nat.lt_of_lt_of_le lq7 b8.size
    have lx8 := Nat.lt_of_lt_of_le lx7 b8.size
    have ly8 := Nat.lt_of_lt_of_le hl7 b8.size
    have B8 := Aside0.mk (below_then B7.out B7.out.size b8)
    clear b8
    obtain ⟨W9, hW9⟩ : ∃ W9, W9 = w8.alloc (.cells #[.int .u64 0, .int .u64 0, .int .i64 0] 25) := ⟨_, rfl⟩
    obtain ⟨hg9, hl9, hb9⟩ := box3 hW9
    have HW9 := Lib.hid hW9
    have B9 := Aside0.mk (below_then B8.out B8.out.size hb9)
    have hp9 := (hb9.block _ lp8).trans HP8.out
    have hq9 := (hb9.block _ lq8).trans HQ8.out
    have hx9 := (hb9.block _ lx8).trans HX8.out
    have hy9 := (hb9.block _ ly8).trans HY8.out
    have KS0 : Aside0 (Below W9.heap.size W9 W9.drew ∧ W9.drew.cell? ⟨gp, 0, none⟩ = some (.int .u64 ph) ∧ W9.drew.cell? ⟨gp, 1, none⟩ = some (.int .u64 pl) ∧ W9.drew.cell? ⟨gp, 2, none⟩ = some (.int .i64 pn) ∧ W9.drew.cell? ⟨gq, 0, none⟩ = some (.int .u64 qh) ∧ W9.drew.cell? ⟨gq, 1, none⟩ = some (.int .u64 ql) ∧ W9.drew.cell? ⟨gq, 2, none⟩ = some (.int .i64 qn) ∧ W9.drew.cell? ⟨gx, 0, none⟩ = some (.int .u64 x) ∧ W9.drew.cell? ⟨gx, 1, none⟩ = some (.int .u64 y) ∧ W9.drew.cell? ⟨gx, 2, none⟩ = some (.int .i64 z) ∧ W9.drew.cell? ⟨gy, 0, none⟩ = some (.int .u64 x) ∧ W9.drew.cell? ⟨gy, 1, none⟩ = some (.int .u64 y) ∧ W9.drew.cell? ⟨gy, 2, none⟩ = some (.int .i64 z)) := ⟨(Below.refl _ _).drew, (heap_cell (j := 0) hp9 rfl).1, (heap_cell (j := 1) hp9 rfl).1, (heap_cell (j := 2) hp9 rfl).1, (heap_cell (j := 0) hq9 rfl).1, (heap_cell (j := 1) hq9 rfl).1, (heap_cell (j := 2) hq9 rfl).1, (heap_cell (j := 0) hx9 rfl).1, (heap_cell (j := 1) hx9 rfl).1, (heap_cell (j := 2) hx9 rfl).1, (heap_cell (j := 0) hy9 rfl).1, (heap_cell (j := 1) hy9 rfl).1, (heap_cell (j := 2) hy9 rfl).1⟩
    have KS : Aside0 (∀ W W' : World, (Below W9.heap.size W9 W ∧ W.cell? ⟨gp, 0, none⟩ = some (.int .u64 ph) ∧ W.cell? ⟨gp, 1, none⟩ = some (.int .u64 pl) ∧ W.cell? ⟨gp, 2, none⟩ = some (.int .i64 pn) ∧ W.cell? ⟨gq, 0, none⟩ = some (.int .u64 qh) ∧ W.cell? ⟨gq, 1, none⟩ = some (.int .u64 ql) ∧ W.cell? ⟨gq, 2, none⟩ = some (.int .i64 qn) ∧ W.cell? ⟨gx, 0, none⟩ = some (.int .u64 x) ∧ W.cell? ⟨gx, 1, none⟩ = some (.int .u64 y) ∧ W.cell? ⟨gx, 2, none⟩ = some (.int .i64 z) ∧ W.cell? ⟨gy, 0, none⟩ = some (.int .u64 x) ∧ W.cell? ⟨gy, 1, none⟩ = some (.int .u64 y) ∧ W.cell? ⟨gy, 2, none⟩ = some (.int .i64 z)) → Below W.heap.size W W' → (Below W9.heap.size W9 W' ∧ W'.cell? ⟨gp, 0, none⟩ = some (.int .u64 ph) ∧ W'.cell? ⟨gp, 1, none⟩ = some (.int .u64 pl) ∧ W'.cell? ⟨gp, 2, none⟩ = some (.int .i64 pn) ∧ W'.cell? ⟨gq, 0, none⟩ = some (.int .u64 qh) ∧ W'.cell? ⟨gq, 1, none⟩ = some (.int .u64 ql) ∧ W'.cell? ⟨gq, 2, none⟩ = some (.int .i64 qn) ∧ W'.cell? ⟨gx, 0, none⟩ = some (.int .u64 x) ∧ W'.cell? ⟨gx, 1, none⟩ = some (.int .u64 y) ∧ W'.cell? ⟨gx, 2, none⟩ = some (.int .i64 z) ∧ W'.cell? ⟨gy, 0, none⟩ = some (.int .u64 x) ∧ W'.cell? ⟨gy, 1, none⟩ = some (.int .u64 y) ∧ W'.cell? ⟨gy, 2, none⟩ = some (.int .i64 z))) := ⟨fun W W' ⟨h, k0, k1, k2, k3, k4, k5, k6, k7, k8, k9, k10, k11⟩ hb => ⟨below_then h h.size hb, (hb.cell (cell_of_lt k0)).trans k0, (hb.cell (cell_of_lt k1)).trans k1, (hb.cell (cell_of_lt k2)).trans k2, (hb.cell (cell_of_lt k3)).trans k3, (hb.cell (cell_of_lt k4)).trans k4, (hb.cell (cell_of_lt k5)).trans k5, (hb.cell (cell_of_lt k6)).trans k6, (hb.cell (cell_of_lt k7)).trans k7, (hb.cell (cell_of_lt k8)).trans k8, (hb.cell (cell_of_lt k9)).trans k9, (hb.cell (cell_of_lt k10)).trans k10, (hb.cell (cell_of_lt k11)).trans k11⟩⟩
    have hP9 := hP.out.stays B9.out
    have hT9 := hT.out.stays B9.out
    have BE : Aside0 (∀ W, Below W9.heap.size W9 W → Below w.heap.size w W) := ⟨fun W h => below_then B9.out B9.out.size h⟩
    clear hW9 hg9 hl9 hb9 hp9 hq9 hx9 hy9 lp1 lq1 lp2 lq2 lp3 lq3 hl4 lp4 lq4 lp5 lq5 lx5 lp6 lq6 lx6 hl7 lp7 lq7 lx7 lp8 lq8 lx8 ly8
    clear HP1 HQ1 HP2 HQ2 HP3 HQ3 HP4 HQ4 HX4 HP5 HQ5 HX5 HP6 HQ6 HX6 HP7 HQ7 HX7 HY7 HP8 HQ8 HX8 HY8 B1 B2 B3 B4 B5 B6 B7 B8 B9 MK OF RO O0
    go_wp2_with fail
    rw [← HW9.out]
    go_region_held3 (fun W => (Below W9.heap.size W9 W ∧ W.cell? ⟨gp, 0, none⟩ = some (.int .u64 ph) ∧ W.cell? ⟨gp, 1, none⟩ = some (.int .u64 pl) ∧ W.cell? ⟨gp, 2, none⟩ = some (.int .i64 pn) ∧ W.cell? ⟨gq, 0, none⟩ = some (.int .u64 qh) ∧ W.cell? ⟨gq, 1, none⟩ = some (.int .u64 ql) ∧ W.cell? ⟨gq, 2, none⟩ = some (.int .i64 qn) ∧ W.cell? ⟨gx, 0, none⟩ = some (.int .u64 x) ∧ W.cell? ⟨gx, 1, none⟩ = some (.int .u64 y) ∧ W.cell? ⟨gx, 2, none⟩ = some (.int .i64 z) ∧ W.cell? ⟨gy, 0, none⟩ = some (.int .u64 x) ∧ W.cell? ⟨gy, 1, none⟩ = some (.int .u64 y) ∧ W.cell? ⟨gy, 2, none⟩ = some (.int .i64 z))) (first | exact KS0.out | exact KS.out _ _ (by assumption) (by assumption))
      (first
        | (go_at_call_of 21 Value.nilIface; refine (HS0.out _).mono ?_; rintro e w' ⟨rfl, hb⟩)
        | (go_at_call 22; refine (RI.out _).mono ?_; rintro e w' ⟨rfl, hb⟩)
        | (go_at_call 28; refine (RRI.out _).mono ?_; rintro e w' ⟨rfl, hb⟩)
        | (go_at_call 21; refine (HS.out _).mono ?_; rintro e w' ⟨rfl, hb⟩)
        | (go_at_call 26; refine (OX.out _).mono ?_; rintro e w' ⟨rfl, hb⟩)
        | (go_at_call 29; refine (RH.out _).mono ?_; rintro e w' ⟨rfl, hb⟩)
        | (go_at_call 19; refine (CV.out _).mono ?_; rintro e w' ⟨rfl, hb⟩)
        | (go_at_call 30; refine (RCV.out _).mono ?_; rintro e w' ⟨rfl, hb⟩)
        | (go_at_call 23; refine (TX.out _ ⟨hP9.stays (And.left (by assumption))⟩ ⟨hT9.stays (And.left (by assumption))⟩).mono ?_; rintro e w' ⟨rfl, hb⟩)
        | (go_at_call 31; refine (RTX.out _ ⟨hP9.stays (And.left (by assumption))⟩).mono ?_; rintro e w' ⟨rfl, hb⟩)
        | (go_at_call 20; refine (BT.out _).mono ?_; rintro e w' ⟨rfl, hb⟩))
    all_goals
      go_wp2_with fail
      go_ret
      exact ⟨ret_bool (by simp), BE.out _ (And.left (by assumption))⟩
  · have hbt := RB.out.2 hn
    subst hbt
    clear RB
    have hn' : n < 0 ∨ 128 ≤ n := by omega
    clear hn
    rcases hn' with hn' | hn'
    · go_enter Tryz.func6, Tryz.ntmps6
      go_wp2_with fail
      rw [← HW0.out, ← HW1.out, ← HGQ.out, ← HGP.out]
      refine (awake7_calls _ ⟨hE.out.stays B1.out⟩ ⟨hM.out.stays B1.out⟩ ⟨hP.out.stays B1.out⟩ ⟨hT.out.stays B1.out⟩).mono ?_
      rintro e w2 ⟨rfl, b2⟩
      have HP2 := Aside0.mk ((b2.block _ lp1).trans HP1.out)
      have HQ2 := Aside0.mk ((b2.block _ lq1).trans HQ1.out)
      have lp2 := Nat.lt_of_lt_of_le lp1 b2.size
      have lq2 := Nat.lt_of_lt_of_le lq1 b2.size
      have B2 := Aside0.mk (below_then B1.out B1.out.size b2)
      clear b2
      go_wp2_with fail
      refine (MK.out _).mono ?_
      rintro e w2' ⟨rfl, rfl⟩
      go_wp2_with fail
      refine (OF.out _).mono ?_
      rintro e w3 ⟨rfl, b3⟩
      have HP3 := Aside0.mk ((b3.block _ lp2).trans HP2.out)
      have HQ3 := Aside0.mk ((b3.block _ lq2).trans HQ2.out)
      have lp3 := Nat.lt_of_lt_of_le lp2 b3.size
      have lq3 := Nat.lt_of_lt_of_le lq2 b3.size
      have B3 := Aside0.mk (below_then B2.out B2.out.size b3)
      obtain ⟨W4, hW4⟩ : ∃ W4, W4 = w3.alloc (.cells #[.int .u64 x, .int .u64 y, .int .i64 z] 25) := ⟨_, rfl⟩
      obtain ⟨hg4, hl4, hb4⟩ := box3 hW4
      obtain ⟨gx, hgx⟩ : ∃ gx, gx = w3.heap.size := ⟨_, rfl⟩
      rw [← hgx] at hg4 hl4
      have HGX := Lib.hid hgx
      have HW4 := Lib.hid hW4
      have HP4 := Aside0.mk ((hb4.block _ lp3).trans HP3.out)
      have HQ4 := Aside0.mk ((hb4.block _ lq3).trans HQ3.out)
      have HX4 := Aside0.mk hg4
      have lp4 := Nat.lt_of_lt_of_le lp3 hb4.size
      have lq4 := Nat.lt_of_lt_of_le lq3 hb4.size
      have B4 := Aside0.mk (below_then B3.out B3.out.size hb4)
      clear b3 hW4 hgx hg4 hb4
      go_wp2_with fail
      rw [← HW4.out, ← HGX.out]
      refine (OX.out _).mono ?_
      rintro e w5 ⟨rfl, b5⟩
      have HP5 := Aside0.mk ((b5.block _ lp4).trans HP4.out)
      have HQ5 := Aside0.mk ((b5.block _ lq4).trans HQ4.out)
      have HX5 := Aside0.mk ((b5.block _ hl4).trans HX4.out)
      have lp5 := Nat.lt_of_lt_of_le lp4 b5.size
      have lq5 := Nat.lt_of_lt_of_le lq4 b5.size
      have lx5 := Nat.lt_of_lt_of_le hl4 b5.size
      have B5 := Aside0.mk (below_then B4.out B4.out.size b5)
      clear b5
      go_wp2_with fail
      refine (RO.out _).mono ?_
      rintro e w6 ⟨rfl, b6⟩
      have HP6 := Aside0.mk ((b6.block _ lp5).trans HP5.out)
      have HQ6 := Aside0.mk ((b6.block _ lq5).trans HQ5.out)
      have HX6 := Aside0.mk ((b6.block _ lx5).trans HX5.out)
      have lp6 := Nat.lt_of_lt_of_le lp5 b6.size
      have lq6 := Nat.lt_of_lt_of_le lq5 b6.size
      have lx6 := Nat.lt_of_lt_of_le lx5 b6.size
      have B6 := Aside0.mk (below_then B5.out B5.out.size b6)
      obtain ⟨W7, hW7⟩ : ∃ W7, W7 = w6.alloc (.cells #[.int .u64 x, .int .u64 y, .int .i64 z] 28) := ⟨_, rfl⟩
      obtain ⟨hg7, hl7, hb7⟩ := box3 hW7
      obtain ⟨gy, hgy⟩ : ∃ gy, gy = w6.heap.size := ⟨_, rfl⟩
      rw [← hgy] at hg7 hl7
      have HGY := Lib.hid hgy
      have HW7 := Lib.hid hW7
      have HP7 := Aside0.mk ((hb7.block _ lp6).trans HP6.out)
      have HQ7 := Aside0.mk ((hb7.block _ lq6).trans HQ6.out)
      have HX7 := Aside0.mk ((hb7.block _ lx6).trans HX6.out)
      have HY7 := Aside0.mk hg7
      have lp7 := Nat.lt_of_lt_of_le lp6 hb7.size
      have lq7 := Nat.lt_of_lt_of_le lq6 hb7.size
      have lx7 := Nat.lt_of_lt_of_le lx6 hb7.size
      have B7 := Aside0.mk (below_then B6.out B6.out.size hb7)
      clear b6 hW7 hgy hg7 hb7
      have hp7 := HP7.out
      obtain ⟨j0, _⟩ := heap_cell (j := 0) hp7 rfl
      obtain ⟨j1, _⟩ := heap_cell (j := 1) hp7 rfl
      clear hp7
      rw [HW7.out] at j0 j1
      go_wp2_with fail
      rw [← HW7.out] at j0 j1 ⊢
      rw [← HGY.out]
      refine (O0.out _).mono ?_
      rintro e w8 ⟨rfl, b8⟩
      clear j0 j1
      have HP8 := Aside0.mk ((b8.block _ lp7).trans HP7.out)
      have HQ8 := Aside0.mk ((b8.block _ lq7).trans HQ7.out)
      have HX8 := Aside0.mk ((b8.block _ lx7).trans HX7.out)
      have HY8 := Aside0.mk ((b8.block _ hl7).trans HY7.out)
      have lp8 := Nat.lt_of_lt_of_le lp7 b8.size
      have lq8 := Nat.lt_of_lt_of_le lq7 b8.size
      have lx8 := Nat.lt_of_lt_of_le lx7 b8.size
      have ly8 := Nat.lt_of_lt_of_le hl7 b8.size
      have B8 := Aside0.mk (below_then B7.out B7.out.size b8)
      clear b8
      obtain ⟨W9, hW9⟩ : ∃ W9, W9 = w8.alloc (.cells #[.int .u64 0, .int .u64 0, .int .i64 0] 25) := ⟨_, rfl⟩
      obtain ⟨hg9, hl9, hb9⟩ := box3 hW9
      have HW9 := Lib.hid hW9
      have B9 := Aside0.mk (below_then B8.out B8.out.size hb9)
      have hp9 := (hb9.block _ lp8).trans HP8.out
      have hq9 := (hb9.block _ lq8).trans HQ8.out
      have hx9 := (hb9.block _ lx8).trans HX8.out
      have hy9 := (hb9.block _ ly8).trans HY8.out
      have KS0 : Aside0 (Below W9.heap.size W9 W9.drew ∧ W9.drew.cell? ⟨gp, 0, none⟩ = some (.int .u64 ph) ∧ W9.drew.cell? ⟨gp, 1, none⟩ = some (.int .u64 pl) ∧ W9.drew.cell? ⟨gp, 2, none⟩ = some (.int .i64 pn) ∧ W9.drew.cell? ⟨gq, 0, none⟩ = some (.int .u64 qh) ∧ W9.drew.cell? ⟨gq, 1, none⟩ = some (.int .u64 ql) ∧ W9.drew.cell? ⟨gq, 2, none⟩ = some (.int .i64 qn) ∧ W9.drew.cell? ⟨gx, 0, none⟩ = some (.int .u64 x) ∧ W9.drew.cell? ⟨gx, 1, none⟩ = some (.int .u64 y) ∧ W9.drew.cell? ⟨gx, 2, none⟩ = some (.int .i64 z) ∧ W9.drew.cell? ⟨gy, 0, none⟩ = some (.int .u64 x) ∧ W9.drew.cell? ⟨gy, 1, none⟩ = some (.int .u64 y) ∧ W9.drew.cell? ⟨gy, 2, none⟩ = some (.int .i64 z)) := ⟨(Below.refl _ _).drew, (heap_cell (j := 0) hp9 rfl).1, (heap_cell (j := 1) hp9 rfl).1, (heap_cell (j := 2) hp9 rfl).1, (heap_cell (j := 0) hq9 rfl).1, (heap_cell (j := 1) hq9 rfl).1, (heap_cell (j := 2) hq9 rfl).1, (heap_cell (j := 0) hx9 rfl).1, (heap_cell (j := 1) hx9 rfl).1, (heap_cell (j := 2) hx9 rfl).1, (heap_cell (j := 0) hy9 rfl).1, (heap_cell (j := 1) hy9 rfl).1, (heap_cell (j := 2) hy9 rfl).1⟩
      have KS : Aside0 (∀ W W' : World, (Below W9.heap.size W9 W ∧ W.cell? ⟨gp, 0, none⟩ = some (.int .u64 ph) ∧ W.cell? ⟨gp, 1, none⟩ = some (.int .u64 pl) ∧ W.cell? ⟨gp, 2, none⟩ = some (.int .i64 pn) ∧ W.cell? ⟨gq, 0, none⟩ = some (.int .u64 qh) ∧ W.cell? ⟨gq, 1, none⟩ = some (.int .u64 ql) ∧ W.cell? ⟨gq, 2, none⟩ = some (.int .i64 qn) ∧ W.cell? ⟨gx, 0, none⟩ = some (.int .u64 x) ∧ W.cell? ⟨gx, 1, none⟩ = some (.int .u64 y) ∧ W.cell? ⟨gx, 2, none⟩ = some (.int .i64 z) ∧ W.cell? ⟨gy, 0, none⟩ = some (.int .u64 x) ∧ W.cell? ⟨gy, 1, none⟩ = some (.int .u64 y) ∧ W.cell? ⟨gy, 2, none⟩ = some (.int .i64 z)) → Below W.heap.size W W' → (Below W9.heap.size W9 W' ∧ W'.cell? ⟨gp, 0, none⟩ = some (.int .u64 ph) ∧ W'.cell? ⟨gp, 1, none⟩ = some (.int .u64 pl) ∧ W'.cell? ⟨gp, 2, none⟩ = some (.int .i64 pn) ∧ W'.cell? ⟨gq, 0, none⟩ = some (.int .u64 qh) ∧ W'.cell? ⟨gq, 1, none⟩ = some (.int .u64 ql) ∧ W'.cell? ⟨gq, 2, none⟩ = some (.int .i64 qn) ∧ W'.cell? ⟨gx, 0, none⟩ = some (.int .u64 x) ∧ W'.cell? ⟨gx, 1, none⟩ = some (.int .u64 y) ∧ W'.cell? ⟨gx, 2, none⟩ = some (.int .i64 z) ∧ W'.cell? ⟨gy, 0, none⟩ = some (.int .u64 x) ∧ W'.cell? ⟨gy, 1, none⟩ = some (.int .u64 y) ∧ W'.cell? ⟨gy, 2, none⟩ = some (.int .i64 z))) := ⟨fun W W' ⟨h, k0, k1, k2, k3, k4, k5, k6, k7, k8, k9, k10, k11⟩ hb => ⟨below_then h h.size hb, (hb.cell (cell_of_lt k0)).trans k0, (hb.cell (cell_of_lt k1)).trans k1, (hb.cell (cell_of_lt k2)).trans k2, (hb.cell (cell_of_lt k3)).trans k3, (hb.cell (cell_of_lt k4)).trans k4, (hb.cell (cell_of_lt k5)).trans k5, (hb.cell (cell_of_lt k6)).trans k6, (hb.cell (cell_of_lt k7)).trans k7, (hb.cell (cell_of_lt k8)).trans k8, (hb.cell (cell_of_lt k9)).trans k9, (hb.cell (cell_of_lt k10)).trans k10, (hb.cell (cell_of_lt k11)).trans k11⟩⟩
      have hP9 := hP.out.stays B9.out
      have hT9 := hT.out.stays B9.out
      have BE : Aside0 (∀ W, Below W9.heap.size W9 W → Below w.heap.size w W) := ⟨fun W h => below_then B9.out B9.out.size h⟩
      clear hW9 hg9 hl9 hb9 hp9 hq9 hx9 hy9 lp1 lq1 lp2 lq2 lp3 lq3 hl4 lp4 lq4 lp5 lq5 lx5 lp6 lq6 lx6 hl7 lp7 lq7 lx7 lp8 lq8 lx8 ly8
      clear HP1 HQ1 HP2 HQ2 HP3 HQ3 HP4 HQ4 HX4 HP5 HQ5 HX5 HP6 HQ6 HX6 HP7 HQ7 HX7 HY7 HP8 HQ8 HX8 HY8 B1 B2 B3 B4 B5 B6 B7 B8 B9 MK OF RO O0
      go_wp2_with fail
      rw [← HW9.out]
      go_region_held3 (fun W => (Below W9.heap.size W9 W ∧ W.cell? ⟨gp, 0, none⟩ = some (.int .u64 ph) ∧ W.cell? ⟨gp, 1, none⟩ = some (.int .u64 pl) ∧ W.cell? ⟨gp, 2, none⟩ = some (.int .i64 pn) ∧ W.cell? ⟨gq, 0, none⟩ = some (.int .u64 qh) ∧ W.cell? ⟨gq, 1, none⟩ = some (.int .u64 ql) ∧ W.cell? ⟨gq, 2, none⟩ = some (.int .i64 qn) ∧ W.cell? ⟨gx, 0, none⟩ = some (.int .u64 x) ∧ W.cell? ⟨gx, 1, none⟩ = some (.int .u64 y) ∧ W.cell? ⟨gx, 2, none⟩ = some (.int .i64 z) ∧ W.cell? ⟨gy, 0, none⟩ = some (.int .u64 x) ∧ W.cell? ⟨gy, 1, none⟩ = some (.int .u64 y) ∧ W.cell? ⟨gy, 2, none⟩ = some (.int .i64 z))) (first | exact KS0.out | exact KS.out _ _ (by assumption) (by assumption))
        (first
          | (go_at_call_of 21 Value.nilIface; refine (HS0.out _).mono ?_; rintro e w' ⟨rfl, hb⟩)
          | (go_at_call 22; refine (RI.out _).mono ?_; rintro e w' ⟨rfl, hb⟩)
          | (go_at_call 28; refine (RRI.out _).mono ?_; rintro e w' ⟨rfl, hb⟩)
          | (go_at_call 21; refine (HS.out _).mono ?_; rintro e w' ⟨rfl, hb⟩)
          | (go_at_call 26; refine (OX.out _).mono ?_; rintro e w' ⟨rfl, hb⟩)
          | (go_at_call 29; refine (RH.out _).mono ?_; rintro e w' ⟨rfl, hb⟩)
          | (go_at_call 19; refine (CV.out _).mono ?_; rintro e w' ⟨rfl, hb⟩)
          | (go_at_call 30; refine (RCV.out _).mono ?_; rintro e w' ⟨rfl, hb⟩)
          | (go_at_call 23; refine (TX.out _ ⟨hP9.stays (And.left (by assumption))⟩ ⟨hT9.stays (And.left (by assumption))⟩).mono ?_; rintro e w' ⟨rfl, hb⟩)
          | (go_at_call 31; refine (RTX.out _ ⟨hP9.stays (And.left (by assumption))⟩).mono ?_; rintro e w' ⟨rfl, hb⟩)
          | (go_at_call 20; refine (BT.out _).mono ?_; rintro e w' ⟨rfl, hb⟩))
      all_goals
        go_wp2_with fail
        go_ret
        exact ⟨ret_bool (by simp), BE.out _ (And.left (by assumption))⟩
    · go_enter Tryz.func6, Tryz.ntmps6
      go_wp2_with fail
      rw [← HW0.out, ← HW1.out, ← HGQ.out, ← HGP.out]
      refine (awake7_calls _ ⟨hE.out.stays B1.out⟩ ⟨hM.out.stays B1.out⟩ ⟨hP.out.stays B1.out⟩ ⟨hT.out.stays B1.out⟩).mono ?_
      rintro e w2 ⟨rfl, b2⟩
      have HP2 := Aside0.mk ((b2.block _ lp1).trans HP1.out)
      have HQ2 := Aside0.mk ((b2.block _ lq1).trans HQ1.out)
      have lp2 := Nat.lt_of_lt_of_le lp1 b2.size
      have lq2 := Nat.lt_of_lt_of_le lq1 b2.size
      have B2 := Aside0.mk (below_then B1.out B1.out.size b2)
      clear b2
      go_wp2_with fail
      refine (MK.out _).mono ?_
      rintro e w2' ⟨rfl, rfl⟩
      go_wp2_with fail
      refine (OF.out _).mono ?_
      rintro e w3 ⟨rfl, b3⟩
      have HP3 := Aside0.mk ((b3.block _ lp2).trans HP2.out)
      have HQ3 := Aside0.mk ((b3.block _ lq2).trans HQ2.out)
      have lp3 := Nat.lt_of_lt_of_le lp2 b3.size
      have lq3 := Nat.lt_of_lt_of_le lq2 b3.size
      have B3 := Aside0.mk (below_then B2.out B2.out.size b3)
      obtain ⟨W4, hW4⟩ : ∃ W4, W4 = w3.alloc (.cells #[.int .u64 x, .int .u64 y, .int .i64 z] 25) := ⟨_, rfl⟩
      obtain ⟨hg4, hl4, hb4⟩ := box3 hW4
      obtain ⟨gx, hgx⟩ : ∃ gx, gx = w3.heap.size := ⟨_, rfl⟩
      rw [← hgx] at hg4 hl4
      have HGX := Lib.hid hgx
      have HW4 := Lib.hid hW4
      have HP4 := Aside0.mk ((hb4.block _ lp3).trans HP3.out)
      have HQ4 := Aside0.mk ((hb4.block _ lq3).trans HQ3.out)
      have HX4 := Aside0.mk hg4
      have lp4 := Nat.lt_of_lt_of_le lp3 hb4.size
      have lq4 := Nat.lt_of_lt_of_le lq3 hb4.size
      have B4 := Aside0.mk (below_then B3.out B3.out.size hb4)
      clear b3 hW4 hgx hg4 hb4
      go_wp2_with fail
      rw [← HW4.out, ← HGX.out]
      refine (OX.out _).mono ?_
      rintro e w5 ⟨rfl, b5⟩
      have HP5 := Aside0.mk ((b5.block _ lp4).trans HP4.out)
      have HQ5 := Aside0.mk ((b5.block _ lq4).trans HQ4.out)
      have HX5 := Aside0.mk ((b5.block _ hl4).trans HX4.out)
      have lp5 := Nat.lt_of_lt_of_le lp4 b5.size
      have lq5 := Nat.lt_of_lt_of_le lq4 b5.size
      have lx5 := Nat.lt_of_lt_of_le hl4 b5.size
      have B5 := Aside0.mk (below_then B4.out B4.out.size b5)
      clear b5
      go_wp2_with fail
      refine (RO.out _).mono ?_
      rintro e w6 ⟨rfl, b6⟩
      have HP6 := Aside0.mk ((b6.block _ lp5).trans HP5.out)
      have HQ6 := Aside0.mk ((b6.block _ lq5).trans HQ5.out)
      have HX6 := Aside0.mk ((b6.block _ lx5).trans HX5.out)
      have lp6 := Nat.lt_of_lt_of_le lp5 b6.size
      have lq6 := Nat.lt_of_lt_of_le lq5 b6.size
      have lx6 := Nat.lt_of_lt_of_le lx5 b6.size
      have B6 := Aside0.mk (below_then B5.out B5.out.size b6)
      obtain ⟨W7, hW7⟩ : ∃ W7, W7 = w6.alloc (.cells #[.int .u64 x, .int .u64 y, .int .i64 z] 28) := ⟨_, rfl⟩
      obtain ⟨hg7, hl7, hb7⟩ := box3 hW7
      obtain ⟨gy, hgy⟩ : ∃ gy, gy = w6.heap.size := ⟨_, rfl⟩
      rw [← hgy] at hg7 hl7
      have HGY := Lib.hid hgy
      have HW7 := Lib.hid hW7
      have HP7 := Aside0.mk ((hb7.block _ lp6).trans HP6.out)
      have HQ7 := Aside0.mk ((hb7.block _ lq6).trans HQ6.out)
      have HX7 := Aside0.mk ((hb7.block _ lx6).trans HX6.out)
      have HY7 := Aside0.mk hg7
      have lp7 := Nat.lt_of_lt_of_le lp6 hb7.size
      have lq7 := Nat.lt_of_lt_of_le lq6 hb7.size
      have lx7 := Nat.lt_of_lt_of_le lx6 hb7.size
      have B7 := Aside0.mk (below_then B6.out B6.out.size hb7)
      clear b6 hW7 hgy hg7 hb7
      have hp7 := HP7.out
      obtain ⟨j0, _⟩ := heap_cell (j := 0) hp7 rfl
      obtain ⟨j1, _⟩ := heap_cell (j := 1) hp7 rfl
      clear hp7
      rw [HW7.out] at j0 j1
      go_wp2_with fail
      rw [← HW7.out] at j0 j1 ⊢
      rw [← HGY.out]
      refine (O0.out _).mono ?_
      rintro e w8 ⟨rfl, b8⟩
      clear j0 j1
      have HP8 := Aside0.mk ((b8.block _ lp7).trans HP7.out)
      have HQ8 := Aside0.mk ((b8.block _ lq7).trans HQ7.out)
      have HX8 := Aside0.mk ((b8.block _ lx7).trans HX7.out)
      have HY8 := Aside0.mk ((b8.block _ hl7).trans HY7.out)
      have lp8 := Nat.lt_of_lt_of_le lp7 b8.size
      have lq8 := Nat.lt_of_lt_of_le lq7 b8.size
      have lx8 := Nat.lt_of_lt_of_le lx7 b8.size
      have ly8 := Nat.lt_of_lt_of_le hl7 b8.size
      have B8 := Aside0.mk (below_then B7.out B7.out.size b8)
      clear b8
      obtain ⟨W9, hW9⟩ : ∃ W9, W9 = w8.alloc (.cells #[.int .u64 0, .int .u64 0, .int .i64 0] 25) := ⟨_, rfl⟩
      obtain ⟨hg9, hl9, hb9⟩ := box3 hW9
      have HW9 := Lib.hid hW9
      have B9 := Aside0.mk (below_then B8.out B8.out.size hb9)
      have hp9 := (hb9.block _ lp8).trans HP8.out
      have hq9 := (hb9.block _ lq8).trans HQ8.out
      have hx9 := (hb9.block _ lx8).trans HX8.out
      have hy9 := (hb9.block _ ly8).trans HY8.out
      have KS0 : Aside0 (Below W9.heap.size W9 W9.drew ∧ W9.drew.cell? ⟨gp, 0, none⟩ = some (.int .u64 ph) ∧ W9.drew.cell? ⟨gp, 1, none⟩ = some (.int .u64 pl) ∧ W9.drew.cell? ⟨gp, 2, none⟩ = some (.int .i64 pn) ∧ W9.drew.cell? ⟨gq, 0, none⟩ = some (.int .u64 qh) ∧ W9.drew.cell? ⟨gq, 1, none⟩ = some (.int .u64 ql) ∧ W9.drew.cell? ⟨gq, 2, none⟩ = some (.int .i64 qn) ∧ W9.drew.cell? ⟨gx, 0, none⟩ = some (.int .u64 x) ∧ W9.drew.cell? ⟨gx, 1, none⟩ = some (.int .u64 y) ∧ W9.drew.cell? ⟨gx, 2, none⟩ = some (.int .i64 z) ∧ W9.drew.cell? ⟨gy, 0, none⟩ = some (.int .u64 x) ∧ W9.drew.cell? ⟨gy, 1, none⟩ = some (.int .u64 y) ∧ W9.drew.cell? ⟨gy, 2, none⟩ = some (.int .i64 z)) := ⟨(Below.refl _ _).drew, (heap_cell (j := 0) hp9 rfl).1, (heap_cell (j := 1) hp9 rfl).1, (heap_cell (j := 2) hp9 rfl).1, (heap_cell (j := 0) hq9 rfl).1, (heap_cell (j := 1) hq9 rfl).1, (heap_cell (j := 2) hq9 rfl).1, (heap_cell (j := 0) hx9 rfl).1, (heap_cell (j := 1) hx9 rfl).1, (heap_cell (j := 2) hx9 rfl).1, (heap_cell (j := 0) hy9 rfl).1, (heap_cell (j := 1) hy9 rfl).1, (heap_cell (j := 2) hy9 rfl).1⟩
      have KS : Aside0 (∀ W W' : World, (Below W9.heap.size W9 W ∧ W.cell? ⟨gp, 0, none⟩ = some (.int .u64 ph) ∧ W.cell? ⟨gp, 1, none⟩ = some (.int .u64 pl) ∧ W.cell? ⟨gp, 2, none⟩ = some (.int .i64 pn) ∧ W.cell? ⟨gq, 0, none⟩ = some (.int .u64 qh) ∧ W.cell? ⟨gq, 1, none⟩ = some (.int .u64 ql) ∧ W.cell? ⟨gq, 2, none⟩ = some (.int .i64 qn) ∧ W.cell? ⟨gx, 0, none⟩ = some (.int .u64 x) ∧ W.cell? ⟨gx, 1, none⟩ = some (.int .u64 y) ∧ W.cell? ⟨gx, 2, none⟩ = some (.int .i64 z) ∧ W.cell? ⟨gy, 0, none⟩ = some (.int .u64 x) ∧ W.cell? ⟨gy, 1, none⟩ = some (.int .u64 y) ∧ W.cell? ⟨gy, 2, none⟩ = some (.int .i64 z)) → Below W.heap.size W W' → (Below W9.heap.size W9 W' ∧ W'.cell? ⟨gp, 0, none⟩ = some (.int .u64 ph) ∧ W'.cell? ⟨gp, 1, none⟩ = some (.int .u64 pl) ∧ W'.cell? ⟨gp, 2, none⟩ = some (.int .i64 pn) ∧ W'.cell? ⟨gq, 0, none⟩ = some (.int .u64 qh) ∧ W'.cell? ⟨gq, 1, none⟩ = some (.int .u64 ql) ∧ W'.cell? ⟨gq, 2, none⟩ = some (.int .i64 qn) ∧ W'.cell? ⟨gx, 0, none⟩ = some (.int .u64 x) ∧ W'.cell? ⟨gx, 1, none⟩ = some (.int .u64 y) ∧ W'.cell? ⟨gx, 2, none⟩ = some (.int .i64 z) ∧ W'.cell? ⟨gy, 0, none⟩ = some (.int .u64 x) ∧ W'.cell? ⟨gy, 1, none⟩ = some (.int .u64 y) ∧ W'.cell? ⟨gy, 2, none⟩ = some (.int .i64 z))) := ⟨fun W W' ⟨h, k0, k1, k2, k3, k4, k5, k6, k7, k8, k9, k10, k11⟩ hb => ⟨below_then h h.size hb, (hb.cell (cell_of_lt k0)).trans k0, (hb.cell (cell_of_lt k1)).trans k1, (hb.cell (cell_of_lt k2)).trans k2, (hb.cell (cell_of_lt k3)).trans k3, (hb.cell (cell_of_lt k4)).trans k4, (hb.cell (cell_of_lt k5)).trans k5, (hb.cell (cell_of_lt k6)).trans k6, (hb.cell (cell_of_lt k7)).trans k7, (hb.cell (cell_of_lt k8)).trans k8, (hb.cell (cell_of_lt k9)).trans k9, (hb.cell (cell_of_lt k10)).trans k10, (hb.cell (cell_of_lt k11)).trans k11⟩⟩
      have hP9 := hP.out.stays B9.out
      have hT9 := hT.out.stays B9.out
      have BE : Aside0 (∀ W, Below W9.heap.size W9 W → Below w.heap.size w W) := ⟨fun W h => below_then B9.out B9.out.size h⟩
      clear hW9 hg9 hl9 hb9 hp9 hq9 hx9 hy9 lp1 lq1 lp2 lq2 lp3 lq3 hl4 lp4 lq4 lp5 lq5 lx5 lp6 lq6 lx6 hl7 lp7 lq7 lx7 lp8 lq8 lx8 ly8
      clear HP1 HQ1 HP2 HQ2 HP3 HQ3 HP4 HQ4 HX4 HP5 HQ5 HX5 HP6 HQ6 HX6 HP7 HQ7 HX7 HY7 HP8 HQ8 HX8 HY8 B1 B2 B3 B4 B5 B6 B7 B8 B9 MK OF RO O0
      go_wp2_with fail
      rw [← HW9.out]
      go_region_held3 (fun W => (Below W9.heap.size W9 W ∧ W.cell? ⟨gp, 0, none⟩ = some (.int .u64 ph) ∧ W.cell? ⟨gp, 1, none⟩ = some (.int .u64 pl) ∧ W.cell? ⟨gp, 2, none⟩ = some (.int .i64 pn) ∧ W.cell? ⟨gq, 0, none⟩ = some (.int .u64 qh) ∧ W.cell? ⟨gq, 1, none⟩ = some (.int .u64 ql) ∧ W.cell? ⟨gq, 2, none⟩ = some (.int .i64 qn) ∧ W.cell? ⟨gx, 0, none⟩ = some (.int .u64 x) ∧ W.cell? ⟨gx, 1, none⟩ = some (.int .u64 y) ∧ W.cell? ⟨gx, 2, none⟩ = some (.int .i64 z) ∧ W.cell? ⟨gy, 0, none⟩ = some (.int .u64 x) ∧ W.cell? ⟨gy, 1, none⟩ = some (.int .u64 y) ∧ W.cell? ⟨gy, 2, none⟩ = some (.int .i64 z))) (first | exact KS0.out | exact KS.out _ _ (by assumption) (by assumption))
        (first
          | (go_at_call_of 21 Value.nilIface; refine (HS0.out _).mono ?_; rintro e w' ⟨rfl, hb⟩)
          | (go_at_call 22; refine (RI.out _).mono ?_; rintro e w' ⟨rfl, hb⟩)
          | (go_at_call 28; refine (RRI.out _).mono ?_; rintro e w' ⟨rfl, hb⟩)
          | (go_at_call 21; refine (HS.out _).mono ?_; rintro e w' ⟨rfl, hb⟩)
          | (go_at_call 26; refine (OX.out _).mono ?_; rintro e w' ⟨rfl, hb⟩)
          | (go_at_call 29; refine (RH.out _).mono ?_; rintro e w' ⟨rfl, hb⟩)
          | (go_at_call 19; refine (CV.out _).mono ?_; rintro e w' ⟨rfl, hb⟩)
          | (go_at_call 30; refine (RCV.out _).mono ?_; rintro e w' ⟨rfl, hb⟩)
          | (go_at_call 23; refine (TX.out _ ⟨hP9.stays (And.left (by assumption))⟩ ⟨hT9.stays (And.left (by assumption))⟩).mono ?_; rintro e w' ⟨rfl, hb⟩)
          | (go_at_call 31; refine (RTX.out _ ⟨hP9.stays (And.left (by assumption))⟩).mono ?_; rintro e w' ⟨rfl, hb⟩)
          | (go_at_call 20; refine (BT.out _).mono ?_; rintro e w' ⟨rfl, hb⟩))
      all_goals
        go_wp2_with fail
        go_ret
        exact ⟨ret_bool (by simp), BE.out _ (And.left (by assumption))⟩
theorem PrefixTells_row (ph pl pn qh ql qn : Int) (is : Bool) (hi lo n : Int) (w : World) (p0 : (Lit.int .u64 ph).wf = true) (p1 : (Lit.int .u64 pl).wf = true) (p2 : (Lit.int .i64 pn).wf = true) (q0 : (Lit.int .u64 qh).wf = true) (q1 : (Lit.int .u64 ql).wf = true) (_q2 : (Lit.int .i64 qn).wf = true) (w0 : (Lit.int .u64 hi).wf = true) (w1 : (Lit.int .u64 lo).wf = true) (_w2 : (Lit.int .i64 n).wf = true)
    (hP : Aside0 (Pows w)) (hT : Aside0 (Debr w)) (hE : Aside0 (Errs w)) (hM : Aside0 (Mx w)) :
    Calls Tryz.prog 6 #[.agg #[.int .u64 ph, .int .u64 pl, .int .i64 pn], .agg #[.int .u64 qh, .int .u64 ql, .int .i64 qn], .bool is, .int .u64 hi, .int .u64 lo, .int .i64 n] w fun e w' => e = .returned (.bool true) ∧ Below w.heap.size w w' := by
  have a0 := wf_u64 p0
  have a1 := wf_u64 p1
  have a2 := wf_i64 p2
  have b0 := wf_u64 q0
  have b1 := wf_u64 q1
  have c0 := wf_u64 w0
  have c1 := wf_u64 w1
  exact PrefixTells_law ph pl pn qh ql qn is hi lo n (by omega) (by omega) (by omega) (by omega) (by omega) (by omega) (by omega) w hP hT hE hM
end Go.Proofs.YtplehdcnnaamkaaGreatDoor

/- A prefix, handed in by value: opened and shut. -/
namespace Go.Proofs.YtplehdcnnaamkaaGreatDoor
open Go.ChangeShapes Go.Joins Go.Deep

section
variable {H : Type} {enc : TypeId × Value → H} {P : Program} {w : World} {base : Nat} {spare : Nat → Bool} {held : Bool}
theorem open_pfx {r : Reach} {b0 : Nat} {t e0 e2 : TypeId} {n0 n1 n2 t0 t1 t2 p0 p1 p2 : String} {m0 m1 m2 : Bool} {k0 k1 k2 : Nat} {v : Value} {d : DataW H} {ps : List MemPlace}
    (ht : P.underlying t = some (.struct #[⟨n0, e0, 0, m0, t0, p0, k0⟩, ⟨n1, e0, 1, m1, t1, p1, k1⟩, ⟨n2, e2, 2, m2, t2, p2, k2⟩])) (hone : oneCellFields P #[⟨n0, e0, 0, m0, t0, p0, k0⟩, ⟨n1, e0, 1, m1, t1, p1, k1⟩, ⟨n2, e2, 2, m2, t2, p2, k2⟩] = true) (hC : P.cellsOf t = 3) (h0 : P.underlying e0 = some (.int .u64)) (h2 : P.underlying e2 = some (.int .i64))
    (hval : Value.okWide P w r b0 t v) (hd : DataW.Trod enc P w base spare held t v d ps) :
    ∃ x0 x1 x2, v = .agg #[.int .u64 x0, .int .u64 x1, .int .i64 x2] ∧ d = .agg [.lit (.int .u64 x0), .lit (.int .u64 x1), .lit (.int .i64 x2)] ∧ ps = [] ∧ (Lit.int .u64 x0).wf = true ∧ (Lit.int .u64 x1).wf = true ∧ (Lit.int .i64 x2).wf = true := by
  obtain ⟨c0, c1, c2, y0, y1, y2, m, rfl, rfl, rfl, hy0, hy1, hy2⟩ := open_agg3 ht hone hC hval hd
  obtain ⟨x0, q0, rfl, w0⟩ := DataW.trod_int h0 hy0
  obtain ⟨x1, q1, rfl, w1⟩ := DataW.trod_int h0 hy1
  obtain ⟨x2, q2, rfl, w2⟩ := DataW.trod_int h2 hy2
  simp at q0 q1 q2
  subst q0 q1 q2
  exact ⟨x0, x1, x2, rfl, rfl, rfl, w0, w1, w2⟩
theorem shut_pfx {t e0 e2 : TypeId} {n0 n1 n2 t0 t1 t2 p0 p1 p2 : String} {m0 m1 m2 : Bool} {k0 k1 k2 : Nat} {x0 x1 x2 : Int}
    (ht : P.underlying t = some (.struct #[⟨n0, e0, 0, m0, t0, p0, k0⟩, ⟨n1, e0, 1, m1, t1, p1, k1⟩, ⟨n2, e2, 2, m2, t2, p2, k2⟩])) (hC : P.cellsOf t = 3) (c0 : P.cellsOf e0 = 1) (c2 : P.cellsOf e2 = 1) (h0 : P.underlying e0 = some (.int .u64)) (h2 : P.underlying e2 = some (.int .i64))
    (w0 : (Lit.int .u64 x0).wf = true) (w1 : (Lit.int .u64 x1).wf = true) (w2 : (Lit.int .i64 x2).wf = true) :
    DataW.Trod enc P w base spare held t (.agg #[.int .u64 x0, .int .u64 x1, .int .i64 x2]) (.agg [.lit (.int .u64 x0), .lit (.int .u64 x1), .lit (.int .i64 x2)]) [] := by
  have := Go.Deep.trod_struct3_mk (enc := enc) (w := w) (base := base) (spare := spare) (held := held) (n := 1) (cs := [.int .u64 x0, .int .u64 x1, .int .i64 x2]) (y0 := (.lit (.int .u64 x0), [])) (y1 := (.lit (.int .u64 x1), [])) (y2 := (.lit (.int .i64 x2), [])) ht (by rw [hC]; rfl)
    (by rw [show P.cellsOf e0 = 1 from c0]; exact trod_int_mk 0 h0 w0) (by rw [show P.cellsOf e0 = 1 from c0]; exact trod_int_mk 0 h0 w1) (by rw [show P.cellsOf e2 = 1 from c2]; exact trod_int_mk 0 h2 w2)
  exact ⟨2, by simpa [Value.cells] using this⟩
end
end Go.Proofs.YtplehdcnnaamkaaGreatDoor

/- A row that lists variables, its world's shape kept; a slice of numbers that came in: opened. -/
namespace Go.Proofs.YtplehdcnnaamkaaGreatDoor
open Go.ChangeShapes Go.WideShapes Go.RowKit

theorem returns_and_shaped {H : Type} {enc : TypeId × Value → H} {a : Assume} {C : Checked} {os : Os} {f : FuncId} {fn : Func} {s : ChangeSpec} {conds : List PathCond} {apart fresh handsOn again : Bool} {X : World → Array Value → Prop}
    (hX : ∀ (w w' : World) (args : Array Value), w.heap = w'.heap → X w args → X w' args)
    (own : ownKnob C.prog.godebug = none) (started : os.Started) (noInit : C.prog.inits.idxOf? f = none) (hfn : C.prog.funcs[f]? = some fn)
    (witness : ∃ (w : World) (tape : Tape) (i : Input), w.os = os ∧ (w.forCall tape i).Shaped C.prog ∧ i.vars = [] ∧ Input.okWide C.prog (w.forCall tape i) .any w.heap.size f i ∧
      ((s.pre enc C.prog fn conds apart (w.forCall tape i).memory i.args ∧ X (w.forCall tape i).memory i.args) ∧ sizedMet enc C.prog fn (OpenSpec.ofChange s) apart (w.forCall tape i).memory i.args) ∧ a.holds C.prog (lone (Frame.enter C.prog f i.args .normal) [] (w.forCall tape i)))
    (contract : ∀ (W : World) (base : Nat) (args : Array Value) (ds gs : List (DataW H)) (before : List MemPlace),
      (∀ (j : Nat) t v, fn.params[j]? = some t → args[j]? = some v → Value.okWide C.prog W .any base t v) →
      DataW.Whole enc C.prog fn.params.toList s.vars apart W args.toList ds gs before →
      conds.all (PathCond.test C.prog ⟨fn.params.toList, ds, s.plain.varTypes C.prog, gs⟩) = true →
      (DataW.weightsEach C.prog (fn.params.toList ++ s.plain.varTypes C.prog) (ds ++ gs)).all (· ≤ reachBytes) = true → X W args → W.ShapedOpen C.prog →
      a.holds C.prog (lone (Frame.enter C.prog f args .normal) [] W) →
      Calls C.prog f args W fun e W' => ∃ v, e = .returned v ∧ s.post enc C.prog fn apart fresh handsOn again W args v W') :
    ReturnsInHanded a C os f .any (fun w args => (s.pre enc C.prog fn conds apart w args ∧ X w args) ∧ sizedMet enc C.prog fn (OpenSpec.ofChange s) apart w args) (s.post enc C.prog fn apart fresh handsOn again) := by
  refine returnsInHanded_of_calls own started noInit witness ?_
  intro w tape i _ hsh _ hok hpre hholds
  obtain ⟨_, _, _, fn', hfn', _, _, _, _, hval⟩ := hok
  obtain rfl : fn' = fn := Option.some.inj (hfn'.symm.trans hfn)
  obtain ⟨⟨⟨ds, gs, before, hw, hc⟩, hx⟩, hz⟩ := hpre
  have hw' := DataW.Whole.of_heap (w' := w.forCall tape i) (by rfl) hw
  refine (contract (w.forCall tape i) w.heap.size i.args ds gs before hval hw' hc (hz.weights hw) (hX _ _ _ (by rfl) hx) hsh hholds).mono fun e W' ⟨v, he, hp⟩ => ?_
  subst he
  exact ChangeSpec.post_blind hp
theorem mx_of {W : World} (h : W.ShapedOpen Tryz.prog) : Mx W :=
  Go.Proofs.cell_of_shapedOpen_int (zero := #[.int .i64 0]) (t := 3) h (of_decide_eq_true (by kernel_rfl)) (by kernel_rfl) rfl (by kernel_rfl) (by kernel_rfl) Tryz.underlying3

end Go.Proofs.YtplehdcnnaamkaaGreatDoor

