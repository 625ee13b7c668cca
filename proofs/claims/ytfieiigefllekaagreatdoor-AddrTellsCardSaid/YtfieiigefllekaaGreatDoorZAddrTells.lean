/- The law AddrTells, walked. -/
import Derived.Test.YtfieiigefllekaaGreatDoorZAw6
import Derived.Test.YtfieiigefllekaaGreatDoorZAddrOrder
import Derived.Test.YtfieiigefllekaaGreatDoorZAddrEmbeds
import Derived.Test.YtfieiigefllekaaGreatDoorZAdT6
import Derived.Test.YtfieiigefllekaaGreatDoorZAdE2
namespace Go.Proofs.YtfieiigefllekaaGreatDoor
open Go.RowKit Go.Proofs.YtfieiigefllekaaGreatDoorW.PrintWords Go.Proofs.YtfieiigefllekaaGreatDoorW.PrintMore

set_option maxRecDepth 100000 in
theorem nq_6 (hi lo : Int) (w : World) : (binOp .neq 44 (.iface 25 (.agg #[.int .u64 hi, .int .u64 lo])) (.iface 25 (.agg #[.int .u64 hi, .int .u64 lo]))).run Tryz.prog w = .ok (.bool false) w := by
  have hc : (Tryz.prog.info? 25).map (·.comparable) = some true := by kernel_rfl
  cases hi6 : Tryz.prog.info? 25 with
  | none => simp [hi6] at hc
  | some i =>
    have hcc : i.comparable = true := by simpa [hi6] using hc
    have h : ∀ d : Nat, (Op.equalIn (d + 3) 44 (.iface 25 (.agg #[.int .u64 hi, .int .u64 lo])) (.iface 25 (.agg #[.int .u64 hi, .int .u64 lo]))).run Tryz.prog w = .ok true w := fun d => by
      rw [eqIface w Tryz.underlying44 hi6 hcc, eq_six]
      simp
    simp only [binOp]
    simp [Op.equal, Op.maxDepth, h 9997]
set_option maxRecDepth 100000 in
theorem nq_4 (n : Int) (w : World) : (binOp .neq 44 (.iface 57 (.int .u32 n)) (.iface 57 (.int .u32 n))).run Tryz.prog w = .ok (.bool false) w := by
  have hc : (Tryz.prog.info? 57).map (·.comparable) = some true := by kernel_rfl
  cases hi4 : Tryz.prog.info? 57 with
  | none => simp [hi4] at hc
  | some i =>
    have hcc : i.comparable = true := by simpa [hi4] using hc
    have h : ∀ d : Nat, (Op.equalIn (d + 2) 44 (.iface 57 (.int .u32 n)) (.iface 57 (.int .u32 n))).run Tryz.prog w = .ok true w := fun d => by
      rw [eqIface w Tryz.underlying44 hi4 hcc, run_equalIn_int w d 57 .u32 .u32 n n Tryz.underlying57]
      simp
    simp only [binOp]
    simp [Op.equal, Op.maxDepth, h 9998]
theorem ng_6 (hi lo : Int) (o1 o2 : Operand) (w : World) : (eqGuard .neq 44 o1 o2 (.iface 25 (.agg #[.int .u64 hi, .int .u64 lo])) (.iface 25 (.agg #[.int .u64 hi, .int .u64 lo]))).run Tryz.prog w = .ok () w := by kernel_rfl
theorem ng_4 (n : Int) (o1 o2 : Operand) (w : World) : (eqGuard .neq 44 o1 o2 (.iface 57 (.int .u32 n)) (.iface 57 (.int .u32 n))).run Tryz.prog w = .ok () w := by kernel_rfl
def inA : Bool × Int × Int → List Int
  | (true, hi, lo) => inL4 hi lo
  | (false, _, _) => []
theorem inA_len (a : Bool × Int × Int) : (inA a).length ≤ 5 := by
  obtain ⟨sx, hi, lo⟩ := a
  cases sx
  · exact Nat.zero_le _
  · exact inL4_len hi lo
theorem InnerA (a : Bool × Int × Int) (ha : adOk a) (w : World) : Calls Tryz.prog 28 #[adV a] w fun e w' => ∃ v, e = .returned v ∧ Kd.R (Kd.int .u32) 57 w' w.heap.size (fun _ => True) v (inA a) ∧ Below w.heap.size w w' := by
  obtain ⟨sx, hi, lo⟩ := a
  cases sx
  · exact (Inner4_calls lo w).mono fun e w' h => ⟨_, h.1, Kd.R_nil _ _ _ _ _, h.2⟩
  · exact Inner6_calls hi lo ha.1 ha.2 w
theorem refInnerA (a : Bool × Int × Int) (ha : adOk a) (w : World) : Calls Tryz.prog 44 #[refV (some a)] w fun e w' => ∃ v, e = .returned v ∧ Kd.R (Kd.int .u32) 52 w' w.heap.size (fun _ => True) v (inA a) ∧ Below w.heap.size w w' := by
  obtain ⟨sx, hi, lo⟩ := a
  cases sx
  · exact (refInner4_calls _ _ w).mono fun e w' h => ⟨_, h.1, Kd.R_nil _ _ _ _ _, h.2⟩
  · exact refInner6_calls hi lo ha.1 ha.2 w
theorem refCompareA (a b : Bool × Int × Int) (w : World) : Calls Tryz.prog 42 #[refV (some a), refV (some b)] w fun e w' => e = .returned (.int .i64 (cmpA a b)) ∧ Below w.heap.size w w' := by
  have h := refCompare_calls a.1 (adHi a) (adLo a) b.1 (adHi b) (adLo b) w
  rwa [refCmp_is] at h

set_option maxHeartbeats 8000000 in
set_option maxRecDepth 100000 in
theorem AddrTells_law (p q : Bool) (a b c d : Int) (ha : 0 ≤ a ∧ a < 18446744073709551616) (hb : 0 ≤ b ∧ b < 18446744073709551616) (hc : 0 ≤ c ∧ c < 18446744073709551616) (hd : 0 ≤ d ∧ d < 18446744073709551616) (w : World) (hP : Aside0 (Pows w)) (hT : Aside0 (Debr w)) (hE : Aside0 (Errs w)) (hM : Aside0 (Mx w)) :
    Calls Tryz.prog 12 #[.bool p, .bool q, .int .u64 a, .int .u64 b, .int .u64 c, .int .u64 d] w fun e w' => e = .returned (.bool true) ∧ Below w.heap.size w w' := by
  have MX := Aside0.mk (Make_calls p a b ha hb)
  have MY := Aside0.mk (Make_calls q c d hc hd)
  have oky := mkAd_ok q c d hc hd
  have okx := mkAd_ok p a b ha hb
  rw [show (q, if q = true then c else 0, if q = true then d else d % 4294967296) = mkAd q c d from rfl] at MY
  rw [show (p, if p = true then a else 0, if p = true then b else b % 4294967296) = mkAd p a b from rfl] at MX
  generalize mkAd q c d = Y at MY oky
  have IX := Aside0.mk (InnerA (mkAd p a b) okx)
  have RX := Aside0.mk (refInnerA (mkAd p a b) okx)
  have OX := Aside0.mk (AdOf_calls (some (mkAd p a b)) (fun z hz => by rw [← Option.some.inj hz]; exact okx))
  have OY := Aside0.mk (AdOf_calls (some Y) (fun z hz => by rw [← Option.some.inj hz]; exact oky))
  have CP := Aside0.mk (Compare_calls (mkAd p a b) Y okx oky)
  have RC := Aside0.mk (refCompareA (mkAd p a b) Y)
  have BK := Aside0.mk (ad_back (mkAd p a b) okx)
  have SZ := adT_size (mkAd p a b) okx
  have LEN := inA_len (mkAd p a b)
  have TXS := Aside0.mk (Texts_calls (mkAd p a b) Y okx oky)
  have RTX := Aside0.mk (refText_calls (mkAd p a b) okx)
  have RTY := Aside0.mk (refText_calls Y oky)
  generalize hL : inA (mkAd p a b) = L at IX RX LEN
  generalize hk : cmpA (mkAd p a b) Y = k at CP RC
  clear hL hk
  have OKX := Aside0.mk okx
  clear okx
  simp only [adVo] at OX OY
  obtain ⟨Ty, Vy, hy⟩ : ∃ T V, adV Y = .iface T V := by
    obtain ⟨sy, hi', lo'⟩ := Y
    cases sy <;> exact ⟨_, _, rfl⟩
  rw [hy] at MY OY CP TXS
  clear hy
  simp only [tx3] at TXS
  cases p
  · have TM : Aside0 (∀ W : World, Aside0 (Pows W) → Aside0 (Debr W) → Calls Tryz.prog 84 #[.int .u32 (b % 4294967296)] W fun e w' => e = .returned (.string (adT (false, 0, b % 4294967296))) ∧ Below W.heap.size W w') := ⟨fun W hP hT => TextM4 (b % 4294967296) (by omega) (by omega) W hP⟩
    simp only [mkAd, Bool.false_eq_true, if_false] at MX IX RX OX CP RC BK SZ TXS RTX
    simp only [adV] at MX IX OX CP TXS
    generalize adT (false, 0, b % 4294967296) = tx at TM BK SZ TXS RTX
    generalize adT Y = ty at TXS RTY
    generalize refV (some (false, 0, b % 4294967296)) = rx at OX RX RC RTX
    generalize refV (some Y) = ry at OY RC RTY
    have q1 := nq_4
    have q2 := ng_4
    have q3 := mt_4
    go_enter Tryz.func12, Tryz.ntmps12
    go_wp2_with fail
    refine (awake6_calls _ hE hM hP hT).mono ?_
    rintro e w2 ⟨rfl, b0⟩
    have B2 := Aside0.mk b0
    clear b0
    go_wp2_with fail
    refine (MX.out _).mono ?_
    rintro e w3 ⟨rfl, rfl⟩
    go_wp2_with fail
    refine (MY.out _).mono ?_
    rintro e w4 ⟨rfl, rfl⟩
    go_wp2_with fail
    refine (IX.out _).mono ?_
    rintro e w1 ⟨v, rfl, hR, b0⟩
    have B1 := Aside0.mk (below_then B2.out B2.out.size b0)
    obtain ⟨A, cv, rfl, hcap, hCC⟩ := Kd.R_reads hR
    have HCell : Aside0 (∀ j, j < L.length → ∃ ad, A = some ad ∧ w1.cell? (ad.add j) = some (.int .u32 (L.getD j 0))) := ⟨fun j hj => C_kget hCC j hj⟩
    obtain ⟨nl, hnl⟩ : ∃ nl, nl = L.length := ⟨_, rfl⟩
    rw [← hnl] at LEN ⊢
    have HNL := Lib.hid hnl
    clear hR hCC b0 hcap hnl
    go_wp2_with fail
    go_loopw [15, 35] (fun s i wr => ∃ j : Nat, i = .int .i64 j ∧ j ≤ nl ∧ Aside0 (Kd.R (Kd.int .u32) 52 wr w1.heap.size (fun _ => True) s (L.take j)) ∧ Aside0 (Below w1.heap.size w1 wr)) (fun _ i _ => nl - (intOf i).toNat)
    case atStart => exact ⟨0, rfl, by omega, ⟨Kd.R_nil _ _ _ _ _⟩, ⟨Below.refl _ _⟩⟩
    case round =>
      obtain ⟨j, rfl, hj, HO, HB⟩ := hrel
      have hsz : w1.heap.size ≤ wr.heap.size := HB.out.size
      by_cases hlt : j < nl
      · have hjl : j < L.length := by rw [← HNL.out]; exact hlt
        obtain ⟨ad, rfl, cx0⟩ := HCell.out j hjl
        have cx := (HB.out.cell (cell_blk cx0)).trans cx0
        have ht : L.take (j + 1) = L.take j ++ [L.getD j 0] := by
          rw [List.take_succ_eq_append_getElem hjl, List.getD_eq_getElem?_getD, List.getElem?_eq_getElem hjl]
          rfl
        have HTk := Aside0.mk ht
        have hll : (L.take j).length ≤ 5 := by rw [List.length_take]; omega
        clear cx0 ht hjl
        generalize L.getD j 0 = z at cx HTk
        go_wp2_with ((with_reducible refine gate_builtin (b := .append) (xs := #[.tmp 39, .tmp 41]) rfl ?_); at_builtin; refine Kd.R_append (Kd.int .u32) (w0 := w1) w1.heap.size rfl (.tmp 39) (.tmp 41) 78 52 (.int .u32 0) 4 rfl Tryz.underlying78 info_u32 rfl (by decide) (by omega) u15 (L.take j) z [.int .u32 z] (fun _ => True) (fun _ => False) rfl rfl ?aP (fun _ hk => hk.elim) ?aF ?aO ?aB ?aS ?aL ?_; (case aP => exact rfl); (case aF => exact fun _ _ => trivial); (case aO => exact HO.out); (case aB => exact HB.out); (case aS => omega); (case aL => omega); intro v1 w4 ho hb hg _)
        exact ⟨⟨j + 1, by go_num, by omega, ⟨by rw [HTk.out]; exact ho⟩, ⟨hb⟩⟩, by simp [intOf]; omega⟩
      · have hLt : L.take j = L := List.take_of_length_le (by rw [← HNL.out]; omega)
        have B3 := Aside0.mk (below_then B1.out B1.out.size HB.out)
        have F3 := Aside0.mk (Below.refl wr.heap.size wr)
        have hO2 := HO.out
        rw [hLt] at hO2
        obtain ⟨A2, c2, rfl, hcap2, hC2⟩ := Kd.R_reads hO2
        have HC2 : Aside0 (∀ j, j < L.length → ∃ ad, A2 = some ad ∧ wr.cell? (ad.add j) = some (.int .u32 (L.getD j 0))) := ⟨fun j hj => C_kget hC2 j hj⟩
        rw [← HNL.out] at hcap2 ⊢
        clear hO2 hC2 hLt hcap2 HO
        go_wp2_with fail
        refine (TM.out _ ⟨hP.out.stays B3.out⟩ ⟨hT.out.stays B3.out⟩).mono ?_
        rintro e w5 ⟨rfl, b0⟩
        have B5 := Aside0.mk (below_then B3.out B3.out.size b0)
        have F5 := Aside0.mk (below_then F3.out F3.out.size b0)
        clear b0
        go_wp2_with fail
        refine (AdParse_calls tx _ (by omega) ⟨hE.out.stays B5.out⟩ ⟨hM.out.stays B5.out⟩).mono ?_
        rw [BK.out]
        simp only [adVo, adV, Option.isSome]
        rintro e w6 ⟨rfl, b0⟩
        have B6 := Aside0.mk (below_then B5.out B5.out.size b0)
        have F6 := Aside0.mk (below_then F5.out F5.out.size b0)
        clear b0
        go_wp2_with fail
        refine (FourA4 (b % 4294967296) _).mono ?_
        rintro e w7 ⟨rfl, rfl⟩
        go_wp2_with fail
        refine (CP.out _).mono ?_
        rintro e w8 ⟨rfl, b0⟩
        have B8 := Aside0.mk (below_then B6.out B6.out.size b0)
        have F8 := Aside0.mk (below_then F6.out F6.out.size b0)
        clear b0
        go_wp2_with fail
        refine (OX.out _).mono ?_
        rintro e w9 ⟨rfl, b0⟩
        have B9 := Aside0.mk (below_then B8.out B8.out.size b0)
        have F9 := Aside0.mk (below_then F8.out F8.out.size b0)
        clear b0
        go_wp2_with fail
        refine (OY.out _).mono ?_
        rintro e w10 ⟨rfl, b0⟩
        have B10 := Aside0.mk (below_then B9.out B9.out.size b0)
        have F10 := Aside0.mk (below_then F9.out F9.out.size b0)
        clear b0
        go_wp2_with fail
        refine (RC.out _).mono ?_
        rintro e w11 ⟨rfl, b0⟩
        have B11 := Aside0.mk (below_then B10.out B10.out.size b0)
        have F11 := Aside0.mk (below_then F10.out F10.out.size b0)
        clear b0
        go_wp2_with fail
        refine (OX.out _).mono ?_
        rintro e w12 ⟨rfl, b0⟩
        have B12 := Aside0.mk (below_then B11.out B11.out.size b0)
        have F12 := Aside0.mk (below_then F11.out F11.out.size b0)
        clear b0
        go_wp2_with fail
        refine (RX.out _).mono ?_
        rintro e w13 ⟨v2, rfl, hR2, b0⟩
        have B13 := Aside0.mk (below_then B12.out B12.out.size b0)
        have F13 := Aside0.mk (below_then F12.out F12.out.size b0)
        obtain ⟨A3, c3, rfl, hcap3, hC3⟩ := Kd.R_reads hR2
        have HC3 : Aside0 (∀ j, j < L.length → ∃ ad, A3 = some ad ∧ w13.cell? (ad.add j) = some (.int .u32 (L.getD j 0))) := ⟨fun j hj => C_kget hC3 j hj⟩
        rw [← HNL.out] at hcap3 ⊢
        clear b0 hR2 hC3 hcap3
        go_wp2_with fail
        refine (EqualU_calls L L nl nl HNL.out HNL.out A2 A3 c2 c3 _ (by omega) (fun j hj => by
          obtain ⟨ad, e, h⟩ := HC2.out j hj
          exact ⟨ad, e, (F13.out.cell (cell_blk h)).trans h⟩) HC3.out).mono ?_
        rw [decide_eq_true rfl]
        rintro e w14 ⟨rfl, b0⟩
        have B14 := Aside0.mk (below_then B13.out B13.out.size b0)
        have F14 := F13
        clear b0
        go_wp2_with fail
        refine (panics4 (b % 4294967296) _).mono ?_
        rintro e w15 ⟨rfl, b0⟩
        have B15 := Aside0.mk (below_then B14.out B14.out.size b0)
        clear b0
        go_wp2_with fail
        obtain ⟨W3, hW3⟩ : ∃ W3, W3 = w15.alloc (.cells #[.iface 57 (.int .u32 (b % 4294967296)), .nilIface, .iface Ty Vy] 44) := ⟨_, rfl⟩
        rw [← hW3]
        have BW3 : Aside0 (Below w.heap.size w W3) := ⟨by rw [hW3]; exact B15.out.alloc B15.out.size _⟩
        refine (TXS.out w15.heap.size W3 ⟨hP.out.stays BW3.out⟩ ⟨hT.out.stays BW3.out⟩ (by rw [hW3]; simp) (by rw [hW3, World.cell?_alloc_new] <;> rfl) (by rw [hW3, World.cell?_alloc_new] <;> rfl) (by rw [hW3, World.cell?_alloc_new] <;> rfl)).mono ?_
        rintro e w17 ⟨v3, rfl, hR3, b0⟩
        have B17 := Aside0.mk (below_then BW3.out BW3.out.size b0)
        have F17 := Aside0.mk (Below.refl w17.heap.size w17)
        obtain ⟨A4, c4, rfl, hcap4, hC4⟩ := Kd.R_reads hR3
        obtain ⟨ad4, rfl⟩ := C_some hC4 (show 0 < 3 by omega)
        have HC4 : Aside0 (∀ j, j < 3 → w17.cell? (ad4.add j) = some (.string (([tx, ⟨#[]⟩, ty] : List ByteArray).getD j ⟨#[]⟩))) := ⟨fun j hj => by
          rw [C_str_at hC4 j hj, List.getD_eq_getElem?_getD, List.getElem?_eq_getElem (show j < ([tx, ⟨#[]⟩, ty] : List ByteArray).length from hj)]
          rfl⟩
        simp only [List.length_cons, List.length_nil, Nat.zero_add, Nat.reduceAdd] at hcap4 ⊢
        clear b0 hR3 hC4 hW3 hcap4
        go_wp2_with fail
        refine (OX.out _).mono ?_
        rintro e w18 ⟨rfl, b0⟩
        have B18 := Aside0.mk (below_then B17.out B17.out.size b0)
        have F18 := Aside0.mk (below_then F17.out F17.out.size b0)
        clear b0
        go_wp2_with fail
        refine (RTX.out _ ⟨hP.out.stays B18.out⟩).mono ?_
        rintro e w19 ⟨rfl, b0⟩
        have B19 := Aside0.mk (below_then B18.out B18.out.size b0)
        have F19 := Aside0.mk (below_then F18.out F18.out.size b0)
        clear b0
        go_wp2_with fail
        refine (OY.out _).mono ?_
        rintro e w20 ⟨rfl, b0⟩
        have B20 := Aside0.mk (below_then B19.out B19.out.size b0)
        have F20 := Aside0.mk (below_then F19.out F19.out.size b0)
        clear b0
        go_wp2_with fail
        refine (RTY.out _ ⟨hP.out.stays B20.out⟩).mono ?_
        rintro e w21 ⟨rfl, b0⟩
        have B21 := Aside0.mk (below_then B20.out B20.out.size b0)
        have F21 := Aside0.mk (below_then F20.out F20.out.size b0)
        clear b0
        go_wp2_with fail
        refine (EqualS_calls (fun j => ([tx, ⟨#[]⟩, ty] : List ByteArray).getD j ⟨#[]⟩) 3 ad4 ⟨w21.heap.size, 0, none⟩ c4 3 _ (by omega) (fun j hj => ((F21.out.alloc F21.out.size _).cell (cell_blk (HC4.out j hj))).trans (HC4.out j hj)) (fun j hj => by
          rw [add_at, World.cell?_alloc_new]
          have hj3 : j = 0 ∨ j = 1 ∨ j = 2 := by omega
          rcases hj3 with rfl | rfl | rfl <;> rfl)).mono ?_
        rintro e w22 ⟨rfl, b0⟩
        have B22 : Aside0 (Below w.heap.size w w22) := ⟨below_then (B21.out.alloc B21.out.size _) (by have := B21.out.size; simp; omega) b0⟩
        clear b0
        go_wp2_with fail
        go_ret
        exact ⟨rfl, B22.out⟩
  · have TM : Aside0 (∀ W : World, Aside0 (Pows W) → Aside0 (Debr W) → Calls Tryz.prog 19 #[.agg #[.int .u64 a, .int .u64 b]] W fun e w' => e = .returned (.string (adT (true, a, b))) ∧ Below W.heap.size W w') := ⟨fun W hP hT => Text6_calls a b ha hb W hP hT⟩
    simp only [mkAd, if_true] at MX IX RX OX CP RC BK SZ TXS RTX
    simp only [adV] at MX IX OX CP TXS
    generalize adT (true, a, b) = tx at TM BK SZ TXS RTX
    generalize adT Y = ty at TXS RTY
    generalize refV (some (true, a, b)) = rx at OX RX RC RTX
    generalize refV (some Y) = ry at OY RC RTY
    have q1 := nq_6
    have q2 := ng_6
    have q3 := mt_6
    go_enter Tryz.func12, Tryz.ntmps12
    go_wp2_with fail
    refine (awake6_calls _ hE hM hP hT).mono ?_
    rintro e w2 ⟨rfl, b0⟩
    have B2 := Aside0.mk b0
    clear b0
    go_wp2_with fail
    refine (MX.out _).mono ?_
    rintro e w3 ⟨rfl, rfl⟩
    go_wp2_with fail
    refine (MY.out _).mono ?_
    rintro e w4 ⟨rfl, rfl⟩
    go_wp2_with fail
    refine (IX.out _).mono ?_
    rintro e w1 ⟨v, rfl, hR, b0⟩
    have B1 := Aside0.mk (below_then B2.out B2.out.size b0)
    obtain ⟨A, cv, rfl, hcap, hCC⟩ := Kd.R_reads hR
    have HCell : Aside0 (∀ j, j < L.length → ∃ ad, A = some ad ∧ w1.cell? (ad.add j) = some (.int .u32 (L.getD j 0))) := ⟨fun j hj => C_kget hCC j hj⟩
    obtain ⟨nl, hnl⟩ : ∃ nl, nl = L.length := ⟨_, rfl⟩
    rw [← hnl] at LEN ⊢
    have HNL := Lib.hid hnl
    clear hR hCC b0 hcap hnl
    go_wp2_with fail
    go_loopw [15, 35] (fun s i wr => ∃ j : Nat, i = .int .i64 j ∧ j ≤ nl ∧ Aside0 (Kd.R (Kd.int .u32) 52 wr w1.heap.size (fun _ => True) s (L.take j)) ∧ Aside0 (Below w1.heap.size w1 wr)) (fun _ i _ => nl - (intOf i).toNat)
    case atStart => exact ⟨0, rfl, by omega, ⟨Kd.R_nil _ _ _ _ _⟩, ⟨Below.refl _ _⟩⟩
    case round =>
      obtain ⟨j, rfl, hj, HO, HB⟩ := hrel
      have hsz : w1.heap.size ≤ wr.heap.size := HB.out.size
      by_cases hlt : j < nl
      · have hjl : j < L.length := by rw [← HNL.out]; exact hlt
        obtain ⟨ad, rfl, cx0⟩ := HCell.out j hjl
        have cx := (HB.out.cell (cell_blk cx0)).trans cx0
        have ht : L.take (j + 1) = L.take j ++ [L.getD j 0] := by
          rw [List.take_succ_eq_append_getElem hjl, List.getD_eq_getElem?_getD, List.getElem?_eq_getElem hjl]
          rfl
        have HTk := Aside0.mk ht
        have hll : (L.take j).length ≤ 5 := by rw [List.length_take]; omega
        clear cx0 ht hjl
        generalize L.getD j 0 = z at cx HTk
        go_wp2_with ((with_reducible refine gate_builtin (b := .append) (xs := #[.tmp 39, .tmp 41]) rfl ?_); at_builtin; refine Kd.R_append (Kd.int .u32) (w0 := w1) w1.heap.size rfl (.tmp 39) (.tmp 41) 78 52 (.int .u32 0) 4 rfl Tryz.underlying78 info_u32 rfl (by decide) (by omega) u15 (L.take j) z [.int .u32 z] (fun _ => True) (fun _ => False) rfl rfl ?aP (fun _ hk => hk.elim) ?aF ?aO ?aB ?aS ?aL ?_; (case aP => exact rfl); (case aF => exact fun _ _ => trivial); (case aO => exact HO.out); (case aB => exact HB.out); (case aS => omega); (case aL => omega); intro v1 w4 ho hb hg _)
        exact ⟨⟨j + 1, by go_num, by omega, ⟨by rw [HTk.out]; exact ho⟩, ⟨hb⟩⟩, by simp [intOf]; omega⟩
      · have hLt : L.take j = L := List.take_of_length_le (by rw [← HNL.out]; omega)
        have B3 := Aside0.mk (below_then B1.out B1.out.size HB.out)
        have F3 := Aside0.mk (Below.refl wr.heap.size wr)
        have hO2 := HO.out
        rw [hLt] at hO2
        obtain ⟨A2, c2, rfl, hcap2, hC2⟩ := Kd.R_reads hO2
        have HC2 : Aside0 (∀ j, j < L.length → ∃ ad, A2 = some ad ∧ wr.cell? (ad.add j) = some (.int .u32 (L.getD j 0))) := ⟨fun j hj => C_kget hC2 j hj⟩
        rw [← HNL.out] at hcap2 ⊢
        clear hO2 hC2 hLt hcap2 HO
        go_wp2_with fail
        refine (TM.out _ ⟨hP.out.stays B3.out⟩ ⟨hT.out.stays B3.out⟩).mono ?_
        rintro e w5 ⟨rfl, b0⟩
        have B5 := Aside0.mk (below_then B3.out B3.out.size b0)
        have F5 := Aside0.mk (below_then F3.out F3.out.size b0)
        clear b0
        go_wp2_with fail
        refine (AdParse_calls tx _ (by omega) ⟨hE.out.stays B5.out⟩ ⟨hM.out.stays B5.out⟩).mono ?_
        rw [BK.out]
        simp only [adVo, adV, Option.isSome]
        rintro e w6 ⟨rfl, b0⟩
        have B6 := Aside0.mk (below_then B5.out B5.out.size b0)
        have F6 := Aside0.mk (below_then F5.out F5.out.size b0)
        clear b0
        go_wp2_with fail
        refine (FourA6 a b _).mono ?_
        rintro e w7 ⟨rfl, rfl⟩
        go_wp2_with fail
        refine (CP.out _).mono ?_
        rintro e w8 ⟨rfl, b0⟩
        have B8 := Aside0.mk (below_then B6.out B6.out.size b0)
        have F8 := Aside0.mk (below_then F6.out F6.out.size b0)
        clear b0
        go_wp2_with fail
        refine (OX.out _).mono ?_
        rintro e w9 ⟨rfl, b0⟩
        have B9 := Aside0.mk (below_then B8.out B8.out.size b0)
        have F9 := Aside0.mk (below_then F8.out F8.out.size b0)
        clear b0
        go_wp2_with fail
        refine (OY.out _).mono ?_
        rintro e w10 ⟨rfl, b0⟩
        have B10 := Aside0.mk (below_then B9.out B9.out.size b0)
        have F10 := Aside0.mk (below_then F9.out F9.out.size b0)
        clear b0
        go_wp2_with fail
        refine (RC.out _).mono ?_
        rintro e w11 ⟨rfl, b0⟩
        have B11 := Aside0.mk (below_then B10.out B10.out.size b0)
        have F11 := Aside0.mk (below_then F10.out F10.out.size b0)
        clear b0
        go_wp2_with fail
        refine (OX.out _).mono ?_
        rintro e w12 ⟨rfl, b0⟩
        have B12 := Aside0.mk (below_then B11.out B11.out.size b0)
        have F12 := Aside0.mk (below_then F11.out F11.out.size b0)
        clear b0
        go_wp2_with fail
        refine (RX.out _).mono ?_
        rintro e w13 ⟨v2, rfl, hR2, b0⟩
        have B13 := Aside0.mk (below_then B12.out B12.out.size b0)
        have F13 := Aside0.mk (below_then F12.out F12.out.size b0)
        obtain ⟨A3, c3, rfl, hcap3, hC3⟩ := Kd.R_reads hR2
        have HC3 : Aside0 (∀ j, j < L.length → ∃ ad, A3 = some ad ∧ w13.cell? (ad.add j) = some (.int .u32 (L.getD j 0))) := ⟨fun j hj => C_kget hC3 j hj⟩
        rw [← HNL.out] at hcap3 ⊢
        clear b0 hR2 hC3 hcap3
        go_wp2_with fail
        refine (EqualU_calls L L nl nl HNL.out HNL.out A2 A3 c2 c3 _ (by omega) (fun j hj => by
          obtain ⟨ad, e, h⟩ := HC2.out j hj
          exact ⟨ad, e, (F13.out.cell (cell_blk h)).trans h⟩) HC3.out).mono ?_
        rw [decide_eq_true rfl]
        rintro e w14 ⟨rfl, b0⟩
        have B14 := Aside0.mk (below_then B13.out B13.out.size b0)
        have F14 := F13
        clear b0
        go_wp2_with fail
        refine (panics6 a b _).mono ?_
        rintro e w15 ⟨rfl, b0⟩
        have B15 := Aside0.mk (below_then B14.out B14.out.size b0)
        clear b0
        go_wp2_with fail
        refine (Must6 a b _).mono ?_
        rintro e w16 ⟨rfl, b0⟩
        have B16 := Aside0.mk (below_then B15.out B15.out.size b0)
        clear b0
        go_wp2_with fail
        obtain ⟨W3, hW3⟩ : ∃ W3, W3 = w16.alloc (.cells #[.iface 25 (.agg #[.int .u64 a, .int .u64 b]), .nilIface, .iface Ty Vy] 44) := ⟨_, rfl⟩
        rw [← hW3]
        have BW3 : Aside0 (Below w.heap.size w W3) := ⟨by rw [hW3]; exact B16.out.alloc B16.out.size _⟩
        refine (TXS.out w16.heap.size W3 ⟨hP.out.stays BW3.out⟩ ⟨hT.out.stays BW3.out⟩ (by rw [hW3]; simp) (by rw [hW3, World.cell?_alloc_new] <;> rfl) (by rw [hW3, World.cell?_alloc_new] <;> rfl) (by rw [hW3, World.cell?_alloc_new] <;> rfl)).mono ?_
        rintro e w17 ⟨v3, rfl, hR3, b0⟩
        have B17 := Aside0.mk (below_then BW3.out BW3.out.size b0)
        have F17 := Aside0.mk (Below.refl w17.heap.size w17)
        obtain ⟨A4, c4, rfl, hcap4, hC4⟩ := Kd.R_reads hR3
        obtain ⟨ad4, rfl⟩ := C_some hC4 (show 0 < 3 by omega)
        have HC4 : Aside0 (∀ j, j < 3 → w17.cell? (ad4.add j) = some (.string (([tx, ⟨#[]⟩, ty] : List ByteArray).getD j ⟨#[]⟩))) := ⟨fun j hj => by
          rw [C_str_at hC4 j hj, List.getD_eq_getElem?_getD, List.getElem?_eq_getElem (show j < ([tx, ⟨#[]⟩, ty] : List ByteArray).length from hj)]
          rfl⟩
        simp only [List.length_cons, List.length_nil, Nat.zero_add, Nat.reduceAdd] at hcap4 ⊢
        clear b0 hR3 hC4 hW3 hcap4
        go_wp2_with fail
        refine (OX.out _).mono ?_
        rintro e w18 ⟨rfl, b0⟩
        have B18 := Aside0.mk (below_then B17.out B17.out.size b0)
        have F18 := Aside0.mk (below_then F17.out F17.out.size b0)
        clear b0
        go_wp2_with fail
        refine (RTX.out _ ⟨hP.out.stays B18.out⟩).mono ?_
        rintro e w19 ⟨rfl, b0⟩
        have B19 := Aside0.mk (below_then B18.out B18.out.size b0)
        have F19 := Aside0.mk (below_then F18.out F18.out.size b0)
        clear b0
        go_wp2_with fail
        refine (OY.out _).mono ?_
        rintro e w20 ⟨rfl, b0⟩
        have B20 := Aside0.mk (below_then B19.out B19.out.size b0)
        have F20 := Aside0.mk (below_then F19.out F19.out.size b0)
        clear b0
        go_wp2_with fail
        refine (RTY.out _ ⟨hP.out.stays B20.out⟩).mono ?_
        rintro e w21 ⟨rfl, b0⟩
        have B21 := Aside0.mk (below_then B20.out B20.out.size b0)
        have F21 := Aside0.mk (below_then F20.out F20.out.size b0)
        clear b0
        go_wp2_with fail
        refine (EqualS_calls (fun j => ([tx, ⟨#[]⟩, ty] : List ByteArray).getD j ⟨#[]⟩) 3 ad4 ⟨w21.heap.size, 0, none⟩ c4 3 _ (by omega) (fun j hj => ((F21.out.alloc F21.out.size _).cell (cell_blk (HC4.out j hj))).trans (HC4.out j hj)) (fun j hj => by
          rw [add_at, World.cell?_alloc_new]
          have hj3 : j = 0 ∨ j = 1 ∨ j = 2 := by omega
          rcases hj3 with rfl | rfl | rfl <;> rfl)).mono ?_
        rintro e w22 ⟨rfl, b0⟩
        have B22 : Aside0 (Below w.heap.size w w22) := ⟨below_then (B21.out.alloc B21.out.size _) (by have := B21.out.size; simp; omega) b0⟩
        clear b0
        go_wp2_with fail
        go_ret
        exact ⟨rfl, B22.out⟩
theorem AddrTells_row (p q : Bool) (a b c d : Int) (w : World) (wa : (Lit.int .u64 a).wf = true) (wb : (Lit.int .u64 b).wf = true) (wc : (Lit.int .u64 c).wf = true) (wd : (Lit.int .u64 d).wf = true) (hP : Aside0 (Pows w)) (hT : Aside0 (Debr w)) (hE : Aside0 (Errs w)) (hM : Aside0 (Mx w)) :
    Calls Tryz.prog 12 #[.bool p, .bool q, .int .u64 a, .int .u64 b, .int .u64 c, .int .u64 d] w fun e w' => e = .returned (.bool true) ∧ Below w.heap.size w w' := by
  have a0 := wf_u64 wa
  have b0 := wf_u64 wb
  have c0 := wf_u64 wc
  have d0 := wf_u64 wd
  exact AddrTells_law p q a b c d ⟨a0.1, by omega⟩ ⟨b0.1, by omega⟩ ⟨c0.1, by omega⟩ ⟨d0.1, by omega⟩ w hP hT hE hM
end Go.Proofs.YtfieiigefllekaaGreatDoor
