/- Texts that the claim's row leans on, joined by wip/pack.py: WEqStruct Pf6 Pf7 AdT1 SixE RSix4 RSix5 AdE Ad3 AdT5 AdT6 TrP PfT Pf8 Pf10 Aw5P Aw4 Aw5 Aw6 Aw7 PrefixReads -/
import Derived.Test.YtplehdcnnaamkaaGreatDoorKPrefixTells3
import Derived.Laws.StructEq
import Derived.BigRegion
import Derived.Deep.Cut
import Derived.Deep.CutRange
/-! ### 53. '==' of structs as_ one Bool -/
namespace Go.Proofs.YtplehdcnnaamkaaGreatDoorW.PrintWords
open Go.RowKit
section
variable {P : Program} {d : Nat} {xs ys : Array Value} {f : Field} {fs : List Field} {a b : Value} {r s : Bool} {w : World}
/-- The last field that counts. -/
theorem eqf_last (hn : (f.name == "_") = false) (ha : (part f.type xs f.offset).run P w = .ok a w) (hb : (part f.type ys f.offset).run P w = .ok b w) (he : (Op.equalIn d f.type a b).run P w = .ok r w) : (Op.eqFields d xs ys [f]).run P w = .ok r w := by
  have hn' : f.name ≠ "_" := by simpa using hn
  simp only [Op.eqFields, if_pos hn', Sem.run_bind, ha, hb, he, Result.andThen_ok]
  cases r <;> simp
theorem eqf_cons (hn : (f.name == "_") = false) (ha : (part f.type xs f.offset).run P w = .ok a w) (hb : (part f.type ys f.offset).run P w = .ok b w) (he : (Op.equalIn d f.type a b).run P w = .ok r w) (hr : (Op.eqFields d xs ys fs).run P w = .ok s w) : (Op.eqFields d xs ys (f :: fs)).run P w = .ok (r && s) w := by
  have hn' : f.name ≠ "_" := by simpa using hn
  rw [Op.eqFields]
  simp only [if_pos hn', Sem.run_bind, ha, hb, he, Result.andThen_ok]
  cases r
  · simp
  · simpa using hr
theorem eqA_of {t : TypeId} {fs : Array Field} (hu : P.underlying t = some (.struct fs)) (hp : P.stoodInHeld t = false) (h : (Op.eqFields d xs ys fs.toList).run P w = .ok r w) : (Op.equalIn (d + 1) t (.agg xs) (.agg ys)).run P w = .ok r w := by
  have hf : P.fieldsOf t = fs := by simp [Program.fieldsOf, hu]
  rw [run_equalIn_struct (P := P) w d t xs ys (by rw [hf]; exact hu) hp, hf]
  exact h
end
end Go.Proofs.YtplehdcnnaamkaaGreatDoorW.PrintWords

/- Prefixes: of an address, what one has and covers; walked. -/
namespace Go.Proofs.YtplehdcnnaamkaaGreatDoor
open Go.RowKit Go.Proofs.YtplehdcnnaamkaaGreatDoorW.PrintWords Go.Proofs.YtplehdcnnaamkaaGreatDoorW.PrintMore

set_option maxRecDepth 100000 in
theorem ep_ (d : Nat) (a b c a' b' c' : Int) (w : World) : (Op.equalIn (d + 2) 25 (.agg #[.int .u64 a, .int .u64 b, .int .i64 c]) (.agg #[.int .u64 a', .int .u64 b', .int .i64 c'])).run Tryz.prog w = .ok (a == a' && (b == b' && c == c')) w := by
  have e1 : (Op.equalIn (d + 1) 23 (.int .u64 a) (.int .u64 a')).run Tryz.prog w = .ok (a == a') w := run_equalIn_int w d 23 .u64 .u64 a a' Tryz.underlying23
  have e2 : (Op.equalIn (d + 1) 23 (.int .u64 b) (.int .u64 b')).run Tryz.prog w = .ok (b == b') w := run_equalIn_int w d 23 .u64 .u64 b b' Tryz.underlying23
  have e3 : (Op.equalIn (d + 1) 3 (.int .i64 c) (.int .i64 c')).run Tryz.prog w = .ok (c == c') w := run_equalIn_int w d 3 .i64 .i64 c c' Tryz.underlying3
  refine eqA_of Tryz.underlying25 (by kernel_rfl) ?_
  exact eqf_cons rfl (by kernel_rfl) (by kernel_rfl) e1 (eqf_cons rfl (by kernel_rfl) (by kernel_rfl) e2 (eqf_last rfl (by kernel_rfl) (by kernel_rfl) e3))
theorem ep_25 (a b c a' b' c' : Int) (w : World) : (binOp .eql 25 (.agg #[.int .u64 a, .int .u64 b, .int .i64 c]) (.agg #[.int .u64 a', .int .u64 b', .int .i64 c'])).run Tryz.prog w = .ok (.bool (a == a' && (b == b' && c == c'))) w := by
  have h := ep_ 9998 a b c a' b' c' w
  simp only [binOp]
  simp [Op.equal, Op.maxDepth, h]
theorem eg_25 (a b c a' b' c' : Int) (o1 o2 : Operand) (w : World) : (eqGuard .eql 25 o1 o2 (.agg #[.int .u64 a, .int .u64 b, .int .i64 c]) (.agg #[.int .u64 a', .int .u64 b', .int .i64 c'])).run Tryz.prog w = .ok () w := by kernel_rfl

theorem ad_bd (a : Bool × Int × Int) (h : adOk a) : (0 ≤ adHi a ∧ adHi a < 18446744073709551616) ∧ 0 ≤ adLo a ∧ adLo a < 18446744073709551616 := by
  obtain ⟨s, hi, lo⟩ := a
  cases s
  · obtain ⟨h1, h2⟩ := h
    simp only [adHi, adLo]
    omega
  · exact h
/-- The prefix of an address, or none. -/
def ofP : Option (Bool × Int × Int) → Int → Value
  | none, _ => .agg #[.int .u64 0, .int .u64 0, .int .i64 0]
  | some a, n => ofV (adHi a) (adLo a) n
def ofPok : Option (Bool × Int × Int) → Int → Bool
  | none, _ => false
  | some _, n => ofOk n
/-- Does a prefix have an address? Of nil it has none. -/
def hasO (hi lo n : Int) : Option (Bool × Int × Int) → Bool
  | none => false
  | some a => hasP hi lo n (adHi a) (adLo a)

set_option maxHeartbeats 4000000 in
set_option maxRecDepth 100000 in
theorem PfOf_calls (o : Option (Bool × Int × Int)) (ho : ∀ a, o = some a → adOk a) (n : Int) (w : World) :
    Calls Tryz.prog 18 #[adVo o, .int .i64 n] w fun e w' => e = .returned (.tuple #[ofP o n, .bool (ofPok o n)]) ∧ Below w.heap.size w w' := by
  have q4 := mw_4
  have q6 := mw_6
  obtain ⟨W0, hW0⟩ : ∃ W0, W0 = w.alloc (.cells #[.int .u64 0, .int .u64 0, .int .i64 0] 25) := ⟨_, rfl⟩
  obtain ⟨hg, hl, hb⟩ := box3 hW0
  have B0 := Aside0.mk hb
  have HW := Lib.hid hW0
  have HG := Aside0.mk hg
  clear hg hW0 hb
  rcases o with _ | a
  · simp only [adVo]
    go_enter Tryz.func18, Tryz.ntmps18
    go_wp2_with fail
    refine bodyPost_ret (results_cell_bool rfl _ _ w.heap.size 25 #[.int .u64 0, .int .u64 0, .int .i64 0] (0, 0) _ rfl (by rw [← HW.out]; exact HG.out) Tryz.underlying25 rfl (by kernel_rfl)) rfl ?_
    exact ⟨rfl, by rw [← HW.out]; exact B0.out⟩
  · have hbd := ad_bd a (ho a rfl)
    have HA := ho a rfl
    by_cases hn : 0 ≤ n ∧ n ≤ 128
    · obtain ⟨m, rfl⟩ : ∃ m : Nat, n = m := ⟨n.toNat, by omega⟩
      have E := Lib.hid (show ofP (some a) m = .agg #[.int .u64 (mHi (adHi a) m), .int .u64 (mLo (adLo a) m), .int .i64 m] by rw [ofP, ofV, if_pos hn, Int.toNat_natCast])
      have E2 := Lib.hid (show ofPok (some a) m = true from decide_eq_true hn)
      have MK := Aside0.mk (fun W => mask_calls' (adHi a) (adLo a) m (by omega) hbd.1 hbd.2 W)
      obtain ⟨sx, hi, lo⟩ := a
      cases sx
      all_goals
        simp only [adVo, adV]
        go_enter Tryz.func18, Tryz.ntmps18
        go_wp2_with fail
        try rw [← HW.out]
        first
          | refine (Wide4_calls lo HA.2.1 HA.2.2 _).mono ?_
          | refine (Wide6_calls hi lo _).mono ?_
        rintro e w1 ⟨rfl, b1⟩
        have hg1 := (b1.block _ hl).trans HG.out
        have hl1 := Nat.lt_of_lt_of_le hl b1.size
        have B1 := Aside0.mk (below_then B0.out B0.out.size b1)
        have HG1 := Aside0.mk hg1
        clear b1 hg1
        go_wp2_with fail
        refine (MK.out _).mono ?_
        rintro e w2 ⟨rfl, b2⟩
        have hg2 := (b2.block _ hl1).trans HG1.out
        have HG2 := Aside0.mk hg2
        have B2 := Aside0.mk (below_then B1.out B1.out.size b2)
        obtain ⟨k0, f0⟩ := heap_cell (j := 0) hg2 rfl
        obtain ⟨k1, f1⟩ := heap_cell (j := 1) hg2 rfl
        obtain ⟨k2, f2⟩ := heap_cell (j := 2) hg2 rfl
        clear b2 hg2
        generalize mHi _ m = x at E ⊢
        generalize mLo _ m = y at E ⊢
        go_wp2_with fail
        refine bodyPost_ret (results_cell_bool rfl _ _ w.heap.size 25 #[.int .u64 x, .int .u64 y, .int .i64 m] (0, 0) _ rfl (heap_set3 _ _ _ HG2.out) Tryz.underlying25 rfl (by kernel_rfl)) rfl ?_
        exact ⟨ret_ad E.out.symm E2.out.symm, below_set3 B2.out (Nat.le_refl _) _ _ _⟩
    · have E := Lib.hid (show ofP (some a) n = .agg #[.int .u64 0, .int .u64 0, .int .i64 0] by rw [ofP, ofV, if_neg hn])
      have E2 := Lib.hid (show ofPok (some a) n = false from decide_eq_false hn)
      obtain ⟨sx, hi, lo⟩ := a
      rcases (show n < 0 ∨ 128 < n by omega) with h0 | h0
      all_goals
        cases sx
        all_goals
          simp only [adVo, adV]
          go_enter Tryz.func18, Tryz.ntmps18
          go_wp2_with fail
          refine bodyPost_ret (results_cell_bool rfl _ _ w.heap.size 25 #[.int .u64 0, .int .u64 0, .int .i64 0] (0, 0) _ rfl (by rw [← HW.out]; exact HG.out) Tryz.underlying25 rfl (by kernel_rfl)) rfl ?_
          exact ⟨ret_ad E.out.symm E2.out.symm, by rw [← HW.out]; exact B0.out⟩
end Go.Proofs.YtplehdcnnaamkaaGreatDoor

/- Prefixes: what one has and covers; walked. -/
namespace Go.Proofs.YtplehdcnnaamkaaGreatDoor
open Go.RowKit Go.Proofs.YtplehdcnnaamkaaGreatDoorW.PrintWords Go.Proofs.YtplehdcnnaamkaaGreatDoorW.PrintMore

set_option maxHeartbeats 4000000 in
set_option maxRecDepth 100000 in
theorem PfHas_calls (hi lo n : Int) (o : Option (Bool × Int × Int)) (ho : ∀ a, o = some a → adOk a) (h0 : 0 ≤ hi ∧ hi < 18446744073709551616) (h1 : 0 ≤ lo ∧ lo < 18446744073709551616) (w : World) :
    Calls Tryz.prog 21 #[.agg #[.int .u64 hi, .int .u64 lo, .int .i64 n], adVo o] w fun e w' => e = .returned (.bool (hasO hi lo n o)) ∧ Below w.heap.size w w' := by
  obtain ⟨W0, hW0⟩ : ∃ W0, W0 = w.alloc (.cells #[.int .u64 hi, .int .u64 lo, .int .i64 n] 25) := ⟨_, rfl⟩
  obtain ⟨hg, hl, hb⟩ := box3 hW0
  have B0 := Aside0.mk hb
  have HW := Lib.hid hW0
  have HG := Aside0.mk hg
  clear hg hW0 hb
  have OF := Aside0.mk (PfOf_calls o ho n)
  have RI := Aside0.mk (Right_calls hi lo n h0 h1)
  have eq1 := ep_25
  have eq2 := eg_25
  generalize hv : adVo o = vo at OF
  have HV := Lib.hid hv
  clear hv
  cases hok : ofPok o n
  · have E := Lib.hid (show hasO hi lo n o = false by
      cases o with
      | none => rfl
      | some a => exact hasP_wrong _ _ _ _ _ (rightP_neg _ _ _ (of_decide_eq_false hok)))
    have E0 := Lib.hid (show ofP o n = .agg #[.int .u64 0, .int .u64 0, .int .i64 0] by
      cases o with
      | none => rfl
      | some a => exact if_neg (of_decide_eq_false hok))
    rw [hok, E0.out] at OF
    clear hok E0
    go_enter Tryz.func21, Tryz.ntmps21
    go_wp2_with fail
    rw [← HW.out]
    refine (OF.out _).mono ?_
    rintro e w1 ⟨rfl, b1⟩
    have B1 := Aside0.mk (below_then B0.out B0.out.size b1)
    clear b1
    go_wp2_with fail
    go_ret
    exact ⟨ret_bool E.out.symm, B1.out.alloc B1.out.size _⟩
  · obtain ⟨a, rfl⟩ : ∃ a, o = some a := by
      cases o with
      | none => cases hok
      | some a => exact ⟨a, rfl⟩
    have hn : 0 ≤ n ∧ n ≤ 128 := of_decide_eq_true hok
    obtain ⟨m, rfl⟩ : ∃ m : Nat, n = m := ⟨n.toNat, by omega⟩
    have E0 := Lib.hid (show ofP (some a) m = .agg #[.int .u64 (mHi (adHi a) m), .int .u64 (mLo (adLo a) m), .int .i64 m] by rw [ofP, ofV, if_pos hn, Int.toNat_natCast])
    have E1 := Lib.hid (show hasO hi lo m (some a) = (rightP hi lo m && (mHi (adHi a) m == hi && mLo (adLo a) m == lo)) from rfl)
    rw [hok, E0.out] at OF
    generalize mHi (adHi a) m = x at OF E1
    generalize mLo (adLo a) m = y at OF E1
    clear hok E0
    go_enter Tryz.func21, Tryz.ntmps21
    go_wp2_with fail
    rw [← HW.out]
    have hg := HG.out
    obtain ⟨k0, _⟩ := heap_cell (j := 0) hg rfl
    obtain ⟨k1, _⟩ := heap_cell (j := 1) hg rfl
    obtain ⟨k2, _⟩ := heap_cell (j := 2) hg rfl
    clear hg
    go_wp2_with fail
    refine (OF.out _).mono ?_
    rintro e w1 ⟨rfl, b1⟩
    have B1 := Aside0.mk (below_then B0.out B0.out.size b1)
    have hl1 := Nat.lt_of_lt_of_le hl b1.size
    have HG1 := Aside0.mk ((b1.block _ hl).trans HG.out)
    clear b1 k0 k1 k2
    obtain ⟨W1, hW1⟩ : ∃ W1, W1 = w1.alloc (.cells #[.int .u64 x, .int .u64 y, .int .i64 m] 25) := ⟨_, rfl⟩
    obtain ⟨hg2, hl2, hb2⟩ := box3 hW1
    have HW1 := Lib.hid hW1
    have HG2 := Aside0.mk hg2
    have B2 := Aside0.mk (below_then B1.out B1.out.size hb2)
    have HG3 := Aside0.mk ((hb2.block _ hl1).trans HG1.out)
    have hl3 := Nat.lt_of_lt_of_le hl1 hb2.size
    have hg3 := HG3.out
    clear hg2 hb2 hW1
    obtain ⟨k0, _⟩ := heap_cell (j := 0) hg3 rfl
    obtain ⟨k1, _⟩ := heap_cell (j := 1) hg3 rfl
    obtain ⟨k2, _⟩ := heap_cell (j := 2) hg3 rfl
    clear hg3
    rw [HW1.out] at k0 k1 k2
    go_wp2_with fail
    rw [← HW1.out] at k0 k1 k2 ⊢
    refine (RI.out _).mono ?_
    rintro e w2 ⟨rfl, b2⟩
    have B3 := Aside0.mk (below_then B2.out B2.out.size b2)
    have hg4 := (b2.block _ hl3).trans HG3.out
    have hg5 := (b2.block _ hl2).trans HG2.out
    clear k0 k1 k2
    obtain ⟨k0, _⟩ := heap_cell (j := 0) hg4 rfl
    obtain ⟨k1, _⟩ := heap_cell (j := 1) hg4 rfl
    obtain ⟨k2, _⟩ := heap_cell (j := 2) hg4 rfl
    obtain ⟨m0, _⟩ := heap_cell (j := 0) hg5 rfl
    obtain ⟨m1, _⟩ := heap_cell (j := 1) hg5 rfl
    obtain ⟨m2, _⟩ := heap_cell (j := 2) hg5 rfl
    clear hg4 hg5 b2
    cases hr : rightP hi lo m
    · have E := Lib.hid (show hasO hi lo m (some a) = false by rw [E1.out, hr, Bool.false_and])
      clear hr
      go_wp2_with fail
      go_ret
      exact ⟨ret_bool E.out.symm, B3.out⟩
    · have E := Lib.hid (show hasO hi lo m (some a) = (x == hi && y == lo) by rw [E1.out, hr, Bool.true_and])
      clear hr
      go_wp2_with fail
      go_ret
      exact ⟨ret_bool (by rw [E.out, Bool.beq_comm (a := x), Bool.beq_comm (a := y)]), B3.out⟩
/-- Does a prefix cover another one? -/
def coversP (hi lo n hi' lo' n' : Int) : Bool := rightP hi lo n && (rightP hi' lo' n' && (decide (n ≤ n') && hasP hi lo n hi' lo'))

set_option maxHeartbeats 4000000 in
set_option maxRecDepth 100000 in
theorem PfCovers_calls (hi lo n hi' lo' n' : Int) (h0 : 0 ≤ hi ∧ hi < 18446744073709551616) (h1 : 0 ≤ lo ∧ lo < 18446744073709551616) (h2 : 0 ≤ hi' ∧ hi' < 18446744073709551616) (h3 : 0 ≤ lo' ∧ lo' < 18446744073709551616) (w : World) :
    Calls Tryz.prog 19 #[.agg #[.int .u64 hi, .int .u64 lo, .int .i64 n], .agg #[.int .u64 hi', .int .u64 lo', .int .i64 n']] w fun e w' => e = .returned (.bool (coversP hi lo n hi' lo' n')) ∧ Below w.heap.size w w' := by
  obtain ⟨W0, hW0⟩ : ∃ W0, W0 = w.alloc (.cells #[.int .u64 hi, .int .u64 lo, .int .i64 n] 25) := ⟨_, rfl⟩
  obtain ⟨hg, hl, hbw⟩ := box3 hW0
  obtain ⟨W1, hW1⟩ : ∃ W1, W1 = W0.alloc (.cells #[.int .u64 hi', .int .u64 lo', .int .i64 n'] 25) := ⟨_, rfl⟩
  obtain ⟨hg1, hl1, hbw1⟩ := box3 hW1
  have B1 := Aside0.mk (below_then hbw hbw.size hbw1)
  have HG0 := Aside0.mk ((hbw1.block _ hl).trans hg)
  have HW0 := Lib.hid hW0
  have HW1 := Lib.hid hW1
  have hlt : w.heap.size < W1.heap.size := Nat.lt_of_lt_of_le hl hbw1.size
  have hs0 : W0.heap.size = w.heap.size + 1 := by rw [hW0]; simp
  have HG1 : Aside0 (W1.heap[w.heap.size + 1]? = some (.cells #[.int .u64 hi', .int .u64 lo', .int .i64 n'] 25 (0, 0))) := ⟨by rw [← hs0]; exact hg1⟩
  have hl2 : w.heap.size + 1 < W1.heap.size := by rw [← hs0]; exact hl1
  clear hg hW0 hbw hW1 hg1 hbw1 hl hs0 hl1
  go_enter Tryz.func19, Tryz.ntmps19
  go_wp2_with fail
  rw [← HW0.out, ← HW1.out]
  have hg0 := HG0.out
  obtain ⟨p0, _⟩ := heap_cell (j := 0) hg0 rfl
  obtain ⟨p1, _⟩ := heap_cell (j := 1) hg0 rfl
  obtain ⟨p2, _⟩ := heap_cell (j := 2) hg0 rfl
  clear hg0
  go_wp2_with fail
  refine (Right_calls hi lo n h0 h1 _).mono ?_
  rintro e w2 ⟨rfl, b2⟩
  have HG2 := Aside0.mk ((b2.block _ hlt).trans HG0.out)
  have HG3 := Aside0.mk ((b2.block _ hl2).trans HG1.out)
  have B2 := Aside0.mk (below_then B1.out B1.out.size b2)
  have hlt2 := Nat.lt_of_lt_of_le hlt b2.size
  have hl3 := Nat.lt_of_lt_of_le hl2 b2.size
  clear p0 p1 p2 b2
  have hg1 := HG3.out
  obtain ⟨q0, _⟩ := heap_cell (j := 0) hg1 rfl
  obtain ⟨q1, _⟩ := heap_cell (j := 1) hg1 rfl
  obtain ⟨q2, _⟩ := heap_cell (j := 2) hg1 rfl
  clear hg1
  cases hr : rightP hi lo n
  · have E := Lib.hid (show coversP hi lo n hi' lo' n' = false by rw [coversP, hr, Bool.false_and])
    clear hr
    go_wp2_with fail
    go_ret
    exact ⟨ret_bool E.out.symm, B2.out⟩
  · have HR := Lib.hid hr
    clear hr
    go_wp2_with fail
    refine (Right_calls hi' lo' n' h2 h3 _).mono ?_
    rintro e w3 ⟨rfl, b3⟩
    have hg2 := (b3.block _ hlt2).trans HG2.out
    have hg3 := (b3.block _ hl3).trans HG3.out
    have B3 := Aside0.mk (below_then B2.out B2.out.size b3)
    clear q0 q1 q2 b3
    obtain ⟨p0, _⟩ := heap_cell (j := 0) hg2 rfl
    obtain ⟨p1, _⟩ := heap_cell (j := 1) hg2 rfl
    obtain ⟨p2, _⟩ := heap_cell (j := 2) hg2 rfl
    obtain ⟨q0, _⟩ := heap_cell (j := 0) hg3 rfl
    obtain ⟨q1, _⟩ := heap_cell (j := 1) hg3 rfl
    obtain ⟨q2, _⟩ := heap_cell (j := 2) hg3 rfl
    clear hg2 hg3
    cases hr' : rightP hi' lo' n'
    · have E := Lib.hid (show coversP hi lo n hi' lo' n' = false by rw [coversP, HR.out, hr', Bool.true_and, Bool.false_and])
      clear hr'
      go_wp2_with fail
      go_ret
      exact ⟨ret_bool E.out.symm, B3.out⟩
    · by_cases hle : n ≤ n'
      · have E := Lib.hid (show coversP hi lo n hi' lo' n' = hasP hi lo n hi' lo' by rw [coversP, HR.out, hr', Bool.true_and, Bool.true_and, decide_eq_true hle, Bool.true_and])
        clear hr'
        go_wp2_with fail
        refine (PfHas_calls hi lo n (some (true, hi', lo')) (fun a h => by obtain rfl := Option.some.inj h; exact ⟨h2, h3⟩) h0 h1 _).mono ?_
        rintro e w4 ⟨rfl, b4⟩
        have B4 := Aside0.mk (below_then B3.out B3.out.size b4)
        clear b4
        go_wp2_with fail
        go_ret
        exact ⟨ret_bool (by rw [E.out] <;> rfl), B4.out⟩
      · have E := Lib.hid (show coversP hi lo n hi' lo' n' = false by rw [coversP, HR.out, hr', Bool.true_and, Bool.true_and, decide_eq_false hle, Bool.false_and])
        clear hr'
        go_wp2_with fail
        go_ret
        exact ⟨ret_bool E.out.symm, B3.out⟩

set_option maxHeartbeats 4000000 in
set_option maxRecDepth 100000 in
theorem rCovers_calls (hi lo n hi' lo' n' : Int) (h0 : 0 ≤ hi ∧ hi < 18446744073709551616) (h1 : 0 ≤ lo ∧ lo < 18446744073709551616) (h2 : 0 ≤ hi' ∧ hi' < 18446744073709551616) (h3 : 0 ≤ lo' ∧ lo' < 18446744073709551616) (w : World) :
    Calls Tryz.prog 30 #[.agg #[.int .u64 hi, .int .u64 lo, .int .i64 n], .agg #[.int .u64 hi', .int .u64 lo', .int .i64 n']] w fun e w' => e = .returned (.bool (coversP hi lo n hi' lo' n')) ∧ Below w.heap.size w w' := by
  obtain ⟨W0, hW0⟩ : ∃ W0, W0 = w.alloc (.cells #[.int .u64 hi, .int .u64 lo, .int .i64 n] 28) := ⟨_, rfl⟩
  obtain ⟨hg, hl, hbw⟩ := box3 hW0
  obtain ⟨W1, hW1⟩ : ∃ W1, W1 = W0.alloc (.cells #[.int .u64 hi', .int .u64 lo', .int .i64 n'] 28) := ⟨_, rfl⟩
  obtain ⟨hg1, hl1, hbw1⟩ := box3 hW1
  have B1 := Aside0.mk (below_then hbw hbw.size hbw1)
  have HG0 := Aside0.mk ((hbw1.block _ hl).trans hg)
  have HW0 := Lib.hid hW0
  have HW1 := Lib.hid hW1
  have hlt : w.heap.size < W1.heap.size := Nat.lt_of_lt_of_le hl hbw1.size
  have hs0 : W0.heap.size = w.heap.size + 1 := by rw [hW0]; simp
  have HG1 : Aside0 (W1.heap[w.heap.size + 1]? = some (.cells #[.int .u64 hi', .int .u64 lo', .int .i64 n'] 28 (0, 0))) := ⟨by rw [← hs0]; exact hg1⟩
  have hl2 : w.heap.size + 1 < W1.heap.size := by rw [← hs0]; exact hl1
  clear hg hW0 hbw hW1 hg1 hbw1 hl hs0 hl1
  go_enter Tryz.func30, Tryz.ntmps30
  go_wp2_with fail
  rw [← HW0.out, ← HW1.out]
  have hg0 := HG0.out
  obtain ⟨p0, _⟩ := heap_cell (j := 0) hg0 rfl
  obtain ⟨p1, _⟩ := heap_cell (j := 1) hg0 rfl
  obtain ⟨p2, _⟩ := heap_cell (j := 2) hg0 rfl
  clear hg0
  go_wp2_with fail
  refine (rRight_calls hi lo n h0 h1 _).mono ?_
  rintro e w2 ⟨rfl, b2⟩
  have HG2 := Aside0.mk ((b2.block _ hlt).trans HG0.out)
  have HG3 := Aside0.mk ((b2.block _ hl2).trans HG1.out)
  have B2 := Aside0.mk (below_then B1.out B1.out.size b2)
  have hlt2 := Nat.lt_of_lt_of_le hlt b2.size
  have hl3 := Nat.lt_of_lt_of_le hl2 b2.size
  clear p0 p1 p2 b2
  have hg1 := HG3.out
  obtain ⟨q0, _⟩ := heap_cell (j := 0) hg1 rfl
  obtain ⟨q1, _⟩ := heap_cell (j := 1) hg1 rfl
  obtain ⟨q2, _⟩ := heap_cell (j := 2) hg1 rfl
  clear hg1
  cases hr : rightP hi lo n
  · have E := Lib.hid (show coversP hi lo n hi' lo' n' = false by rw [coversP, hr, Bool.false_and])
    clear hr
    go_wp2_with fail
    go_ret
    exact ⟨ret_bool E.out.symm, B2.out⟩
  · have HR := Lib.hid hr
    clear hr
    go_wp2_with fail
    refine (rRight_calls hi' lo' n' h2 h3 _).mono ?_
    rintro e w3 ⟨rfl, b3⟩
    have hg2 := (b3.block _ hlt2).trans HG2.out
    have hg3 := (b3.block _ hl3).trans HG3.out
    have B3 := Aside0.mk (below_then B2.out B2.out.size b3)
    clear q0 q1 q2 b3
    obtain ⟨p0, _⟩ := heap_cell (j := 0) hg2 rfl
    obtain ⟨p1, _⟩ := heap_cell (j := 1) hg2 rfl
    obtain ⟨p2, _⟩ := heap_cell (j := 2) hg2 rfl
    obtain ⟨q0, _⟩ := heap_cell (j := 0) hg3 rfl
    obtain ⟨q1, _⟩ := heap_cell (j := 1) hg3 rfl
    obtain ⟨q2, _⟩ := heap_cell (j := 2) hg3 rfl
    clear hg2 hg3
    cases hr' : rightP hi' lo' n'
    · have E := Lib.hid (show coversP hi lo n hi' lo' n' = false by rw [coversP, HR.out, hr', Bool.true_and, Bool.false_and])
      clear hr'
      go_wp2_with fail
      go_ret
      exact ⟨ret_bool E.out.symm, B3.out⟩
    · by_cases hle : n ≤ n'
      · have E := Lib.hid (show coversP hi lo n hi' lo' n' = hasP hi lo n hi' lo' by rw [coversP, HR.out, hr', Bool.true_and, Bool.true_and, decide_eq_true hle, Bool.true_and])
        clear hr'
        go_wp2_with fail
        refine (rHas_calls hi lo n true hi' lo' h0 h1 h2 h3 _).mono ?_
        rintro e w4 ⟨rfl, b4⟩
        have B4 := Aside0.mk (below_then B3.out B3.out.size b4)
        clear b4
        go_wp2_with fail
        go_ret
        exact ⟨ret_bool (by rw [E.out] <;> rfl), B4.out⟩
      · have E := Lib.hid (show coversP hi lo n hi' lo' n' = false by rw [coversP, HR.out, hr', Bool.true_and, Bool.true_and, decide_eq_false hle, Bool.false_and])
        clear hr'
        go_wp2_with fail
        go_ret
        exact ⟨ret_bool E.out.symm, B3.out⟩
end Go.Proofs.YtplehdcnnaamkaaGreatDoor

/- What AddrTells leans on: Must, its panics; the document's order; walked. -/
namespace Go.Proofs.YtplehdcnnaamkaaGreatDoor
open Go.RowKit Go.Proofs.YtplehdcnnaamkaaGreatDoorW.PrintWords Go.Proofs.YtplehdcnnaamkaaGreatDoorW.PrintMore

set_option maxRecDepth 100000 in
theorem FourA4 (n : Int) (w : World) : Calls Tryz.prog 64 #[.iface 111 (.int .u32 n)] w fun e w' => e = .returned (.tuple #[.int .u32 n, .bool true]) ∧ w' = w := by
  have q := ta_44
  go_enter Tryz.func64, Tryz.ntmps64
  go_wp2_with fail
  go_ret2
  exact ⟨rfl, rfl⟩
set_option maxRecDepth 100000 in
theorem FourA6 (hi lo : Int) (w : World) : Calls Tryz.prog 64 #[.iface 34 (.agg #[.int .u64 hi, .int .u64 lo])] w fun e w' => e = .returned (.tuple #[.int .u32 0, .bool false]) ∧ w' = w := by
  have q := ta_64
  go_enter Tryz.func64, Tryz.ntmps64
  go_wp2_with fail
  go_ret2
  exact ⟨rfl, rfl⟩
end Go.Proofs.YtplehdcnnaamkaaGreatDoor

/- What is written is read again: addresses of eight pieces. Plain Lean. -/
namespace Go.Proofs.YtplehdcnnaamkaaGreatDoor
open Go.RowKit Go.Proofs.YtplehdcnnaamkaaGreatDoorW.PrintWords

theorem hex_len : ∀ (k u : Nat), u < 16 ^ (k + 1) → (digB 16 u).length ≤ k + 1
  | 0, u, h => by rw [digB_small (by simpa using h)]; simp
  | k + 1, u, h => by
    by_cases hu : u < 16
    · rw [digB_small hu]; simp
    · rw [digB_big (by omega) (by omega), List.length_append, List.length_singleton]
      have := hex_len k (u / 16) (by rw [Nat.pow_succ] at h; omega)
      omega
theorem words_nil : wordsL [] = [] := rfl
theorem words_one (x : Int) : wordsL [x] = digB 16 x.toNat := by simp [wordsL, Lib.join_one]
theorem words_cons (x y : Int) (xs : List Int) : wordsL (x :: y :: xs) = digB 16 x.toNat ++ 58 :: wordsL (y :: xs) := by
  simp only [wordsL, List.map_cons, Lib.join_cons]
  simp [Lib.joinTail]
theorem words_len4 : ∀ xs : List Int, (∀ x ∈ xs, 0 ≤ x ∧ x ≤ 65535) → (wordsL xs).length ≤ 5 * xs.length - 1
  | [], _ => by simp [words_nil]
  | [x], h => by
    have := hex_len 3 x.toNat (by have := h x (by simp); omega)
    rw [words_one]
    simpa using this
  | x :: y :: xs, h => by
    have h1 := hex_len 3 x.toNat (by have := h x (by simp); omega)
    have h2 := words_len4 (y :: xs) fun z hz => h z (by simp [hz])
    rw [words_cons, List.length_append, List.length_cons]
    simp only [List.length_cons] at h2 ⊢
    omega
theorem longF_run (xs : List Int) : ∀ j, (longF xs j).2 ≤ zrun (xs.drop (longF xs j).1)
  | 0 => Nat.zero_le _
  | j + 1 => by
    rw [longF]
    split
    · exact Nat.le_refl _
    · exact longF_run xs j
theorem text_len (xs : List Int) (hl : xs.length = 8) (hb : ∀ x ∈ xs, 0 ≤ x ∧ x ≤ 65535) : (textL6 xs).length ≤ 39 := by
  have hbd := longF_bd xs hl 8 (Nat.le_refl _)
  rw [textL6]
  generalize longF xs 8 = an at *
  obtain ⟨a, n⟩ := an
  simp only at hbd ⊢
  by_cases h2 : n < 2
  · rw [if_pos h2]
    have := words_len4 xs hb
    omega
  · have h1 := words_len4 (xs.take a) fun x hx => hb x (List.mem_of_mem_take hx)
    have h3 := words_len4 (xs.drop (a + n)) fun x hx => hb x (List.mem_of_mem_drop hx)
    rw [List.length_take, hl] at h1
    rw [List.length_drop, hl] at h3
    rw [if_neg h2]
    simp only [List.length_append, List.length_cons, List.length_nil]
    omega
/-- The longest row is where the document finds it. -/
theorem longF_max (xs : List Int) : ∀ j f, f < j → zrun (xs.drop f) ≤ (longF xs j).2
  | 0, _, h => absurd h (by omega)
  | j + 1, f, h => by
    rw [longF]
    rcases Nat.lt_or_ge f j with hf | hf
    · have := longF_max xs j f hf
      split
      · show _ ≤ zrun _
        omega
      · exact this
    · obtain rfl : f = j := by omega
      split
      · exact Nat.le_refl _
      · omega
theorem longF_first (xs : List Int) : ∀ j f, f < (longF xs j).1 → zrun (xs.drop f) < (longF xs j).2
  | 0, _, h => absurd h (by simp [longF])
  | j + 1, f, h => by
    rw [longF] at h ⊢
    by_cases hc : (longF xs j).2 < zrun (xs.drop j)
    · rw [if_pos hc] at h ⊢
      have := longF_max xs j f h
      show _ < zrun _
      omega
    · rw [if_neg hc] at h ⊢
      exact longF_first xs j f h
theorem longF_is (xs : List Int) (hl : xs.length = 8) (f n : Nat) (h2 : 2 ≤ n) (hn : n ≤ zrun (xs.drop f)) (hup : ∀ k g, n < k → k ≤ 8 → g + k ≤ 8 → zrun (xs.drop g) < k) (hlow : ∀ g, g < f → zrun (xs.drop g) < n) : longF xs 8 = (f, n) := by
  have hzl : ∀ g, zrun (xs.drop g) ≤ 8 - g := fun g => by
    have := zrun_le (xs.drop g)
    rwa [List.length_drop, hl] at this
  have hf8 : f < 8 := by have := hzl f; omega
  have hmax := longF_max xs 8 f hf8
  have hrun := longF_run xs 8
  have hbd := longF_bd xs hl 8 (Nat.le_refl _)
  have hfirst := longF_first xs 8
  generalize longF xs 8 = an at *
  obtain ⟨a, m⟩ := an
  simp only at hmax hrun hbd hfirst ⊢
  have hm : m = n := by
    rcases Nat.lt_or_ge n m with h | h
    · have := hup m a h (by omega) hbd
      omega
    · omega
  subst hm
  have ha : a = f := by
    rcases Nat.lt_trichotomy a f with h | h | h
    · have := hlow a h
      omega
    · exact h
    · have := hfirst f h
      omega
  rw [ha]
theorem longF_none (xs : List Int) (hl : xs.length = 8) (hup : ∀ k g, 1 < k → k ≤ 8 → g + k ≤ 8 → zrun (xs.drop g) < k) : (longF xs 8).2 < 2 := by
  have hrun := longF_run xs 8
  have hbd := longF_bd xs hl 8 (Nat.le_refl _)
  generalize longF xs 8 = an at *
  obtain ⟨a, m⟩ := an
  simp only at hrun hbd ⊢
  rcases Nat.lt_or_ge m 2 with h | h
  · exact h
  · have := hup m a (by omega) (by omega) hbd
    omega
end Go.Proofs.YtplehdcnnaamkaaGreatDoor

/- The document's Pieces, hex, join and zeros of an address of eight pieces, walked. -/
namespace Go.Proofs.YtplehdcnnaamkaaGreatDoor
open Go.RowKit Go.Proofs.YtplehdcnnaamkaaGreatDoorW.PrintWords Go.Proofs.YtplehdcnnaamkaaGreatDoorW.PrintMore

theorem hexB_small (n : Nat) (h : n < 16) (D : ByteArray) (hD : D = ⟨#[48, 49, 50, 51, 52, 53, 54, 55, 56, 57, 97, 98, 99, 100, 101, 102]⟩) : D.extract n (n + 1) = hexB (n : Int) := by
  subst hD
  have : ∀ k : Fin 16, (ByteArray.mk #[48, 49, 50, 51, 52, 53, 54, 55, 56, 57, 97, 98, 99, 100, 101, 102]).extract k.val (k.val + 1) = hexB (k.val : Int) := by decide +kernel
  exact this ⟨n, h⟩
theorem hexB_big (n : Nat) (h : ¬ n < 16) : hexB ((n : Int) / 16) ++ hexB ((n : Int) % 16) = hexB (n : Int) := by
  have h1 : ((n : Int) / 16).toNat = n / 16 := by omega
  have h2 : ((n : Int) % 16).toNat = n % 16 := by omega
  rw [hexB, hexB, hexB, h1, h2, Int.toNat_natCast, digB_big (b := 16) (u := n) (by omega) (by omega), digB_small (Nat.mod_lt n (by omega))]
  apply ByteArray.ext
  simp

set_option maxHeartbeats 2000000 in
theorem rhex_calls (n : Nat) (hn : n ≤ 65535) (w : World) : Calls Tryz.prog 150 #[.int .i64 n] w fun e w' => e = .returned (.string (hexB n)) ∧ w' = w := by
  induction n using Nat.strongRecOn with
  | _ n ih =>
    by_cases h : n < 16
    · have E := Lib.hid (hexB_small n h _ rfl)
      go_enter Tryz.func150, Tryz.ntmps150
      go_wp2_with fail
      go_ret
      exact ⟨ret_string E.out, rfl⟩
    · have E := Lib.hid (hexB_big n h)
      have i1 := ih (n / 16) (by omega) (by omega)
      have i2 := ih (n % 16) (by omega) (by omega)
      rw [show ((n / 16 : Nat) : Int) = (n : Int) / 16 by omega] at i1
      rw [show ((n % 16 : Nat) : Int) = (n : Int) % 16 by omega] at i2
      have z1 := hexB_size ((n : Int) / 16) (by omega)
      have z2 := hexB_size ((n : Int) % 16) (by omega)
      have I1 := Aside0.mk i1
      have I2 := Aside0.mk i2
      clear ih i1 i2
      go_enter Tryz.func150, Tryz.ntmps150
      go_wp2_with fail
      refine I1.out.mono ?_
      rintro e w1 ⟨rfl, rfl⟩
      go_wp2_with fail
      refine I2.out.mono ?_
      rintro e w2 ⟨rfl, rfl⟩
      go_wp2_with fail
      go_ret
      exact ⟨ret_string E.out, rfl⟩
theorem rhexI_calls (x : Int) (h0 : 0 ≤ x) (h1 : x ≤ 65535) (w : World) : Calls Tryz.prog 150 #[.int .i64 x] w fun e w' => e = .returned (.string (hexB x)) ∧ w' = w := by
  have h := rhex_calls x.toNat (by omega) w
  rwa [Int.toNat_of_nonneg h0] at h
theorem words_snoc : ∀ (xs : List Int) (x : Int), xs ≠ [] → wordsL (xs ++ [x]) = wordsL xs ++ 58 :: digB 16 x.toNat
  | [], _, h => absurd rfl h
  | [y], x, _ => by
    rw [List.singleton_append, words_cons, words_one, words_one]
  | y :: z :: ys, x, _ => by
    rw [List.cons_append, List.cons_append, words_cons, words_cons, ← List.cons_append, words_snoc (z :: ys) x (by simp)]
    simp
theorem zrun_on (xs : List Int) : ∀ (j f : Nat), j ≤ zrun (xs.drop f) → f + j < xs.length → (xs.getD (f + j) 0 = 0 → j + 1 ≤ zrun (xs.drop f)) ∧ (xs.getD (f + j) 0 ≠ 0 → zrun (xs.drop f) = j)
  | 0, f, _, hl => by
    rw [Nat.add_zero] at hl ⊢
    rw [zrun_step xs f hl]
    constructor
    · intro h
      rw [if_pos h]
      omega
    · intro h
      rw [if_neg h]
  | j + 1, f, h, hl => by
    have hs := zrun_step xs f (by omega)
    by_cases h0 : xs.getD f 0 = 0
    · rw [if_pos h0] at hs
      have ih := zrun_on xs j (f + 1) (by omega) (by omega)
      rw [show f + 1 + j = f + (j + 1) by omega] at ih
      constructor
      · intro hx
        have := ih.1 hx
        omega
      · intro hx
        have := ih.2 hx
        omega
    · rw [if_neg h0] at hs
      omega
/-- The pieces, so far. -/
def PcP (hi lo k x y : Int) (ys : List Int) : Prop :=
  (k = 3 ∧ x = hi ∧ y = lo ∧ ys = [0, 0, 0, 0, 0, 0, 0, 0]) ∨
  (k = 2 ∧ x = hi / 65536 ∧ y = lo / 65536 ∧ ys = [0, 0, 0, hi % 65536, 0, 0, 0, lo % 65536]) ∨
  (k = 1 ∧ x = hi / 4294967296 ∧ y = lo / 4294967296 ∧ ys = [0, 0, hi / 65536 % 65536, hi % 65536, 0, 0, lo / 65536 % 65536, lo % 65536]) ∨
  (k = 0 ∧ x = hi / 281474976710656 ∧ y = lo / 281474976710656 ∧ ys = [0, hi / 4294967296 % 65536, hi / 65536 % 65536, hi % 65536, 0, lo / 4294967296 % 65536, lo / 65536 % 65536, lo % 65536]) ∨
  (k = -1 ∧ ys = piecesOf hi lo)

set_option maxHeartbeats 4000000 in
theorem rPieces5_calls (hi lo : Int) (h0 : 0 ≤ hi ∧ hi < 18446744073709551616) (h1 : 0 ≤ lo ∧ lo < 18446744073709551616) (w : World) :
    Calls Tryz.prog 117 #[.int .u64 hi, .int .u64 lo] w fun e w' => ∃ g cap, e = .returned (.slice (some ⟨g, 0, none⟩) 8 cap) ∧ 8 ≤ cap ∧ w.heap.size ≤ g ∧ Kd.R (Kd.int .i64) 3 w' w.heap.size (fun _ => True) (.slice (some ⟨g, 0, none⟩) 8 cap) (piecesOf hi lo) ∧ Below w.heap.size w w' := by
  go_enter Tryz.func117, Tryz.ntmps117
  go_wp2_with (at_make; refine Kd.R_make (Kd.int .i64) (w0 := w) w.heap.size 3 rfl rfl 184 (.const (.int .i64 8)) (.const (.int .i64 8)) rfl 8 rfl rfl Tryz.underlying184 (.int .i64 0) 8 info_int rfl (by decide) (by omega) 0 (ok := fun _ => True) (okp := fun _ => True) rfl (fun _ h => h) trivial (by omega) (by decide) (Below.refl _ _) (Nat.le_refl _) ?_; intro v1 w3 ho hb3 _ _; (obtain ⟨g, cap, rfl, hcap3, hg3, hg4, hO3⟩ := make8 ho); (have HO3 := Aside0.mk hO3); (have HB3 := Aside0.mk hb3); clear ho hO3 hb3)
  go_loopw [0, 1, 6] (fun a b i wr => ∃ (k x y : Int) (ys : List Int), i = .int .i64 k ∧ a = .int .u64 x ∧ b = .int .u64 y ∧ -1 ≤ k ∧ k ≤ 3 ∧ ys.length = 8 ∧ Aside0 (PcP hi lo k x y ys) ∧ Aside0 (Kd.R (Kd.int .i64) 3 wr w.heap.size (fun _ => True) (.slice (some ⟨g, 0, none⟩) 8 cap) ys) ∧ Aside0 (Below w.heap.size w wr)) (fun _ _ i _ => (intOf i + 1).toNat)
  case atStart => exact ⟨3, hi, lo, List.replicate 8 0, rfl, rfl, rfl, by omega, by omega, by simp, ⟨.inl ⟨rfl, rfl, rfl, rfl⟩⟩, ⟨HO3.out⟩, ⟨HB3.out⟩⟩
  case round =>
    obtain ⟨k, x, y, ys, rfl, rfl, rfl, _, _, h8, hp, HO, hbw⟩ := hrel
    have hw3 : w.heap.size ≤ wr.heap.size := hbw.out.size
    rcases hp.out with ⟨rfl, rfl, rfl, rfl⟩ | ⟨rfl, rfl, rfl, rfl⟩ | ⟨rfl, rfl, rfl, rfl⟩ | ⟨rfl, rfl, rfl, rfl⟩ | ⟨rfl, rfl⟩
    · obtain ⟨c1, f1⟩ := cell8 h8 HO.out 3 (by omega)
      have h9 : ([0, 0, 0, 0, 0, 0, 0, 0] : List Int).length = 8 := rfl
      have hO2 := put8 h8 HO.out 3 (x % 65536)
      have h10 : (([0, 0, 0, 0, 0, 0, 0, 0] : List Int).set 3 (x % 65536)).length = 8 := rfl
      obtain ⟨c2, f2⟩ := cell8 h10 hO2 7 (by omega)
      have HO2 := Aside0.mk (put8 h10 hO2 7 (y % 65536))
      have HP2 := Aside0.mk (show PcP x y (2) (x / 65536) (y / 65536) ((([0, 0, 0, 0, 0, 0, 0, 0]).set 3 (x % 65536)).set 7 (y % 65536)) from .inr (.inl ⟨rfl, by omega, by omega, rfl⟩))
      clear hO2 hp h9
      go_wp2_with fail
      exact ⟨⟨2, _, _, _, rfl, rfl, rfl, by omega, by omega, rfl, ⟨HP2.out⟩, ⟨HO2.out⟩, ⟨(hbw.out.setCell (by show w.heap.size ≤ g; omega) _).setCell (by show w.heap.size ≤ g; omega) _⟩⟩, by simp [intOf]⟩
    · obtain ⟨c1, f1⟩ := cell8 h8 HO.out 2 (by omega)
      have h9 : ([0, 0, 0, hi % 65536, 0, 0, 0, lo % 65536] : List Int).length = 8 := rfl
      have hO2 := put8 h8 HO.out 2 (hi / 65536 % 65536)
      have h10 : (([0, 0, 0, hi % 65536, 0, 0, 0, lo % 65536] : List Int).set 2 (hi / 65536 % 65536)).length = 8 := rfl
      obtain ⟨c2, f2⟩ := cell8 h10 hO2 6 (by omega)
      have HO2 := Aside0.mk (put8 h10 hO2 6 (lo / 65536 % 65536))
      have HP2 := Aside0.mk (show PcP hi lo (1) (hi / 65536 / 65536) (lo / 65536 / 65536) ((([0, 0, 0, hi % 65536, 0, 0, 0, lo % 65536]).set 2 (hi / 65536 % 65536)).set 6 (lo / 65536 % 65536)) from .inr (.inr (.inl ⟨rfl, by omega, by omega, rfl⟩)))
      clear hO2 hp h9
      go_wp2_with fail
      exact ⟨⟨1, _, _, _, rfl, rfl, rfl, by omega, by omega, rfl, ⟨HP2.out⟩, ⟨HO2.out⟩, ⟨(hbw.out.setCell (by show w.heap.size ≤ g; omega) _).setCell (by show w.heap.size ≤ g; omega) _⟩⟩, by simp [intOf]⟩
    · obtain ⟨c1, f1⟩ := cell8 h8 HO.out 1 (by omega)
      have h9 : ([0, 0, hi / 65536 % 65536, hi % 65536, 0, 0, lo / 65536 % 65536, lo % 65536] : List Int).length = 8 := rfl
      have hO2 := put8 h8 HO.out 1 (hi / 4294967296 % 65536)
      have h10 : (([0, 0, hi / 65536 % 65536, hi % 65536, 0, 0, lo / 65536 % 65536, lo % 65536] : List Int).set 1 (hi / 4294967296 % 65536)).length = 8 := rfl
      obtain ⟨c2, f2⟩ := cell8 h10 hO2 5 (by omega)
      have HO2 := Aside0.mk (put8 h10 hO2 5 (lo / 4294967296 % 65536))
      have HP2 := Aside0.mk (show PcP hi lo (0) (hi / 4294967296 / 65536) (lo / 4294967296 / 65536) ((([0, 0, hi / 65536 % 65536, hi % 65536, 0, 0, lo / 65536 % 65536, lo % 65536]).set 1 (hi / 4294967296 % 65536)).set 5 (lo / 4294967296 % 65536)) from .inr (.inr (.inr (.inl ⟨rfl, by omega, by omega, rfl⟩))))
      clear hO2 hp h9
      go_wp2_with fail
      exact ⟨⟨0, _, _, _, rfl, rfl, rfl, by omega, by omega, rfl, ⟨HP2.out⟩, ⟨HO2.out⟩, ⟨(hbw.out.setCell (by show w.heap.size ≤ g; omega) _).setCell (by show w.heap.size ≤ g; omega) _⟩⟩, by simp [intOf]⟩
    · obtain ⟨c1, f1⟩ := cell8 h8 HO.out 0 (by omega)
      have h9 : ([0, hi / 4294967296 % 65536, hi / 65536 % 65536, hi % 65536, 0, lo / 4294967296 % 65536, lo / 65536 % 65536, lo % 65536] : List Int).length = 8 := rfl
      have hO2 := put8 h8 HO.out 0 (hi / 281474976710656 % 65536)
      have h10 : (([0, hi / 4294967296 % 65536, hi / 65536 % 65536, hi % 65536, 0, lo / 4294967296 % 65536, lo / 65536 % 65536, lo % 65536] : List Int).set 0 (hi / 281474976710656 % 65536)).length = 8 := rfl
      obtain ⟨c2, f2⟩ := cell8 h10 hO2 4 (by omega)
      have HO2 := Aside0.mk (put8 h10 hO2 4 (lo / 281474976710656 % 65536))
      have HP2 := Aside0.mk (show PcP hi lo (-1) (hi / 281474976710656 / 65536) (lo / 281474976710656 / 65536) ((([0, hi / 4294967296 % 65536, hi / 65536 % 65536, hi % 65536, 0, lo / 4294967296 % 65536, lo / 65536 % 65536, lo % 65536]).set 0 (hi / 281474976710656 % 65536)).set 4 (lo / 281474976710656 % 65536)) from .inr (.inr (.inr (.inr ⟨rfl, by rw [piecesOf, show hi / 281474976710656 % 65536 = hi / 281474976710656 by omega, show lo / 281474976710656 % 65536 = lo / 281474976710656 by omega]; rfl⟩))))
      clear hO2 hp h9
      go_wp2_with fail
      exact ⟨⟨-1, _, _, _, rfl, rfl, rfl, by omega, by omega, rfl, ⟨HP2.out⟩, ⟨HO2.out⟩, ⟨(hbw.out.setCell (by show w.heap.size ≤ g; omega) _).setCell (by show w.heap.size ≤ g; omega) _⟩⟩, by simp [intOf]⟩
    · go_wp2_with fail
      go_ret
      exact ⟨g, cap, rfl, hcap3, hg3, HO.out, hbw.out⟩

set_option maxHeartbeats 4000000 in
theorem rjoin5_calls (xs : List Int) (n : Nat) (hn : n = xs.length) (A : Option Addr) (c : Nat) (w : World) (h8 : n ≤ 8) (hb : ∀ x ∈ xs, 0 ≤ x ∧ x ≤ 65535) (hcell : ∀ j, j < n → ∃ ad, A = some ad ∧ w.cell? (ad.add j) = some (.int .i64 (xs.getD j 0))) :
    Calls Tryz.prog 119 #[.slice A n c] w fun e w' => e = .returned (.string ⟨(wordsL xs).toArray⟩) ∧ w' = w := by
  have HC := Aside0.mk hcell
  have HBd := Aside0.mk hb
  have HN := Lib.hid hn
  clear hcell hb hn
  go_enter Tryz.func119, Tryz.ntmps119
  go_wp2_with fail
  go_loop [3, 4] (fun sv i => ∃ (j : Nat) (z : ByteArray), i = .int .i64 j ∧ sv = .string z ∧ j ≤ n ∧ z.size ≤ 20 * j ∧ Aside0 (z.data.toList = wordsL (xs.take j))) (fun _ i => n - (intOf i).toNat)
  case atStart => exact ⟨0, ⟨#[]⟩, rfl, rfl, by omega, by decide, ⟨rfl⟩⟩
  case round =>
    obtain ⟨j, z, rfl, rfl, hj, hz, hw⟩ := hrel
    by_cases hlt : j < n
    · obtain ⟨ad, rfl, hcj⟩ := HC.out j hlt
      have hjl : j < xs.length := by rw [← HN.out]; exact hlt
      have hx : 0 ≤ xs.getD j 0 ∧ xs.getD j 0 ≤ 65535 := by
        rw [List.getD_eq_getElem?_getD, List.getElem?_eq_getElem hjl]
        exact HBd.out _ (List.getElem_mem _)
      have ht : xs.take (j + 1) = xs.take j ++ [xs.getD j 0] := by
        rw [List.take_succ_eq_append_getElem hjl, List.getD_eq_getElem?_getD, List.getElem?_eq_getElem hjl]
        rfl
      have hne : 0 < j → xs.take j ≠ [] := fun h0 h1 => by
        have := congrArg List.length h1
        rw [List.length_take, List.length_nil] at this
        omega
      have zx := hexB_size (xs.getD j 0) hx.2
      have HT := Aside0.mk ht
      have HNe := Aside0.mk hne
      generalize xs.getD j 0 = x at hcj hx zx HT
      clear ht hne hjl
      rcases Nat.eq_zero_or_pos j with h0 | h0
      · have HW := Lib.hid (show wordsL (xs.take (j + 1)) = (z ++ hexB x).data.toList by
          subst h0
          rw [HT.out, List.take_zero, List.nil_append, words_one]
          have : z.data.toList = [] := hw.out
          simp [this, hexB])
        have hz2 : (z ++ hexB x).size ≤ 20 * (j + 1) := by rw [ByteArray.size_append]; omega
        have h00 : ¬ (0 : Int) < (j : Int) := by omega
        clear h0
        go_wp2_with fail
        refine (rhexI_calls x hx.1 hx.2 _).mono ?_
        rintro e w1 ⟨rfl, rfl⟩
        go_wp2_with fail
        exact ⟨⟨j + 1, z ++ hexB x, by go_num, rfl, by omega, hz2, ⟨HW.out.symm⟩⟩, by simp [intOf]; omega⟩
      · have HW := Lib.hid (show wordsL (xs.take (j + 1)) = (z ++ ⟨#[58]⟩ ++ hexB x).data.toList by
          rw [HT.out, words_snoc _ _ (HNe.out h0), ← hw.out]
          simp [hexB])
        have hz1 : (z ++ (⟨#[58]⟩ : ByteArray)).size ≤ 20 * j + 1 := by
          rw [ByteArray.size_append]
          have : (⟨#[58]⟩ : ByteArray).size = 1 := rfl
          omega
        have hz2 : (z ++ ⟨#[58]⟩ ++ hexB x).size ≤ 20 * (j + 1) := by rw [ByteArray.size_append]; omega
        have hs1 : (⟨#[58]⟩ : ByteArray).size = 1 := rfl
        go_wp2_with fail
        refine (rhexI_calls x hx.1 hx.2 _).mono ?_
        rintro e w1 ⟨rfl, rfl⟩
        go_wp2_with fail
        exact ⟨⟨j + 1, z ++ ⟨#[58]⟩ ++ hexB x, by go_num, rfl, by omega, hz2, ⟨HW.out.symm⟩⟩, by simp [intOf]; omega⟩
    · have hjn : j = xs.length := by rw [← HN.out]; omega
      have HW := Lib.hid (show z = ⟨(wordsL xs).toArray⟩ by
        have := hw.out
        rw [hjn, List.take_length] at this
        exact bytes_of z _ this)
      clear hjn
      go_wp2_with fail
      go_ret
      exact ⟨ret_string HW.out, rfl⟩

set_option maxHeartbeats 2000000 in
theorem rzeros5_calls (xs : List Int) (f n : Nat) (ad : Addr) (c : Nat) (w : World) (h8 : xs.length = 8) (hfn : f + n ≤ 8) (hcell : ∀ j, j < 8 → w.cell? (ad.add j) = some (.int .i64 (xs.getD j 0))) :
    Calls Tryz.prog 118 #[.slice (some ad) 8 c, .int .i64 f, .int .i64 n] w fun e w' => e = .returned (.bool (decide (n ≤ zrun (xs.drop f)))) ∧ w' = w := by
  have HC := Aside0.mk hcell
  have H8 := Lib.hid h8
  clear hcell h8
  go_enter Tryz.func118, Tryz.ntmps118
  go_wp2_with fail
  go_loop [7] (fun i => ∃ j : Nat, i = .int .i64 j ∧ j ≤ n ∧ Aside0 (j ≤ zrun (xs.drop f))) (fun i => n - (intOf i).toNat)
  case atStart => exact ⟨0, rfl, by omega, ⟨Nat.zero_le _⟩⟩
  case round =>
    obtain ⟨j, rfl, hj, hz⟩ := hrel
    by_cases hlt : j < n
    · obtain ⟨m, hm⟩ : ∃ m : Nat, m = f + j := ⟨_, rfl⟩
      have hmi : (f : Int) + (j : Int) = (m : Int) := by omega
      have hm8 : m < 8 := by omega
      have hcm := HC.out m hm8
      have on := zrun_on xs j f hz.out (by rw [H8.out]; omega)
      rw [← hm] at on
      have ON := Aside0.mk on
      generalize xs.getD m 0 = x at hcm ON
      clear on hm
      by_cases hx : x = 0
      · subst hx
        go_wp2_with fail
        exact ⟨⟨j + 1, by go_num, by omega, ⟨ON.out.1 rfl⟩⟩, by simp [intOf]; omega⟩
      · have HF := Lib.hid (show false = decide (n ≤ zrun (xs.drop f)) by rw [ON.out.2 hx]; symm; rw [decide_eq_false_iff_not]; omega)
        go_wp2_with fail
        go_ret
        exact ⟨ret_bool HF.out, rfl⟩
    · have HF := Lib.hid (show true = decide (n ≤ zrun (xs.drop f)) by symm; rw [decide_eq_true_eq]; have := hz.out; omega)
      go_wp2_with fail
      go_ret
      exact ⟨ret_bool HF.out, rfl⟩
end Go.Proofs.YtplehdcnnaamkaaGreatDoor

/- The document's Text of an address of eight pieces, walked. -/
namespace Go.Proofs.YtplehdcnnaamkaaGreatDoor
open Go.RowKit Go.Proofs.YtplehdcnnaamkaaGreatDoorW.PrintWords Go.Proofs.YtplehdcnnaamkaaGreatDoorW.PrintMore

set_option maxHeartbeats 4000000 in
set_option maxRecDepth 100000 in
theorem rText5_calls (hi lo : Int) (h0 : 0 ≤ hi ∧ hi < 18446744073709551616) (h1 : 0 ≤ lo ∧ lo < 18446744073709551616) (w : World) :
    Calls Tryz.prog 74 #[.int .u64 hi, .int .u64 lo] w fun e w' => e = .returned (.string ⟨(textL6 (piecesOf hi lo)).toArray⟩) ∧ Below w.heap.size w w' := by
  go_enter Tryz.func74, Tryz.ntmps74
  go_wp2_with fail
  refine (rPieces5_calls hi lo h0 h1 _).mono ?_
  rintro e w1 ⟨g, cap, rfl, hcap, hg, hR, b1⟩
  have hl : (piecesOf hi lo).length = 8 := rfl
  have hb := pieces_bd hi lo h0 h1
  generalize hPe : piecesOf hi lo = P at hR hl hb ⊢
  have HPe := Lib.hid hPe
  clear hPe
  have hcell : ∀ j, j < 8 → w1.cell? ((⟨g, 0, none⟩ : Addr).add j) = some (.int .i64 (P.getD j 0)) := fun j hj => by
    rw [add_at, Nat.zero_add]
    exact (cell8 hl hR j hj).1
  have HC := Aside0.mk hcell
  have HBd := Aside0.mk hb
  have HL := Lib.hid hl
  have B1 := Aside0.mk b1
  clear hR hcell hb hl b1
  go_wp2_with fail
  go_loop [6] (fun i => ∃ n : Nat, i = .int .i64 n ∧ 1 ≤ n ∧ n ≤ 8 ∧ Aside0 (∀ k f, n < k → k ≤ 8 → f + k ≤ 8 → zrun (P.drop f) < k)) (fun i => (intOf i).toNat)
  case atStart => exact ⟨8, rfl, by omega, by omega, ⟨fun k f h1 h2 => by omega⟩⟩
  case round =>
    obtain ⟨n, rfl, hn1, hn8, hup⟩ := hrel
    by_cases h2 : 2 ≤ n
    · go_wp2_with fail
      go_loop [7] (fun i => ∃ f : Nat, i = .int .i64 f ∧ f + n ≤ 9 ∧ Aside0 (∀ q, q < f → zrun (P.drop q) < n)) (fun i => 9 - (intOf i).toNat)
      case atStart => exact ⟨0, rfl, by omega, ⟨fun q hq => by omega⟩⟩
      case round =>
        obtain ⟨f, rfl, hf, hlow⟩ := hrel
        obtain ⟨m, hm⟩ : ∃ m : Nat, m = f + n := ⟨_, rfl⟩
        have hmi : (f : Int) + (n : Int) = (m : Int) := by omega
        have HM := Lib.hid hm
        have HF := Lib.hid hf
        have hf8 : f ≤ 8 := by omega
        by_cases hm8 : m ≤ 8
        · have hle := Lib.hid (show f + n ≤ 8 by omega)
          clear hm hf
          go_wp2_with fail
          refine (rzeros5_calls P f n _ cap _ HL.out hle.out HC.out).mono ?_
          rintro e w2 ⟨rfl, rfl⟩
          by_cases hz : n ≤ zrun (P.drop f)
          · rw [decide_eq_true hz]
            have HT := Lib.hid (show (⟨(wordsL (P.take f)).toArray⟩ : ByteArray) ++ ⟨#[58, 58]⟩ ++ ⟨(wordsL (P.drop m)).toArray⟩ = ⟨(textL6 (piecesOf hi lo)).toArray⟩ by
              have hlg := longF_is P HL.out f n h2 hz hup.out hlow.out
              rw [HPe.out, textL6, hlg, if_neg (by omega), HM.out]
              apply ByteArray.ext
              simp)
            have hW : ∀ j, j < 8 → w2.drew.cell? ((⟨g, 0, none⟩ : Addr).add j) = some (.int .i64 (P.getD j 0)) := HC.out
            have J1 := Aside0.mk (rjoin5_calls (P.take f) f (by rw [List.length_take, HL.out]; omega) (some ⟨g, 0, none⟩) cap w2.drew hf8 (fun x hx => HBd.out x (List.mem_of_mem_take hx)) (fun j hj => ⟨_, rfl, (hW j (by omega)).trans (by rw [List.getD_eq_getElem?_getD, List.getD_eq_getElem?_getD, List.getElem?_take_of_lt hj])⟩))
            have J2 := Aside0.mk (fun (A : Option Addr) (c : Nat) (hA : m < 8 → A = some ⟨g, m, none⟩) => rjoin5_calls (P.drop m) (8 - m) (by rw [List.length_drop, HL.out]) A c w2.drew (by omega) (fun x hx => HBd.out x (List.mem_of_mem_drop hx)) (fun j hj => ⟨_, hA (by omega), by rw [add_at, show (P.drop m).getD j 0 = P.getD (m + j) 0 by rw [List.getD_eq_getElem?_getD, List.getD_eq_getElem?_getD, List.getElem?_drop]]; have := hW (m + j) (by omega); rwa [add_at, Nat.zero_add] at this⟩))
            clear hW
            have z1 : (⟨(wordsL (P.take f)).toArray⟩ : ByteArray).size ≤ 200 := by
              have := wordsL_len (P.take f) (fun x hx => (HBd.out x (List.mem_of_mem_take hx)).2)
              rw [List.length_take, HL.out] at this
              show (wordsL (P.take f)).toArray.size ≤ 200
              simp
              omega
            have z2 : (⟨(wordsL (P.drop m)).toArray⟩ : ByteArray).size ≤ 200 := by
              have := wordsL_len (P.drop m) (fun x hx => (HBd.out x (List.mem_of_mem_drop hx)).2)
              rw [List.length_drop, HL.out] at this
              show (wordsL (P.drop m)).toArray.size ≤ 200
              simp
              omega
            generalize (⟨(wordsL (P.take f)).toArray⟩ : ByteArray) = b1 at HT J1 z1
            generalize (⟨(wordsL (P.drop m)).toArray⟩ : ByteArray) = b2 at HT J2 z2
            have zz : (b1 ++ (⟨#[58, 58]⟩ : ByteArray)).size ≤ 202 := by
              rw [ByteArray.size_append]
              have : (⟨#[58, 58]⟩ : ByteArray).size = 2 := rfl
              omega
            have hmw : IntKind.i64.wrap ((f : Int) + (n : Int)) = (m : Int) := by
              rw [i64_small' _ (by omega) (by omega)]
              omega
            have hm0 : (0 : Int) ≤ (m : Int) := by omega
            have hm8i : (m : Int) ≤ 8 := by omega
            have hf0 : (0 : Int) ≤ (f : Int) := by omega
            have hf8i : (f : Int) ≤ 8 := by omega
            have hfc : f ≤ cap := by omega
            have hfci : (f : Int) ≤ (cap : Int) := by omega
            have hmc : m ≤ cap := by omega
            have hmci : (m : Int) ≤ (cap : Int) := by omega
            have hcapi : (8 : Int) ≤ (cap : Int) := by omega
            clear hz hmi
            by_cases hm7 : m < 8
            · have hne : ¬ cap = m := by omega
              go_wp2_with fail
              go_region_with (first
                | (go_at_call_of 119 (Value.slice (some ⟨g, 0, none⟩) f cap); refine J1.out.mono ?_; rintro e w4 ⟨rfl, rfl⟩)
                | (go_at_call 119; refine (J2.out _ _ (fun _ => rfl)).mono ?_; rintro e w5 ⟨rfl, rfl⟩))
              all_goals
                go_wp2_with fail
                go_ret
                refine ⟨?_, ?_⟩
                · exact congrArg (fun s => Ending.returned (.string s)) HT.out
                · exact B1.out.drew
            · have J3 := Aside0.mk (fun (A : Option Addr) (c : Nat) => J2.out A c (fun h => absurd h hm7))
              clear J2
              obtain rfl : m = 8 := by omega
              rw [show 8 - 8 = 0 from rfl] at J3
              clear hm7 hm8i hm0 hm8
              rcases Nat.lt_or_ge 8 cap with hlc | hlc
              · have hne : ¬ cap = 8 := by omega
                go_wp2_with fail
                go_region_with (first
                  | (go_at_call_of 119 (Value.slice (some ⟨g, 0, none⟩) f cap); refine J1.out.mono ?_; rintro e w4 ⟨rfl, rfl⟩)
                  | (go_at_call 119; refine (J3.out _ _).mono ?_; rintro e w5 ⟨rfl, rfl⟩))
                all_goals
                  go_wp2_with fail
                  go_ret
                  refine ⟨?_, ?_⟩
                  · exact congrArg (fun s => Ending.returned (.string s)) HT.out
                  · exact B1.out.drew
              · obtain rfl : cap = 8 := by omega
                clear hcapi hmc hmci hfc hfci hlc hcap
                go_wp2_with fail
                have J4 := Aside0.mk (J3.out (some ⟨g, 0, none⟩) 0)
                clear J3
                go_region_with (first
                  | (go_at_call_of 119 (Value.slice (some ⟨g, 0, none⟩) 0 0); refine J4.out.mono ?_; rintro e w5 ⟨rfl, rfl⟩)
                  | (go_at_call_of 119 (Value.slice (some ⟨g, 0, none⟩) f 8); refine J1.out.mono ?_; rintro e w4 ⟨rfl, rfl⟩))
                all_goals
                  go_wp2_with fail
                  go_ret
                  refine ⟨?_, ?_⟩
                  · exact congrArg (fun s => Ending.returned (.string s)) HT.out
                  · exact B1.out.drew
          · rw [decide_eq_false hz]
            have HZ := Aside0.mk (show ∀ q, q < f + 1 → zrun (P.drop q) < n from fun q hq => by
              rcases Nat.lt_or_ge q f with h | h
              · exact hlow.out q h
              · have : q = f := by omega
                subst this
                omega)
            clear hz
            go_wp2_with fail
            exact ⟨⟨f + 1, by go_num, by have := HM.out; omega, ⟨HZ.out⟩⟩, by simp [intOf]; omega⟩
        · obtain ⟨n1, hn⟩ : ∃ n1 : Nat, n1 + 1 = n := ⟨n - 1, by omega⟩
          have hni : (n : Int) - 1 = (n1 : Int) := by omega
          have HU := Aside0.mk (show ∀ k f, n1 < k → k ≤ 8 → f + k ≤ 8 → zrun (P.drop f) < k from fun k q hk hk8 hqk => by
            rcases Nat.lt_or_ge n k with h | h
            · exact hup.out k q h hk8 hqk
            · have : k = n := by omega
              subst this
              exact hlow.out q (by omega))
          have HN1 := Lib.hid hn
          clear hm hf hn
          go_wp2_with fail
          exact ⟨⟨n1, by rfl, by have := HN1.out; omega, by have := HN1.out; omega, ⟨HU.out⟩⟩, by have := HN1.out; simp [intOf]; omega⟩
    · have HT := Lib.hid (show (⟨(wordsL P).toArray⟩ : ByteArray) = ⟨(textL6 (piecesOf hi lo)).toArray⟩ by
        rw [HPe.out, textL6, if_pos (longF_none P HL.out (fun k f hk hk8 hfk => hup.out k f (by omega) hk8 hfk))])
      go_wp2_with fail
      refine (rjoin5_calls P 8 HL.out.symm _ cap _ (by omega) HBd.out (fun j hj => ⟨_, rfl, HC.out j hj⟩)).mono ?_
      rintro e w2 ⟨rfl, rfl⟩
      go_wp2_with fail
      go_ret
      exact ⟨ret_string HT.out, B1.out⟩
end Go.Proofs.YtplehdcnnaamkaaGreatDoor

/- Equal lists of numbers, as the library tells it; walked. -/
namespace Go.Proofs.YtplehdcnnaamkaaGreatDoor
open Go.RowKit Go.Proofs.YtplehdcnnaamkaaGreatDoorW.PrintWords Go.Proofs.YtplehdcnnaamkaaGreatDoorW.PrintMore

theorem C_kget {k : IntKind} {w : World} {A : Option Addr} {xs : List Int} (h : Kd.C (Kd.int k) w A xs.length xs) (j : Nat) (hj : j < xs.length) : ∃ ad, A = some ad ∧ w.cell? (ad.add j) = some (.int k (xs.getD j 0)) := by
  obtain ⟨ad, rfl⟩ := C_some h (by omega)
  refine ⟨ad, rfl, ?_⟩
  rw [C_int_at h j hj, List.getD_eq_getElem?_getD, List.getElem?_eq_getElem hj]
  rfl
theorem take_eq_next (xs ys : List Int) (j : Nat) (hx : j < xs.length) (hy : j < ys.length) (h : xs.take j = ys.take j) (he : xs.getD j 0 = ys.getD j 0) : xs.take (j + 1) = ys.take (j + 1) := by
  rw [List.getD_eq_getElem?_getD, List.getD_eq_getElem?_getD, List.getElem?_eq_getElem hx, List.getElem?_eq_getElem hy] at he
  rw [List.take_succ_eq_append_getElem hx, List.take_succ_eq_append_getElem hy, h, show xs[j] = ys[j] from he]
theorem take_ne (xs ys : List Int) (j : Nat) (he : xs.getD j 0 ≠ ys.getD j 0) : xs ≠ ys := fun h => he (by rw [h])
set_option maxHeartbeats 2000000 in
theorem EqualF_calls (xs ys : List Int) (n m : Nat) (hn : n = xs.length) (hm : m = ys.length) (A B : Option Addr) (c c' : Nat) (w : World) (hnm : n ≤ 1000000) (hA : ∀ j, j < xs.length → ∃ ad, A = some ad ∧ w.cell? (ad.add j) = some (.int .u32 (xs.getD j 0))) (hB : ∀ j, j < ys.length → ∃ ad, B = some ad ∧ w.cell? (ad.add j) = some (.int .u32 (ys.getD j 0))) :
    Calls Tryz.prog 140 #[.slice A n c, .slice B m c'] w fun e w' => e = .returned (.bool (decide (xs = ys))) ∧ Below w.heap.size w w' := by
  have HA := Aside0.mk hA
  have HB := Aside0.mk hB
  have HN := Lib.hid hn
  have HM := Lib.hid hm
  by_cases hd : n = m
  · subst hd
    clear hA hB hn hm
    go_enter Tryz.func140, Tryz.ntmps140
    go_wp2_with fail
    go_loopw [13] (fun i wr => ∃ j : Nat, i = .int .i64 j ∧ j ≤ n ∧ Aside0 (xs.take j = ys.take j) ∧ Aside0 (Below w.heap.size w wr)) (fun i _ => n - (intOf i).toNat)
    case atStart => exact ⟨0, rfl, by omega, ⟨rfl⟩, ⟨Below.refl _ _⟩⟩
    case round =>
      obtain ⟨j, rfl, hj, ht, hbw⟩ := hrel
      by_cases hlt : j < n
      · have hjx : j < xs.length := by rw [← HN.out]; exact hlt
        have hjy : j < ys.length := by rw [← HM.out]; exact hlt
        obtain ⟨ad, rfl, cx0⟩ := HA.out j hjx
        obtain ⟨bd, rfl, cy0⟩ := HB.out j hjy
        have cx := (hbw.out.cell (cell_blk cx0)).trans cx0
        have cy := (hbw.out.cell (cell_blk cy0)).trans cy0
        have hj0 : (0 : Int) ≤ (j : Int) := by omega
        have hji : (j : Int) < (n : Int) := by omega
        by_cases he : xs.getD j 0 = ys.getD j 0
        · have HT := Lib.hid (take_eq_next xs ys j hjx hjy ht.out he)
          rw [he] at cx
          clear he cx0 cy0 hjx hjy
          generalize ys.getD j 0 = y at cx cy
          go_wp2_with fail
          go_region
          all_goals
            go_wp2_with fail
            exact ⟨⟨j + 1, by go_num, by omega, ⟨HT.out⟩, ⟨hbw.out.drew⟩⟩, by simp [intOf]; omega⟩
        · have HF := Lib.hid (show false = decide (xs = ys) from (decide_eq_false (take_ne xs ys j he)).symm)
          have hb : (xs.getD j 0 == ys.getD j 0) = false := by simpa using he
          have hb' : (xs.getD j 0 != ys.getD j 0) = true := by simpa using he
          clear cx0 cy0 hjx hjy
          generalize ys.getD j 0 = y at cx cy hb hb' he
          generalize xs.getD j 0 = x at cx hb hb' he
          go_wp2_with fail
          go_region
          all_goals
            go_wp2_with fail
            go_ret
            exact ⟨ret_bool HF.out, hbw.out.drew⟩
      · have HF := Lib.hid (show true = decide (xs = ys) by
          have := ht.out
          rw [List.take_of_length_le (by rw [← HN.out]; omega), List.take_of_length_le (by rw [← HM.out]; omega)] at this
          exact (decide_eq_true this).symm)
        go_wp2_with fail
        go_ret
        exact ⟨ret_bool HF.out, hbw.out⟩
  · have HF := Lib.hid (show false = decide (xs = ys) from (decide_eq_false (fun h => hd (by rw [hn, hm, h]))).symm)
    clear hA hB hn hm
    go_enter Tryz.func140, Tryz.ntmps140
    go_wp2_with fail
    go_ret
    exact ⟨ret_bool HF.out, Below.refl _ _⟩
end Go.Proofs.YtplehdcnnaamkaaGreatDoor

/- What an address embeds, walked. -/
namespace Go.Proofs.YtplehdcnnaamkaaGreatDoor
open Go.RowKit Go.Proofs.YtplehdcnnaamkaaGreatDoorW.PrintWords Go.Proofs.YtplehdcnnaamkaaGreatDoorW.PrintMore

def in1 (hi lo : Int) : Bool := decide ((hi = 0 ∧ lo / 4294967296 = 65535) ∨ (hi = 0 ∧ lo / 4294967296 = 0 ∧ 1 < lo % 4294967296) ∨ (hi = 28428538856079360 ∧ lo / 4294967296 = 0))
def in2 (hi : Int) : Bool := decide (hi / 281474976710656 = 8194)
def in3 (hi : Int) : Bool := decide (hi / 4294967296 = 536936448)
def in4 (lo : Int) : Bool := decide (lo / 4294967296 = 24318 ∨ lo / 4294967296 = 33578750)
def inL1 (hi lo : Int) : List Int := bif in1 hi lo then [lo % 4294967296] else []
def inL2 (hi lo : Int) : List Int := inL1 hi lo ++ (bif in2 hi then [hi / 65536 % 4294967296] else [])
def inL3 (hi lo : Int) : List Int := inL2 hi lo ++ (bif in3 hi then [hi % 4294967296, 4294967295 - lo % 4294967296] else [])
/-- What an address of eight pieces embeds. -/
def inL4 (hi lo : Int) : List Int := inL3 hi lo ++ (bif in4 lo then [lo % 4294967296] else [])
theorem info_four : (Tryz.prog.info? 111).map (fun i => (i.zero, i.size, i.bytes)) = some (some (.int .u32 0), 1, 4) := by kernel_rfl

theorem inL1_len (hi lo : Int) : (inL1 hi lo).length ≤ 1 := by
  rw [inL1]
  cases in1 hi lo <;> simp
theorem inL2_len (hi lo : Int) : (inL2 hi lo).length ≤ 2 := by
  have := inL1_len hi lo
  rw [inL2, List.length_append]
  cases in2 hi <;> simp <;> omega
theorem inL3_len (hi lo : Int) : (inL3 hi lo).length ≤ 4 := by
  have := inL2_len hi lo
  rw [inL3, List.length_append]
  cases in3 hi <;> simp <;> omega
set_option maxHeartbeats 8000000 in
set_option maxRecDepth 100000 in
theorem Inner6_calls (hi lo : Int) (_h0 : 0 ≤ hi ∧ hi < 18446744073709551616) (h1 : 0 ≤ lo ∧ lo < 18446744073709551616) (w : World) :
    Calls Tryz.prog 141 #[.iface 34 (.agg #[.int .u64 hi, .int .u64 lo])] w fun e w' => ∃ v, e = .returned v ∧ Kd.R (Kd.int .u32) 111 w' w.heap.size (fun _ => True) v (inL4 hi lo) ∧ Below w.heap.size w w' := by
  have q6 := ta_66
  go_enter Tryz.func141, Tryz.ntmps141
  go_upto_region 5 with (fail)
  obtain ⟨W1, hW1⟩ : ∃ W1, W1 = w.alloc (.cells #[.int .u64 hi, .int .u64 lo] 34) := ⟨_, rfl⟩
  rw [← hW1]
  have hg : W1.heap[w.heap.size]? = some (.cells #[.int .u64 hi, .int .u64 lo] 34 (0, 0)) := by rw [hW1]; exact heap_alloc_new' _ _ _ rfl
  have hlt : w.heap.size < W1.heap.size := by rw [hW1]; simp
  have B1 : Aside0 (Below w.heap.size w W1) := ⟨by rw [hW1]; exact (Below.refl _ _).alloc (Nat.le_refl _) _⟩
  obtain ⟨g, hgs⟩ : ∃ g, g = w.heap.size := ⟨_, rfl⟩
  rw [← hgs] at hg hlt ⊢
  have HGS := Lib.hid hgs
  have HG := Aside0.mk hg
  obtain ⟨c0, _⟩ := heap_cell (j := 0) hg rfl
  obtain ⟨c1, _⟩ := heap_cell (j := 1) hg rfl
  clear hg hgs hW1
  go_region
  obtain ⟨w1, hw1⟩ : ∃ w1, w1 = W1.drew := ⟨_, rfl⟩
  rw [← hw1]
  have hg2 : w1.heap[g]? = some (.cells #[.int .u64 hi, .int .u64 lo] 34 (0, 0)) := by rw [hw1]; exact HG.out
  have B2 : Aside0 (Below w.heap.size w w1) := ⟨by rw [hw1]; exact B1.out.drew⟩
  have hlt2 : g < w1.heap.size := by rw [hw1]; exact hlt
  have HG2 := Aside0.mk hg2
  clear hw1 HG B1 hlt c0 c1
  obtain ⟨c0, _⟩ := heap_cell (j := 0) hg2 rfl
  obtain ⟨c1, _⟩ := heap_cell (j := 1) hg2 rfl
  clear hg2
  have hlow : 0 ≤ lo % 4294967296 ∧ lo % 4294967296 < 4294967296 := by omega
  have htop : 0 ≤ lo / 4294967296 ∧ lo / 4294967296 < 4294967296 := by omega
  obtain ⟨low, hlw⟩ : ∃ l, l = lo % 4294967296 := ⟨_, rfl⟩
  obtain ⟨top, htp⟩ : ∃ l, l = lo / 4294967296 := ⟨_, rfl⟩
  rw [← hlw] at hlow ⊢
  rw [← htp] at htop ⊢
  have HLW := Lib.hid hlw
  have HTP := Lib.hid htp
  clear hlw htp
  go_upto_region 6 with (fail)
  go_cut [49] from 8 (fun s wx => ∃ c, s = .bool c ∧ Aside0 (c = in1 hi lo) ∧ w1 = wx)
  case first =>
    by_cases a1 : hi = 0
    · have b1 : (hi == 0) = true := by simpa using a1
      have b5 : (hi == 28428538856079360) = false := by rw [beq_eq_false_iff_ne]; omega
      have A1 := Lib.hid a1
      clear a1
      by_cases a2 : top = 65535
      · have b2 : (top == 65535) = true := by simpa using a2
        have A1 := Lib.hid (And.intro A1.out a2)
        clear a2
        have HI := Lib.hid (show in1 hi lo = true from decide_eq_true (by have := HLW.out; have := HTP.out; have := A1.out; omega))
        go_wp2_with fail
        go_meet
        case rel => exact ⟨_, rfl, ⟨HI.out.symm⟩, rfl⟩
      · have b2 : (top == 65535) = false := by simpa using a2
        by_cases a3 : top = 0
        · have b3 : (top == 0) = true := by simpa using a3
          have A1 := Lib.hid (And.intro A1.out (And.intro a2 a3))
          clear a2 a3
          by_cases a4 : 1 < low
          · have A1 := Lib.hid (And.intro A1.out a4)
            have HI := Lib.hid (show in1 hi lo = true from decide_eq_true (by have := HLW.out; have := HTP.out; have := A1.out; omega))
            go_wp2_with fail
            go_meet
            case rel => exact ⟨_, rfl, ⟨HI.out.symm⟩, rfl⟩
          · have A1 := Lib.hid (And.intro A1.out a4)
            have HI := Lib.hid (show in1 hi lo = false from decide_eq_false (by have := HLW.out; have := HTP.out; have := A1.out; omega))
            go_wp2_with fail
            go_meet
            case rel => exact ⟨_, rfl, ⟨HI.out.symm⟩, rfl⟩
        · have b3 : (top == 0) = false := by simpa using a3
          have A1 := Lib.hid (And.intro A1.out (And.intro a2 a3))
          clear a2 a3
          have HI := Lib.hid (show in1 hi lo = false from decide_eq_false (by have := HLW.out; have := HTP.out; have := A1.out; omega))
          go_wp2_with fail
          go_meet
          case rel => exact ⟨_, rfl, ⟨HI.out.symm⟩, rfl⟩
    · have b1 : (hi == 0) = false := by simpa using a1
      by_cases a5 : hi = 28428538856079360
      · have b5 : (hi == 28428538856079360) = true := by simpa using a5
        have A0 := Lib.hid (And.intro a1 a5)
        clear a1 a5
        by_cases a3 : top = 0
        · have b3 : (top == 0) = true := by simpa using a3
          have A1 := Lib.hid (And.intro A0.out a3)
          clear a3
          have HI := Lib.hid (show in1 hi lo = true from decide_eq_true (by have := HLW.out; have := HTP.out; have := A1.out; omega))
          go_wp2_with fail
          go_meet
          case rel => exact ⟨_, rfl, ⟨HI.out.symm⟩, rfl⟩
        · have b3 : (top == 0) = false := by simpa using a3
          have A1 := Lib.hid (And.intro A0.out a3)
          clear a3
          have HI := Lib.hid (show in1 hi lo = false from decide_eq_false (by have := HLW.out; have := HTP.out; have := A1.out; omega))
          go_wp2_with fail
          go_meet
          case rel => exact ⟨_, rfl, ⟨HI.out.symm⟩, rfl⟩
      · have b5 : (hi == 28428538856079360) = false := by simpa using a5
        have A1 := Lib.hid (And.intro a1 a5)
        clear a1 a5
        have HI := Lib.hid (show in1 hi lo = false from decide_eq_false (by have := HLW.out; have := HTP.out; have := A1.out; omega))
        go_wp2_with fail
        go_meet
        case rel => exact ⟨_, rfl, ⟨HI.out.symm⟩, rfl⟩
  case rest =>
  obtain ⟨c, rfl, hc, rfl⟩ := hcut
  go_upto_if 49 with (fail)
  go_cut [5] from 8 (fun s wx => Kd.R (Kd.int .u32) 111 wx w1.heap.size (fun _ => True) s (inL1 hi lo) ∧ Below w1.heap.size w1 wx)
  case first =>
    cases c
    · have HL := Lib.hid (show ([] : List Int) = inL1 hi lo by rw [inL1, ← hc.out]; rfl)
      go_wp2_with fail
      go_meet
      case rel => exact ⟨by rw [← HL.out]; exact Kd.R_nil _ _ _ _ _, Below.refl _ _⟩
    · have HL := Lib.hid (show [] ++ [low] = inL1 hi lo by rw [inL1, ← hc.out, HLW.out]; rfl)
      go_wp2_with ((with_reducible refine gate_builtin (b := .append) (xs := #[.tmp 50, .tmp 52]) rfl ?_); at_builtin; refine Kd.R_append (Kd.int .u32) (w0 := w1) w1.heap.size rfl (.tmp 50) (.tmp 52) 208 111 (.int .u32 0) 4 rfl Tryz.underlying208 info_four rfl (by decide) (by omega) (.slice none 0 0) [] low [.int .u32 low] (fun _ => True) (fun _ => False) rfl rfl ?aP (fun _ hk => hk.elim) ?aF ?aO ?aB ?aS ?aL ?_; (case aP => exact rfl); (case aF => exact fun _ _ => trivial); (case aO => exact (Kd.R_nil _ _ _ _ _)); (case aB => exact (Below.refl _ _)); (case aS => omega); (case aL => (simp)); intro v1 w4 ho hb hg _)
      go_meet
      case rel => exact ⟨by rw [← HL.out]; exact ho, hb⟩
  case rest =>
  obtain ⟨hO, hb⟩ := hcut
  have hs : w1.heap.size ≤ wc.heap.size := hb.size
  have hgc := (hb.block g hlt2).trans HG2.out
  clear c0 c1
  obtain ⟨c0, _⟩ := heap_cell (j := 0) hgc rfl
  obtain ⟨c1, _⟩ := heap_cell (j := 1) hgc rfl
  have HO := Aside0.mk hO
  have HB := Aside0.mk hb
  clear hO hb hgc
  go_upto_if 57 with (fail)
  go_cut [5] from 8 (fun s wx => Kd.R (Kd.int .u32) 111 wx w1.heap.size (fun _ => True) s (inL2 hi lo) ∧ Below w1.heap.size w1 wx)
  case first =>
    rcases h : (hi / 281474976710656 == 8194) with _ | _
    · have HL := Lib.hid (show inL1 hi lo = inL2 hi lo by rw [inL2, show in2 hi = false from h]; simp)
      go_wp2_with fail
      go_meet
      case rel => exact ⟨by rw [← HL.out]; exact HO.out, HB.out⟩
    · have HL := Lib.hid (show inL1 hi lo ++ [hi / 65536 % 4294967296] = inL2 hi lo by rw [inL2, show in2 hi = true from h]; simp)
      have hln := inL1_len hi lo
      go_wp2_with ((with_reducible refine gate_builtin (b := .append) (xs := #[.tmp 58, .tmp 63]) rfl ?_); at_builtin; refine Kd.R_append (Kd.int .u32) (w0 := w1) w1.heap.size rfl (.tmp 58) (.tmp 63) 208 111 (.int .u32 0) 4 rfl Tryz.underlying208 info_four rfl (by decide) (by omega) u5 (inL1 hi lo) (hi / 65536 % 4294967296) [.int .u32 (hi / 65536 % 4294967296)] (fun _ => True) (fun _ => False) rfl rfl ?aP (fun _ hk => hk.elim) ?aF ?aO ?aB ?aS ?aL ?_; (case aP => exact rfl); (case aF => exact fun _ _ => trivial); (case aO => exact HO.out); (case aB => exact HB.out); (case aS => omega); (case aL => omega); intro v1 w4 ho hb hg _)
      go_meet
      case rel => exact ⟨by rw [← HL.out]; exact ho, hb⟩
  case rest =>
  obtain ⟨hO, hb⟩ := hcut
  have hs : w1.heap.size ≤ wc.heap.size := hb.size
  have hgc := (hb.block g hlt2).trans HG2.out
  obtain ⟨c0, _⟩ := heap_cell (j := 0) hgc rfl
  obtain ⟨c1, _⟩ := heap_cell (j := 1) hgc rfl
  have HO := Aside0.mk hO
  have HB := Aside0.mk hb
  clear hO hb hgc
  have HX := Lib.hid (show (bits BinOp.xor IntKind.u32 (if IntKind.u32.signed = true then -1 else IntKind.u32.max) low) = 4294967295 - low from xor_max32 low hlow.1 hlow.2)
  go_upto_if 68 with (fail)
  go_cut [5] from 8 (fun s wx => Kd.R (Kd.int .u32) 111 wx w1.heap.size (fun _ => True) s (inL3 hi lo) ∧ Below w1.heap.size w1 wx)
  case first =>
    rcases h : (hi / 4294967296 == 536936448) with _ | _
    · have HL := Lib.hid (show inL2 hi lo = inL3 hi lo by rw [inL3, show in3 hi = false from h]; simp)
      go_wp2_with fail
      go_meet
      case rel => exact ⟨by rw [← HL.out]; exact HO.out, HB.out⟩
    · have HL := Lib.hid (show inL2 hi lo ++ [hi % 4294967296, (bits BinOp.xor IntKind.u32 (if IntKind.u32.signed = true then -1 else IntKind.u32.max) low)] = inL3 hi lo by rw [inL3, show in3 hi = true from h, HX.out, HLW.out]; simp)
      have hln := inL2_len hi lo
      go_wp2_with ((with_reducible refine gate_builtin (b := .append) (xs := #[.tmp 69, .tmp 75]) rfl ?_); at_builtin; go_loud (refine Kd.R_append_rows (Kd.int .u32) (w0 := w1) w1.heap.size rfl (.tmp 69) (.tmp 75) 208 111 (.int .u32 0) 4 rfl Tryz.underlying208 info_four rfl (by decide) (by omega) u5 (inL2 hi lo) [hi % 4294967296, (bits BinOp.xor IntKind.u32 (if IntKind.u32.signed = true then -1 else IntKind.u32.max) low)] _ _ _ (fun _ => True) (fun _ => False) rfl rfl ?aO ?aR (fun _ _ h => h) (fun _ h => h.elim) ?aF ?aB ?aS ?aL ?_); go_loud (case aO => exact (Kd.R_below HO.out ((Below.refl _ _).alloc (Nat.le_refl _) _))); go_loud (case aR => exact (C_new .u32 wc [hi % 4294967296, (bits BinOp.xor IntKind.u32 (if IntKind.u32.signed = true then -1 else IntKind.u32.max) low)] _ (show 2 ≤ 9223372036854775807 by omega))); (case aF => exact fun _ _ => trivial); go_loud (case aB => exact (HB.out.alloc (by omega) _)); go_loud (case aS => (simp; omega)); go_loud (case aL => omega); intro v1 w4 ho hb hg _)
      go_meet
      case rel => exact ⟨by rw [← HL.out]; exact ho, hb⟩
  case rest =>
  obtain ⟨hO, hb⟩ := hcut
  have hs : w1.heap.size ≤ wc.heap.size := hb.size
  have hgc := (hb.block g hlt2).trans HG2.out
  obtain ⟨c0, _⟩ := heap_cell (j := 0) hgc rfl
  obtain ⟨c1, _⟩ := heap_cell (j := 1) hgc rfl
  have HO := Aside0.mk hO
  have HB := Aside0.mk hb
  clear hO hb hgc
  obtain ⟨tv, htv⟩ : ∃ tv, tv = top - (if top / 33554432 % 2 = 1 then 33554432 else 0) := ⟨_, rfl⟩
  have hAN := strike_25 top htop.1 htop.2
  rw [← htv] at hAN
  have HI4 := Lib.hid (show in4 lo = (tv == 24318) by
    rw [in4, ← HTP.out]
    have e : (top = 24318 ∨ top = 33578750) ↔ tv = 24318 := by
      rw [htv]
      split <;> omega
    by_cases h : tv = 24318
    · rw [decide_eq_true (e.2 h), h]
      rfl
    · rw [decide_eq_false (fun hh => h (e.1 hh)), beq_eq_false_iff_ne.2 h])
  clear htv
  go_upto_if 79 with (fail)
  go_cut [5] from 8 (fun s wx => Kd.R (Kd.int .u32) 111 wx w1.heap.size (fun _ => True) s (inL4 hi lo) ∧ Below w1.heap.size w1 wx)
  case first =>
    rcases h : (tv == 24318) with _ | _
    · have HL := Lib.hid (show inL3 hi lo = inL4 hi lo by rw [inL4, HI4.out, h]; simp)
      go_wp2_with fail
      go_meet
      case rel => exact ⟨by rw [← HL.out]; exact HO.out, HB.out⟩
    · have HL := Lib.hid (show inL3 hi lo ++ [low] = inL4 hi lo by rw [inL4, HI4.out, h, HLW.out]; simp)
      have hln := inL3_len hi lo
      go_wp2_with ((with_reducible refine gate_builtin (b := .append) (xs := #[.tmp 80, .tmp 82]) rfl ?_); at_builtin; refine Kd.R_append (Kd.int .u32) (w0 := w1) w1.heap.size rfl (.tmp 80) (.tmp 82) 208 111 (.int .u32 0) 4 rfl Tryz.underlying208 info_four rfl (by decide) (by omega) u5 (inL3 hi lo) low [.int .u32 low] (fun _ => True) (fun _ => False) rfl rfl ?aP (fun _ hk => hk.elim) ?aF ?aO ?aB ?aS ?aL ?_; (case aP => exact rfl); (case aF => exact fun _ _ => trivial); (case aO => exact HO.out); (case aB => exact HB.out); (case aS => omega); (case aL => omega); intro v1 w4 ho hb hg _)
      go_meet
      case rel => exact ⟨by rw [← HL.out]; exact ho, hb⟩
  case rest =>
  obtain ⟨hO, hb⟩ := hcut
  go_wp2_with fail
  go_ret
  exact ⟨_, rfl, Kd.R_lower hO B2.out.size, below_then B2.out B2.out.size hb⟩
end Go.Proofs.YtplehdcnnaamkaaGreatDoor

/- An address's text, of either sort: what is written is read; the document's Text, walked. -/
namespace Go.Proofs.YtplehdcnnaamkaaGreatDoor
open Go.RowKit Go.Proofs.YtplehdcnnaamkaaGreatDoorW.PrintWords Go.Proofs.YtplehdcnnaamkaaGreatDoorW.PrintMore

/-- An address's text. -/
def adT : Bool × Int × Int → ByteArray
  | (true, hi, lo) => ⟨(textL6 (piecesOf hi lo)).toArray⟩
  | (false, _, n) => fourB n.toNat
end Go.Proofs.YtplehdcnnaamkaaGreatDoor

/- Texts of addresses, and equal lists of texts, walked. -/
namespace Go.Proofs.YtplehdcnnaamkaaGreatDoor
open Go.RowKit Go.Proofs.YtplehdcnnaamkaaGreatDoorW.PrintWords Go.Proofs.YtplehdcnnaamkaaGreatDoorW.PrintMore

theorem adT_size (a : Bool × Int × Int) (ha : adOk a) : (adT a).size ≤ 300 := by
  obtain ⟨sx, hi, lo⟩ := a
  cases sx
  · have := fourB_size lo.toNat (by have := ha.2.2; omega)
    show (fourB lo.toNat).size ≤ 300
    omega
  · have := text_len (piecesOf hi lo) rfl (pieces_bd hi lo ha.1 ha.2)
    show (textL6 (piecesOf hi lo)).toArray.size ≤ 300
    rw [List.size_toArray]
    omega
theorem TextM4 (n : Int) (h0 : 0 ≤ n) (h1 : n < 4294967296) (w : World) (hP : Aside0 (Pows w)) : Calls Tryz.prog 70 #[.int .u32 n] w fun e w' => e = .returned (.string (adT (false, 0, n))) ∧ Below w.heap.size w w' := by
  have h := Text_calls n.toNat (by omega) w hP
  rwa [Int.toNat_of_nonneg h0] at h

end Go.Proofs.YtplehdcnnaamkaaGreatDoor

/- Tries: prefixes as paths, lists of prefixes with verdicts; plain Lean. -/
namespace Go.Proofs.YtplehdcnnaamkaaGreatDoor

/-- A prefix: its halves and its length. -/
abbrev P3 := Int × Int × Int
def okP (p : P3) : Prop := (0 ≤ p.1 ∧ p.1 < 18446744073709551616) ∧ 0 ≤ p.2.1 ∧ p.2.1 < 18446744073709551616
def rP (p : P3) : Bool := rightP p.1 p.2.1 p.2.2
def bitB (hi lo : Int) (i : Nat) : Bool := pBit hi lo i == 1
/-- The way that the first bits tell. -/
def pathN (hi lo : Int) (n : Nat) : List Bool := (List.range n).map (bitB hi lo)
def pathP (p : P3) : List Bool := pathN p.1 p.2.1 p.2.2.toNat
/-- Does a prefix stand ahead of another one? -/
def befB (a b : P3) : Bool := if a.1 ≠ b.1 then decide (a.1 < b.1) else if a.2.1 ≠ b.2.1 then decide (a.2.1 < b.2.1) else decide (a.2.2 < b.2.2)
theorem befB_iff (a b : P3) : befB a b = true ↔ a.1 < b.1 ∨ (a.1 = b.1 ∧ (a.2.1 < b.2.1 ∨ (a.2.1 = b.2.1 ∧ a.2.2 < b.2.2))) := by
  rw [befB]
  split
  · rw [decide_eq_true_iff]; omega
  · split
    · rw [decide_eq_true_iff]; omega
    · rw [decide_eq_true_iff]; omega
theorem befB_trans {a b c : P3} (h : befB a b = true) (h' : befB b c = true) : befB a c = true := by
  rw [befB_iff] at h h' ⊢
  omega
theorem befB_total (a b : P3) (h : befB a b = false) : a = b ∨ befB b a = true := by
  have h' : ¬ befB a b = true := by rw [h]; exact Bool.false_ne_true
  rw [befB_iff] at h'
  rw [befB_iff]
  obtain ⟨a1, a2, a3⟩ := a
  obtain ⟨b1, b2, b3⟩ := b
  simp only [Prod.mk.injEq] at *
  omega
theorem pathN_len (hi lo : Int) (n : Nat) : (pathN hi lo n).length = n := by simp [pathN]
theorem pathN_eq (hi lo a b : Int) (n m : Nat) : pathN hi lo n = pathN a b m ↔ n = m ∧ ∀ i, i < n → bitB hi lo i = bitB a b i := by
  constructor
  · intro h
    have hl := congrArg List.length h
    rw [pathN_len, pathN_len] at hl
    refine ⟨hl, fun i hi => ?_⟩
    have := congrArg (·[i]?) h
    simpa [pathN, hi, show i < m by omega] using this
  · rintro ⟨rfl, h⟩
    apply List.map_congr_left
    intro i hi
    exact h i (List.mem_range.1 hi)
theorem bitB_pBit (hi lo a b : Int) (i : Nat) : bitB hi lo i = bitB a b i ↔ pBit hi lo i = pBit a b i := by
  rw [bitB, bitB]
  rcases pBit_01 hi lo i with h | h <;> rcases pBit_01 a b i with h' | h' <;> rw [h, h'] <;> decide
theorem rP_len (p : P3) (h : rP p = true) : 0 ≤ p.2.2 ∧ p.2.2 ≤ 128 := rightP_bd _ _ _ h
theorem rP_zero (p : P3) (ho : okP p) (h : rP p = true) (i : Nat) (h1 : p.2.2.toNat ≤ i) (h2 : i < 128) : pBit p.1 p.2.1 i = 0 := by
  have hl := rP_len p h
  have e : p.2.2 = ((p.2.2.toNat : Nat) : Int) := by omega
  rw [rP, e] at h
  exact ((rightP_iff _ _ _ ho.1 ho.2).1 h).2 i h1 h2
theorem pathP_inj (p q : P3) (hp : okP p) (hq : okP q) (rp : rP p = true) (rq : rP q = true) (h : pathP p = pathP q) : p = q := by
  have lp := rP_len p rp
  have lq := rP_len q rq
  obtain ⟨hn, hb⟩ := (pathN_eq _ _ _ _ _ _).1 h
  have := pBit_ext p.1 p.2.1 q.1 q.2.1 hp.1 hp.2 hq.1 hq.2 fun i hi => by
    by_cases hin : i < p.2.2.toNat
    · exact (bitB_pBit _ _ _ _ _).1 (hb i hin)
    · rw [rP_zero p hp rp i (by omega) hi, rP_zero q hq rq i (by omega) hi]
  obtain ⟨p1, p2, p3⟩ := p
  obtain ⟨q1, q2, q3⟩ := q
  simp only [Prod.mk.injEq] at *
  omega
/-- The document's lists. -/
abbrev E4 := P3 × Int
def dropL (l : List E4) (p : P3) : List E4 := l.filter fun x => decide (x.1 ≠ p)
def insL (p : P3) (v : Int) : List E4 → List E4
  | [] => [(p, v)]
  | x :: l => if befB p x.1 = true then (p, v) :: x :: l else x :: insL p v l
def putL (l : List E4) (p : P3) (v : Int) : List E4 := insL p v (dropL l p)

/-- What a trie's nodes tell: at a way a verdict and its prefix. -/
structure Inv (I : List Bool → Option (Int × P3)) (L : List E4) : Prop where
  node : ∀ π v p, I π = some (v, p) → okP p ∧ rP p = true ∧ pathP p = π ∧ (p, v) ∈ L
  entry : ∀ e ∈ L, okP e.1 ∧ rP e.1 = true ∧ I (pathP e.1) = some (e.2, e.1)
  sorted : L.Pairwise fun x y => befB x.1 y.1 = true
theorem Inv.nil : Inv (fun _ => none) [] := ⟨fun _ _ _ h => by (cases h), fun _ h => by (cases h), List.Pairwise.nil⟩
theorem mem_dropL (l : List E4) (p : P3) (x : E4) : x ∈ dropL l p ↔ x ∈ l ∧ x.1 ≠ p := by simp [dropL]
theorem mem_insL (p : P3) (v : Int) : ∀ (l : List E4) (x : E4), x ∈ insL p v l ↔ x = (p, v) ∨ x ∈ l
  | [], x => by simp [insL]
  | y :: l, x => by
    rw [insL]
    split
    · simp
    · rw [List.mem_cons, mem_insL p v l x, List.mem_cons]
      constructor
      · rintro (h | h | h)
        · exact .inr (.inl h)
        · exact .inl h
        · exact .inr (.inr h)
      · rintro (h | h | h)
        · exact .inr (.inl h)
        · exact .inl h
        · exact .inr (.inr h)
theorem insL_sorted (p : P3) (v : Int) : ∀ l : List E4, (l.Pairwise fun x y => befB x.1 y.1 = true) → (∀ x ∈ l, x.1 ≠ p) → (insL p v l).Pairwise fun x y => befB x.1 y.1 = true
  | [], _, _ => by simp [insL]
  | y :: l, h, hn => by
    rw [List.pairwise_cons] at h
    rw [insL]
    split
    · rename_i hb
      rw [List.pairwise_cons, List.pairwise_cons]
      refine ⟨fun z hz => ?_, h⟩
      rcases List.mem_cons.1 hz with e | e
      · rw [e]; exact hb
      · exact befB_trans hb (h.1 z e)
    · rename_i hb
      rw [List.pairwise_cons]
      refine ⟨fun z hz => ?_, insL_sorted p v l h.2 fun x hx => hn x (List.mem_cons_of_mem _ hx)⟩
      rcases (mem_insL p v l z).1 hz with e | e
      · rw [e]
        rcases befB_total p y.1 (by simpa using hb) with e' | e'
        · exact absurd e'.symm (hn y (List.mem_cons_self ..))
        · exact e'
      · exact h.1 z e
theorem Inv.drop {I : List Bool → Option (Int × P3)} {L : List E4} (h : Inv I L) (p : P3) (hp : okP p) (rp : rP p = true) {I' : List Bool → Option (Int × P3)} (h1 : I' (pathP p) = none) (h2 : ∀ π, π ≠ pathP p → I' π = I π) : Inv I' (dropL L p) := by
  refine ⟨fun π v q hq => ?_, fun e he => ?_, h.sorted.filter _⟩
  · by_cases e : π = pathP p
    · rw [e, h1] at hq; cases hq
    · rw [h2 π e] at hq
      obtain ⟨a, b, c, d⟩ := h.node _ _ _ hq
      refine ⟨a, b, c, (mem_dropL _ _ _).2 ⟨d, fun e' => e ?_⟩⟩
      rw [← c, show q = p from e']
  · obtain ⟨m, ne⟩ := (mem_dropL _ _ _).1 he
    obtain ⟨a, b, c⟩ := h.entry e m
    refine ⟨a, b, ?_⟩
    rw [h2 _ fun e' => ne (pathP_inj _ _ a hp b rp e')]
    exact c
theorem Inv.put {I : List Bool → Option (Int × P3)} {L : List E4} (h : Inv I L) (p : P3) (v : Int) (hp : okP p) (rp : rP p = true) {I' : List Bool → Option (Int × P3)} (h1 : I' (pathP p) = some (v, p)) (h2 : ∀ π, π ≠ pathP p → I' π = I π) : Inv I' (putL L p v) := by
  refine ⟨fun π u q hq => ?_, fun e he => ?_, insL_sorted p v _ (h.sorted.filter _) fun x hx => ((mem_dropL _ _ _).1 hx).2⟩
  · by_cases e : π = pathP p
    · rw [e, h1] at hq
      obtain ⟨rfl, rfl⟩ : v = u ∧ p = q := by simpa using hq
      exact ⟨hp, rp, e.symm, (mem_insL _ _ _ _).2 (.inl rfl)⟩
    · rw [h2 π e] at hq
      obtain ⟨a, b, c, d⟩ := h.node _ _ _ hq
      refine ⟨a, b, c, (mem_insL _ _ _ _).2 (.inr ((mem_dropL _ _ _).2 ⟨d, fun e' => e ?_⟩))⟩
      rw [← c, show q = p from e']
  · rcases (mem_insL _ _ _ _).1 he with e' | e'
    · subst e'
      exact ⟨hp, rp, h1⟩
    · obtain ⟨m, ne⟩ := (mem_dropL _ _ _).1 e'
      obtain ⟨a, b, c⟩ := h.entry e m
      refine ⟨a, b, ?_⟩
      rw [h2 _ fun e' => ne (pathP_inj _ _ a hp b rp e')]
      exact c

/-- What is told of the longest one of a list that has an address. -/
def Best (a b : Int) (l : List E4) (o : Option E4) : Prop :=
  match o with
  | none => ∀ e ∈ l, hasP e.1.1 e.1.2.1 e.1.2.2 a b = false
  | some e => e ∈ l ∧ hasP e.1.1 e.1.2.1 e.1.2.2 a b = true ∧ ∀ x ∈ l, hasP x.1.1 x.1.2.1 x.1.2.2 a b = true → x.1.2.2 ≤ e.1.2.2
/-- One more is asked. -/
def bestS (a b : Int) (best : Option E4) (x : E4) : Option E4 :=
  if hasP x.1.1 x.1.2.1 x.1.2.2 a b = true then (match best with | none => some x | some y => if y.1.2.2 < x.1.2.2 then some x else some y) else best
theorem Best.step {a b : Int} {l : List E4} {o : Option E4} (h : Best a b l o) (x : E4) : Best a b (l ++ [x]) (bestS a b o x) := by
  unfold bestS
  by_cases hx : hasP x.1.1 x.1.2.1 x.1.2.2 a b = true
  · rw [if_pos hx]
    cases o with
    | none =>
      refine ⟨by simp, hx, fun y hy hh => ?_⟩
      rcases List.mem_append.1 hy with e | e
      · rw [h y e] at hh; cases hh
      · obtain rfl : y = x := by simpa using e
        exact Int.le_refl _
    | some e =>
      obtain ⟨h1, h2, h3⟩ := h
      by_cases hlt : e.1.2.2 < x.1.2.2
      · simp only [if_pos hlt]
        refine ⟨by simp, hx, fun y hy hh => ?_⟩
        rcases List.mem_append.1 hy with e' | e'
        · have := h3 y e' hh; omega
        · obtain rfl : y = x := by simpa using e'
          exact Int.le_refl _
      · simp only [if_neg hlt]
        refine ⟨by simp [h1], h2, fun y hy hh => ?_⟩
        rcases List.mem_append.1 hy with e' | e'
        · exact h3 y e' hh
        · obtain rfl : y = x := by simpa using e'
          omega
  · rw [if_neg hx]
    cases o with
    | none =>
      intro y hy
      rcases List.mem_append.1 hy with e | e
      · exact h y e
      · obtain rfl : y = x := by simpa using e
        simpa using hx
    | some e =>
      obtain ⟨h1, h2, h3⟩ := h
      refine ⟨by simp [h1], h2, fun y hy hh => ?_⟩
      rcases List.mem_append.1 hy with e' | e'
      · exact h3 y e' hh
      · obtain rfl : y = x := by simpa using e'
        exact absurd hh hx
end Go.Proofs.YtplehdcnnaamkaaGreatDoor

/- Prefixes, read and written: plain Lean. -/
namespace Go.Proofs.YtplehdcnnaamkaaGreatDoor
open Go.RowKit Go.Proofs.YtplehdcnnaamkaaGreatDoorW.PrintWords

/-- What is added to the length that is written behind an address. -/
def addOf : Bool × Int × Int → Int
  | (true, _, _) => 0
  | (false, _, _) => 96
/-- The prefix of an address's text and a length's. -/
def pfMk (o : Option (Bool × Int × Int)) (tail : List UInt8) : Option P3 := match o with
  | none => none
  | some a => if decOk tail (128 - addOf a) = true then if rightP (adHi a) (adLo a) (decN tail (128 - addOf a) + addOf a) = true then some (adHi a, adLo a, decN tail (128 - addOf a) + addOf a) else none else none
/-- The prefix that a text is. -/
def pfOf (l : List UInt8) : Option P3 := pfMk (adOf (Lib.cut l [47]).1) (Lib.cut l [47]).2.1
def pfV : Option P3 → Value
  | none => .agg #[.int .u64 0, .int .u64 0, .int .i64 0]
  | some p => .agg #[.int .u64 p.1, .int .u64 p.2.1, .int .i64 p.2.2]
theorem dec_bounds (l : List UInt8) (m : Int) (h : decOk l m = true) : 0 ≤ decN l m ∧ decN l m ≤ m := by
  have hp : plainD l = true := by
    rw [decOk, Bool.and_eq_true] at h
    exact h.1
  have hm : decV l ≤ m := by
    rw [decOk, Bool.and_eq_true, decide_eq_true_iff] at h
    exact h.2
  have hd : digitsL l = true := by
    rw [plainD, Bool.and_eq_true] at hp
    exact hp.1
  rw [decN, if_pos h]
  exact ⟨decV_nonneg l hd, hm⟩
/-- The number's text. -/
def numT (n : Int) : ByteArray := ⟨(Lib.itoa n).toArray⟩
def slash : ByteArray := ⟨#[47]⟩
/-- A prefix's text. -/
def pfT (hi lo n : Int) : ByteArray := if 96 ≤ n ∧ hi = 0 ∧ lo / 4294967296 = 65535 then adT (false, 0, lo % 4294967296) ++ slash ++ numT (n - 96) else adT (true, hi, lo) ++ slash ++ numT n
theorem pfMk_some (a : Bool × Int × Int) (t : List UInt8) (k : Int) (h1 : decOk t (128 - addOf a) = true) (h2 : decN t (128 - addOf a) = k) (h3 : rightP (adHi a) (adLo a) (k + addOf a) = true) : pfMk (some a) t = some (adHi a, adLo a, k + addOf a) := by
  subst h2
  rw [pfMk]
  simp only [if_pos h1, if_pos h3]
end Go.Proofs.YtplehdcnnaamkaaGreatDoor

/- Prefixes, read; walked. -/
namespace Go.Proofs.YtplehdcnnaamkaaGreatDoor
open Go.RowKit Go.Proofs.YtplehdcnnaamkaaGreatDoorW.PrintWords Go.Proofs.YtplehdcnnaamkaaGreatDoorW.PrintMore

theorem ret_pf {a b : Value} {c d : Bool} (h : b = a) (h' : d = c) : Ending.returned (.tuple #[a, .bool c]) = .returned (.tuple #[b, .bool d]) := by rw [h, h']
theorem pfMk_none2 (a : Bool × Int × Int) (t : List UInt8) (h : decOk t (128 - addOf a) = false) : pfMk (some a) t = none := by
  rw [pfMk, h]; rfl
theorem pfMk_none3 (a : Bool × Int × Int) (t : List UInt8) (h1 : decOk t (128 - addOf a) = true) (h3 : rightP (adHi a) (adLo a) (decN t (128 - addOf a) + addOf a) = false) : pfMk (some a) t = none := by
  rw [pfMk]
  simp only [if_pos h1, h3]
  rfl
set_option maxHeartbeats 8000000 in
set_option maxRecDepth 100000 in
theorem PfParse_calls (s : ByteArray) (w : World) (hs : s.size ≤ 900000) (hE : Aside0 (Errs w)) (hM : Aside0 (Mx w)) :
    Calls Tryz.prog 16 #[.string s] w fun e w' => e = .returned (.tuple #[pfV (pfOf s.data.toList), .bool (pfOf s.data.toList).isSome]) ∧ Below w.heap.size w w' := by
  have q4 := mw_4
  have q6 := mw_6
  obtain ⟨W0, hW0⟩ : ∃ W0, W0 = w.alloc (.cells #[.int .u64 0, .int .u64 0, .int .i64 0] 25) := ⟨_, rfl⟩
  obtain ⟨hg, hl, hb⟩ := box3 hW0
  have B0 := Aside0.mk hb
  have HW := Lib.hid hW0
  have HG := Aside0.mk hg
  clear hg hW0 hb
  obtain ⟨mx, hmx⟩ := hM.out
  have HMX := Aside0.mk hmx
  have hcl := cut_le s.data.toList [47]
  rw [show s.data.toList.length = s.size by simp] at hcl
  obtain ⟨r, hr⟩ : ∃ r, r = pfOf s.data.toList := ⟨_, rfl⟩
  rw [← hr]
  have HR := Lib.hid (hr.trans (show pfOf s.data.toList = pfMk (adOf (Lib.cut s.data.toList [47]).1) (Lib.cut s.data.toList [47]).2.1 from rfl))
  clear hr hmx
  go_enter Tryz.func16, Tryz.ntmps16
  go_wp2_with fail
  rw [← HW.out]
  refine (Tryz.strings_Cut s _ mx _ (by omega) (by rw [← HMX.out]; exact B0.out.cell (cell_of_lt HMX.out))).mono ?_
  rintro e w1 ⟨rfl, n1, hw1⟩
  rw [show (ByteArray.mk #[47]).data.toList = [47] from rfl]
  have hb1 : Below W0.heap.size W0 w1 := by rw [hw1]; exact pw_below_drewN (Below.refl _ _) n1
  have HG1 := Aside0.mk ((hb1.block _ hl).trans HG.out)
  have hl1 := Nat.lt_of_lt_of_le hl hb1.size
  have B1 := Aside0.mk (below_then B0.out B0.out.size hb1)
  clear hw1 hb1
  generalize Lib.cut s.data.toList [47] = C at HR hcl ⊢
  obtain ⟨wl, rl, more⟩ := C
  simp only [] at HR hcl ⊢
  obtain ⟨word, hword⟩ : ∃ word : ByteArray, word = ⟨wl.toArray⟩ := ⟨_, rfl⟩
  obtain ⟨rst, hrst⟩ : ∃ rst : ByteArray, rst = ⟨rl.toArray⟩ := ⟨_, rfl⟩
  have hwz : word.size ≤ 900000 := by rw [hword, mk_size]; omega
  have hrz : rst.size ≤ 900000 := by rw [hrst, mk_size]; omega
  have hwl : word.data.toList = wl := by rw [hword]
  have hrl : rst.data.toList = rl := by rw [hrst]
  rw [← hword, ← hrst]
  have HWL := Lib.hid hwl
  have HRL := Lib.hid hrl
  clear hword hrst hwl hrl hcl
  go_wp2_with fail
  refine (AdParse_calls word _ hwz ⟨hE.out.stays B1.out⟩ ⟨hM.out.stays B1.out⟩).mono ?_
  rw [HWL.out]
  have hok := adOf_ok wl
  generalize adOf wl = o at HR hok ⊢
  rintro e w2 ⟨rfl, b2⟩
  have HG2 := Aside0.mk ((b2.block _ hl1).trans HG1.out)
  have hl2 := Nat.lt_of_lt_of_le hl1 b2.size
  have B2 := Aside0.mk (below_then B1.out B1.out.size b2)
  have hg2 := HG2.out
  obtain ⟨k0, f0⟩ := heap_cell (j := 0) hg2 rfl
  obtain ⟨k1, f1⟩ := heap_cell (j := 1) hg2 rfl
  obtain ⟨k2, f2⟩ := heap_cell (j := 2) hg2 rfl
  clear hg2 b2
  rcases o with _ | a
  · simp only [adVo, Option.isSome]
    go_wp2_with fail
    refine bodyPost_ret (results_cell_bool rfl _ _ w.heap.size 25 #[.int .u64 0, .int .u64 0, .int .i64 0] (0, 0) _ rfl (heap_set3 _ _ _ HG2.out) Tryz.underlying25 rfl (by kernel_rfl)) rfl ?_
    exact ⟨ret_pf (by rw [HR.out]; rfl) (by rw [HR.out]; rfl), below_set3 B2.out (Nat.le_refl _) _ _ _⟩
  · have HA := hok a rfl
    have hbd := ad_bd a HA
    clear hok
    have N1 := Aside0.mk (pfMk_none2 a rl)
    have N2 := Aside0.mk (pfMk_none3 a rl)
    have N3 := Aside0.mk (pfMk_some a rl)
    have hdb := dec_bounds rl (128 - addOf a)
    have RI := Aside0.mk (Right_calls (adHi a) (adLo a) (decN rl (128 - addOf a) + addOf a) hbd.1 hbd.2)
    obtain ⟨sx, hi, lo⟩ := a
    cases sx
    · simp only [adVo, adV, Option.isSome]
      have hw : (128 : Int) - addOf (false, hi, lo) = 32 := rfl
      have hadd : addOf (false, hi, lo) = 96 := rfl
      rw [hw] at N1 N2 N3 hdb RI
      rw [hadd] at N2 N3 RI
      clear hw hadd
      simp only [adHi, adLo] at N1 N2 N3 RI
      go_wp2_with fail
      refine (FourA4 lo _).mono ?_
      rintro e w3 ⟨rfl, rfl⟩
      go_wp2_with fail
      refine (Decimal_calls rst (by omega) _ (by omega) _ ⟨hE.out.stays B2.out⟩).mono ?_
      rw [HRL.out]
      rintro e w4 ⟨rfl, b4⟩
      have HG4 := Aside0.mk ((b4.block _ hl2).trans HG2.out)
      have hl4 := Nat.lt_of_lt_of_le hl2 b4.size
      have B4 := Aside0.mk (below_then B2.out B2.out.size b4)
      clear k0 f0 k1 f1 k2 f2
      have hg4 := HG4.out
      obtain ⟨k0, f0⟩ := heap_cell (j := 0) hg4 rfl
      obtain ⟨k1, f1⟩ := heap_cell (j := 1) hg4 rfl
      obtain ⟨k2, f2⟩ := heap_cell (j := 2) hg4 rfl
      clear hg4 b4
      cases hd : decOk rl 32
      · have HN := Lib.hid (N1.out hd)
        generalize decN rl 32 = n
        clear hd hdb
        go_wp2_with fail
        refine bodyPost_ret (results_cell_bool rfl _ _ w.heap.size 25 #[.int .u64 0, .int .u64 0, .int .i64 0] (0, 0) _ rfl (heap_set3 _ _ _ HG4.out) Tryz.underlying25 rfl (by kernel_rfl)) rfl ?_
        exact ⟨ret_pf (by rw [HR.out, HN.out]; rfl) (by rw [HR.out, HN.out]; rfl), below_set3 B4.out (Nat.le_refl _) _ _ _⟩
      · have hn := hdb hd
        have N4 := Aside0.mk (N2.out hd)
        have N5 := Aside0.mk (N3.out (decN rl 32) hd rfl)
        clear N1 N2 N3 hdb hd
        generalize decN rl 32 = n at hn N4 N5 RI
        go_wp2_with fail
        refine (Wide4_calls lo HA.2.1 HA.2.2 _).mono ?_
        rintro e w5 ⟨rfl, b5⟩
        have HG5 := Aside0.mk ((b5.block _ hl4).trans HG4.out)
        have hl5 := Nat.lt_of_lt_of_le hl4 b5.size
        have B5 := Aside0.mk (below_then B4.out B4.out.size b5)
        clear k0 f0 k1 f1 k2 f2 b5
        obtain ⟨W6, hW6⟩ : ∃ W6, W6 = w5.alloc (.cells #[.int .u64 0, .int .u64 (281470681743360 + lo), .int .i64 (n + 96)] 25) := ⟨_, rfl⟩
        obtain ⟨hg6, hl6, hb6⟩ := box3 hW6
        have HW6 := Lib.hid hW6
        have HG6 := Aside0.mk hg6
        have B6 := Aside0.mk (below_then B5.out B5.out.size hb6)
        have HG7 := Aside0.mk ((hb6.block _ hl5).trans HG5.out)
        have hl7 := Nat.lt_of_lt_of_le hl5 hb6.size
        clear hg6 hb6 hW6
        go_wp2_with fail
        try rw [← HW6.out]
        refine (RI.out _).mono ?_
        rintro e w7 ⟨rfl, b7⟩
        have HG8 := Aside0.mk ((b7.block _ hl7).trans HG7.out)
        have HG9 := Aside0.mk ((b7.block _ hl6).trans HG6.out)
        have B7 := Aside0.mk (below_then B6.out B6.out.size b7)
        have hg8 := HG8.out
        have hg9 := HG9.out
        obtain ⟨k0, f0⟩ := heap_cell (j := 0) hg8 rfl
        obtain ⟨k1, f1⟩ := heap_cell (j := 1) hg8 rfl
        obtain ⟨k2, f2⟩ := heap_cell (j := 2) hg8 rfl
        obtain ⟨m0, _⟩ := heap_cell (j := 0) hg9 rfl
        obtain ⟨m1, _⟩ := heap_cell (j := 1) hg9 rfl
        obtain ⟨m2, _⟩ := heap_cell (j := 2) hg9 rfl
        clear hg8 hg9 b7
        cases hr : rightP 0 (281470681743360 + lo) (n + 96)
        · have HN := Lib.hid (N4.out hr)
          clear hr
          go_wp2_with fail
          refine bodyPost_ret (results_cell_bool rfl _ _ w.heap.size 25 #[.int .u64 0, .int .u64 0, .int .i64 0] (0, 0) _ rfl (heap_set3 _ _ _ HG8.out) Tryz.underlying25 rfl (by kernel_rfl)) rfl ?_
          exact ⟨ret_pf (by rw [HR.out, HN.out]; rfl) (by rw [HR.out, HN.out]; rfl), below_set3 B7.out (Nat.le_refl _) _ _ _⟩
        · have HN := Lib.hid (N5.out hr)
          clear hr
          go_wp2_with fail
          refine bodyPost_ret (results_cell_bool rfl _ _ w.heap.size 25 #[.int .u64 0, .int .u64 (281470681743360 + lo), .int .i64 (n + 96)] (0, 0) _ rfl (heap_set3 _ _ _ HG8.out) Tryz.underlying25 rfl (by kernel_rfl)) rfl ?_
          exact ⟨ret_pf (by rw [HR.out, HN.out]; rfl) (by rw [HR.out, HN.out]; rfl), below_set3 B7.out (Nat.le_refl _) _ _ _⟩
    · simp only [adVo, adV, Option.isSome]
      have hw : (128 : Int) - addOf (true, hi, lo) = 128 := rfl
      have hadd : addOf (true, hi, lo) = 0 := rfl
      rw [hw] at N1 N2 N3 hdb RI
      rw [hadd] at N2 N3 RI
      simp only [Int.add_zero] at N2 N3 RI
      clear hw hadd
      simp only [adHi, adLo] at N1 N2 N3 RI
      go_wp2_with fail
      refine (FourA6 hi lo _).mono ?_
      rintro e w3 ⟨rfl, rfl⟩
      go_wp2_with fail
      refine (Decimal_calls rst (by omega) _ (by omega) _ ⟨hE.out.stays B2.out⟩).mono ?_
      rw [HRL.out]
      rintro e w4 ⟨rfl, b4⟩
      have HG4 := Aside0.mk ((b4.block _ hl2).trans HG2.out)
      have hl4 := Nat.lt_of_lt_of_le hl2 b4.size
      have B4 := Aside0.mk (below_then B2.out B2.out.size b4)
      clear k0 f0 k1 f1 k2 f2
      have hg4 := HG4.out
      obtain ⟨k0, f0⟩ := heap_cell (j := 0) hg4 rfl
      obtain ⟨k1, f1⟩ := heap_cell (j := 1) hg4 rfl
      obtain ⟨k2, f2⟩ := heap_cell (j := 2) hg4 rfl
      clear hg4 b4
      cases hd : decOk rl 128
      · have HN := Lib.hid (N1.out hd)
        generalize decN rl 128 = n
        clear hd hdb
        go_wp2_with fail
        refine bodyPost_ret (results_cell_bool rfl _ _ w.heap.size 25 #[.int .u64 0, .int .u64 0, .int .i64 0] (0, 0) _ rfl (heap_set3 _ _ _ HG4.out) Tryz.underlying25 rfl (by kernel_rfl)) rfl ?_
        exact ⟨ret_pf (by rw [HR.out, HN.out]; rfl) (by rw [HR.out, HN.out]; rfl), below_set3 B4.out (Nat.le_refl _) _ _ _⟩
      · have hn := hdb hd
        have N4 := Aside0.mk (N2.out hd)
        have N5 := Aside0.mk (N3.out (decN rl 128) hd rfl)
        clear N1 N2 N3 hdb hd
        generalize decN rl 128 = n at hn N4 N5 RI
        go_wp2_with fail
        refine (Wide6_calls hi lo _).mono ?_
        rintro e w5 ⟨rfl, b5⟩
        have HG5 := Aside0.mk ((b5.block _ hl4).trans HG4.out)
        have hl5 := Nat.lt_of_lt_of_le hl4 b5.size
        have B5 := Aside0.mk (below_then B4.out B4.out.size b5)
        clear k0 f0 k1 f1 k2 f2 b5
        obtain ⟨W6, hW6⟩ : ∃ W6, W6 = w5.alloc (.cells #[.int .u64 hi, .int .u64 lo, .int .i64 n] 25) := ⟨_, rfl⟩
        obtain ⟨hg6, hl6, hb6⟩ := box3 hW6
        have HW6 := Lib.hid hW6
        have HG6 := Aside0.mk hg6
        have B6 := Aside0.mk (below_then B5.out B5.out.size hb6)
        have HG7 := Aside0.mk ((hb6.block _ hl5).trans HG5.out)
        have hl7 := Nat.lt_of_lt_of_le hl5 hb6.size
        clear hg6 hb6 hW6
        go_wp2_with fail
        try rw [← HW6.out]
        refine (RI.out _).mono ?_
        rintro e w7 ⟨rfl, b7⟩
        have HG8 := Aside0.mk ((b7.block _ hl7).trans HG7.out)
        have HG9 := Aside0.mk ((b7.block _ hl6).trans HG6.out)
        have B7 := Aside0.mk (below_then B6.out B6.out.size b7)
        have hg8 := HG8.out
        have hg9 := HG9.out
        obtain ⟨k0, f0⟩ := heap_cell (j := 0) hg8 rfl
        obtain ⟨k1, f1⟩ := heap_cell (j := 1) hg8 rfl
        obtain ⟨k2, f2⟩ := heap_cell (j := 2) hg8 rfl
        obtain ⟨m0, _⟩ := heap_cell (j := 0) hg9 rfl
        obtain ⟨m1, _⟩ := heap_cell (j := 1) hg9 rfl
        obtain ⟨m2, _⟩ := heap_cell (j := 2) hg9 rfl
        clear hg8 hg9 b7
        cases hr : rightP hi lo n
        · have HN := Lib.hid (N4.out hr)
          clear hr
          go_wp2_with fail
          refine bodyPost_ret (results_cell_bool rfl _ _ w.heap.size 25 #[.int .u64 0, .int .u64 0, .int .i64 0] (0, 0) _ rfl (heap_set3 _ _ _ HG8.out) Tryz.underlying25 rfl (by kernel_rfl)) rfl ?_
          exact ⟨ret_pf (by rw [HR.out, HN.out]; rfl) (by rw [HR.out, HN.out]; rfl), below_set3 B7.out (Nat.le_refl _) _ _ _⟩
        · have HN := Lib.hid (N5.out hr)
          clear hr
          go_wp2_with fail
          refine bodyPost_ret (results_cell_bool rfl _ _ w.heap.size 25 #[.int .u64 hi, .int .u64 lo, .int .i64 n] (0, 0) _ rfl (heap_set3 _ _ _ HG8.out) Tryz.underlying25 rfl (by kernel_rfl)) rfl ?_
          exact ⟨ret_pf (by rw [HR.out, HN.out]; rfl) (by rw [HR.out, HN.out]; rfl), below_set3 B7.out (Nat.le_refl _) _ _ _⟩
end Go.Proofs.YtplehdcnnaamkaaGreatDoor

/- Prefixes, written; walked. -/
namespace Go.Proofs.YtplehdcnnaamkaaGreatDoor
open Go.RowKit Go.Proofs.YtplehdcnnaamkaaGreatDoorW.PrintWords Go.Proofs.YtplehdcnnaamkaaGreatDoorW.PrintMore

theorem ItoaZ_calls (n : Int) (h0 : -9223372036854775808 ≤ n) (h1 : n ≤ 9223372036854775807) (w : World) (hP : Pows w) :
    Calls Tryz.prog 71 #[.int .i64 n] w fun e w' => e = .returned (.string (numT n)) ∧ Below w.heap.size w w' := by
  refine (Tryz.strconv_Itoa n h0 h1 w hP).mono ?_
  rintro e w' ⟨rfl, k, os, rfl⟩
  exact ⟨rfl, grow_below _ _ _⟩
theorem numT_size (n : Int) (h0 : -9223372036854775808 ≤ n) (h1 : n ≤ 9223372036854775807) : (numT n).size ≤ 80 := by
  show (Lib.itoa n).toArray.size ≤ 80
  rw [List.size_toArray, Lib.itoa]
  split
  · have := digB_len 10 (by omega) n.natAbs 64 (by omega)
    rw [dec_eq]
    simp only [List.length_cons]
    omega
  · have := digB_len 10 (by omega) n.toNat 64 (by omega)
    rw [dec_eq]
    omega
theorem rTextM4 (n : Int) (h0 : 0 ≤ n) (h1 : n < 4294967296) (w : World) (hP : Aside0 (Pows w)) : Calls Tryz.prog 73 #[.int .u32 n] w fun e w' => e = .returned (.string (adT (false, 0, n))) ∧ Below w.heap.size w w' := by
  have h := rText4_calls n.toNat (by omega) w hP
  rwa [show ((n.toNat : Nat) : Int) = n by omega] at h
set_option maxHeartbeats 8000000 in
set_option maxRecDepth 100000 in
theorem PfText_calls (hi lo n : Int) (h0 : 0 ≤ hi ∧ hi < 18446744073709551616) (h1 : 0 ≤ lo ∧ lo < 18446744073709551616) (hn0 : -9223372036854775808 ≤ n) (hn1 : n ≤ 9223372036854775807) (w : World) (hP : Aside0 (Pows w)) (hT : Aside0 (Debr w)) :
    Calls Tryz.prog 23 #[.agg #[.int .u64 hi, .int .u64 lo, .int .i64 n]] w fun e w' => e = .returned (.string (pfT hi lo n)) ∧ Below w.heap.size w w' := by
  obtain ⟨W0, hW0⟩ : ∃ W0, W0 = w.alloc (.cells #[.int .u64 hi, .int .u64 lo, .int .i64 n] 25) := ⟨_, rfl⟩
  obtain ⟨hg, hl, hb⟩ := box3 hW0
  have B0 := Aside0.mk hb
  have HW := Lib.hid hW0
  have hg0 := hg
  clear hg hW0 hb
  obtain ⟨k0, _⟩ := heap_cell (j := 0) hg0 rfl
  obtain ⟨k1, _⟩ := heap_cell (j := 1) hg0 rfl
  obtain ⟨k2, _⟩ := heap_cell (j := 2) hg0 rfl
  clear hg0
  have hP0 := hP.out.stays B0.out
  have hT0 := hT.out.stays B0.out
  have B4 : Aside0 (∀ W, Below W0.heap.size W0 W → Below w.heap.size w W) := ⟨fun W h => below_then B0.out B0.out.size h⟩
  obtain ⟨g, hgs⟩ : ∃ g, g = w.heap.size := ⟨_, rfl⟩
  have HGS := Lib.hid hgs
  rw [← hgs] at k0 k1 k2
  clear hgs
  by_cases hc : 96 ≤ n ∧ hi = 0 ∧ lo / 4294967296 = 65535
  · have E := Lib.hid (show pfT hi lo n = adT (false, 0, lo % 4294967296) ++ slash ++ numT (n - 96) from if_pos hc)
    obtain ⟨c1, rfl, c3⟩ := hc
    have TX : Aside0 (∀ W : World, Below W0.heap.size W0 W ∧ W.cell? ⟨g, 0, none⟩ = some (.int .u64 0) ∧ W.cell? ⟨g, 1, none⟩ = some (.int .u64 lo) ∧ W.cell? ⟨g, 2, none⟩ = some (.int .i64 n) → Calls Tryz.prog 70 #[.int .u32 (lo % 4294967296)] W fun e w' => e = .returned (.string (adT (false, 0, lo % 4294967296))) ∧ Below W.heap.size W w') := ⟨fun W h => TextM4 (lo % 4294967296) (by omega) (by omega) W ⟨hP0.stays h.1⟩⟩
    have IT : Aside0 (∀ W : World, Below W0.heap.size W0 W ∧ W.cell? ⟨g, 0, none⟩ = some (.int .u64 0) ∧ W.cell? ⟨g, 1, none⟩ = some (.int .u64 lo) ∧ W.cell? ⟨g, 2, none⟩ = some (.int .i64 n) → Calls Tryz.prog 71 #[.int .i64 (n - 96)] W fun e w' => e = .returned (.string (numT (n - 96))) ∧ Below W.heap.size W w') := ⟨fun W h => ItoaZ_calls (n - 96) (by omega) (by omega) W (hP0.stays h.1)⟩
    have KS : Aside0 (∀ W W' : World, (Below W0.heap.size W0 W ∧ W.cell? ⟨g, 0, none⟩ = some (.int .u64 0) ∧ W.cell? ⟨g, 1, none⟩ = some (.int .u64 lo) ∧ W.cell? ⟨g, 2, none⟩ = some (.int .i64 n)) → Below W.heap.size W W' → (Below W0.heap.size W0 W' ∧ W'.cell? ⟨g, 0, none⟩ = some (.int .u64 0) ∧ W'.cell? ⟨g, 1, none⟩ = some (.int .u64 lo) ∧ W'.cell? ⟨g, 2, none⟩ = some (.int .i64 n))) := ⟨fun W W' ⟨h, a, b, c⟩ hb => ⟨below_then h h.size hb, (hb.cell (cell_of_lt a)).trans a, (hb.cell (cell_of_lt b)).trans b, (hb.cell (cell_of_lt c)).trans c⟩⟩
    have KS0 : Aside0 (Below W0.heap.size W0 W0.drew ∧ W0.drew.cell? ⟨g, 0, none⟩ = some (.int .u64 0) ∧ W0.drew.cell? ⟨g, 1, none⟩ = some (.int .u64 lo) ∧ W0.drew.cell? ⟨g, 2, none⟩ = some (.int .i64 n)) := ⟨(Below.refl _ _).drew, k0, k1, k2⟩
    have z2 := numT_size (n - 96) (by omega) (by omega)
    have z1 := adT_size (false, 0, lo % 4294967296) ⟨rfl, by omega, by omega⟩
    have c4 : ¬ n < 96 := by omega
    have hwr : IntKind.i64.wrap (n - 96) = n - 96 := IntWalk.i64_in _ (by omega)
    have hr1 : lo.tmod 4294967296 = lo % 4294967296 := Int.tmod_eq_emod_of_nonneg h1.1
    have hr2 : IntKind.u32.wrap (lo % 4294967296) = lo % 4294967296 := by
      rw [show ∀ x, IntKind.u32.wrap x = x % 4294967296 from fun x => by simp [IntKind.wrap, IntKind.signed, IntKind.bits]]
      omega
    generalize adT (false, 0, lo % 4294967296) = tx at E TX z1
    generalize numT (n - 96) = nm at E IT z2
    have hq1 : ¬ 9223372036854775807 < tx.size + 1 := by omega
    have hq2 : ¬ 9223372036854775807 < tx.size + 1 + nm.size := by omega
    clear hP0 hT0 z1 z2
    go_enter Tryz.func23, Tryz.ntmps23
    go_wp2_with fail
    rw [← HW.out]
    rw [← HGS.out]
    go_wp2_with fail
    go_region_held3 (fun W => (Below W0.heap.size W0 W ∧ W.cell? ⟨g, 0, none⟩ = some (.int .u64 0) ∧ W.cell? ⟨g, 1, none⟩ = some (.int .u64 lo) ∧ W.cell? ⟨g, 2, none⟩ = some (.int .i64 n))) (first | exact KS0.out | exact KS.out _ _ (by assumption) (by assumption))
      (first
        | (go_at_call 70; refine (TX.out _ (by assumption)).mono ?_; rintro e w' ⟨rfl, hb⟩)
        | (go_at_call 71; refine (IT.out _ (by assumption)).mono ?_; rintro e w' ⟨rfl, hb⟩))
    all_goals
      go_wp2_with fail
      go_ret
      exact ⟨ret_string (by rw [E.out] <;> rfl), B4.out _ (And.left (by assumption))⟩
  · have E := Lib.hid (show pfT hi lo n = adT (true, hi, lo) ++ slash ++ numT n from if_neg hc)
    have TX : Aside0 (∀ W : World, Below W0.heap.size W0 W ∧ W.cell? ⟨g, 0, none⟩ = some (.int .u64 hi) ∧ W.cell? ⟨g, 1, none⟩ = some (.int .u64 lo) ∧ W.cell? ⟨g, 2, none⟩ = some (.int .i64 n) → Calls Tryz.prog 56 #[.agg #[.int .u64 hi, .int .u64 lo]] W fun e w' => e = .returned (.string (adT (true, hi, lo))) ∧ Below W.heap.size W w') := ⟨fun W h => Text6_calls hi lo h0 h1 W ⟨hP0.stays h.1⟩ ⟨hT0.stays h.1⟩⟩
    have IT : Aside0 (∀ W : World, Below W0.heap.size W0 W ∧ W.cell? ⟨g, 0, none⟩ = some (.int .u64 hi) ∧ W.cell? ⟨g, 1, none⟩ = some (.int .u64 lo) ∧ W.cell? ⟨g, 2, none⟩ = some (.int .i64 n) → Calls Tryz.prog 71 #[.int .i64 n] W fun e w' => e = .returned (.string (numT n)) ∧ Below W.heap.size W w') := ⟨fun W h => ItoaZ_calls n (by omega) (by omega) W (hP0.stays h.1)⟩
    have KS : Aside0 (∀ W W' : World, (Below W0.heap.size W0 W ∧ W.cell? ⟨g, 0, none⟩ = some (.int .u64 hi) ∧ W.cell? ⟨g, 1, none⟩ = some (.int .u64 lo) ∧ W.cell? ⟨g, 2, none⟩ = some (.int .i64 n)) → Below W.heap.size W W' → (Below W0.heap.size W0 W' ∧ W'.cell? ⟨g, 0, none⟩ = some (.int .u64 hi) ∧ W'.cell? ⟨g, 1, none⟩ = some (.int .u64 lo) ∧ W'.cell? ⟨g, 2, none⟩ = some (.int .i64 n))) := ⟨fun W W' ⟨h, a, b, c⟩ hb => ⟨below_then h h.size hb, (hb.cell (cell_of_lt a)).trans a, (hb.cell (cell_of_lt b)).trans b, (hb.cell (cell_of_lt c)).trans c⟩⟩
    have KS0 : Aside0 (Below W0.heap.size W0 W0.drew ∧ W0.drew.cell? ⟨g, 0, none⟩ = some (.int .u64 hi) ∧ W0.drew.cell? ⟨g, 1, none⟩ = some (.int .u64 lo) ∧ W0.drew.cell? ⟨g, 2, none⟩ = some (.int .i64 n)) := ⟨(Below.refl _ _).drew, k0, k1, k2⟩
    have z2 := numT_size n (by omega) (by omega)
    have z1 := adT_size (true, hi, lo) ⟨h0, h1⟩
    generalize adT (true, hi, lo) = tx at E TX z1
    generalize numT n = nm at E IT z2
    have hq1 : ¬ 9223372036854775807 < tx.size + 1 := by omega
    have hq2 : ¬ 9223372036854775807 < tx.size + 1 + nm.size := by omega
    clear hP0 hT0 z1 z2
    have hw : n < 96 ∨ (96 ≤ n ∧ hi ≠ 0) ∨ (96 ≤ n ∧ hi = 0 ∧ lo / 4294967296 ≠ 65535) := by omega
    clear hc
    rcases hw with hw | ⟨hwa, hwb⟩ | ⟨hwa, rfl, hwb⟩
    · go_enter Tryz.func23, Tryz.ntmps23
      go_wp2_with fail
      rw [← HW.out]
      rw [← HGS.out]
      go_wp2_with fail
      go_region_held3 (fun W => (Below W0.heap.size W0 W ∧ W.cell? ⟨g, 0, none⟩ = some (.int .u64 hi) ∧ W.cell? ⟨g, 1, none⟩ = some (.int .u64 lo) ∧ W.cell? ⟨g, 2, none⟩ = some (.int .i64 n))) (first | exact KS0.out | exact KS.out _ _ (by assumption) (by assumption))
        (first
          | (go_at_call 56; refine (TX.out _ (by assumption)).mono ?_; rintro e w' ⟨rfl, hb⟩)
          | (go_at_call 71; refine (IT.out _ (by assumption)).mono ?_; rintro e w' ⟨rfl, hb⟩))
      all_goals
        go_wp2_with fail
        go_ret
        exact ⟨ret_string (by rw [E.out] <;> rfl), B4.out _ (And.left (by assumption))⟩
    · go_enter Tryz.func23, Tryz.ntmps23
      go_wp2_with fail
      rw [← HW.out]
      rw [← HGS.out]
      go_wp2_with fail
      go_region_held3 (fun W => (Below W0.heap.size W0 W ∧ W.cell? ⟨g, 0, none⟩ = some (.int .u64 hi) ∧ W.cell? ⟨g, 1, none⟩ = some (.int .u64 lo) ∧ W.cell? ⟨g, 2, none⟩ = some (.int .i64 n))) (first | exact KS0.out | exact KS.out _ _ (by assumption) (by assumption))
        (first
          | (go_at_call 56; refine (TX.out _ (by assumption)).mono ?_; rintro e w' ⟨rfl, hb⟩)
          | (go_at_call 71; refine (IT.out _ (by assumption)).mono ?_; rintro e w' ⟨rfl, hb⟩))
      all_goals
        go_wp2_with fail
        go_ret
        exact ⟨ret_string (by rw [E.out] <;> rfl), B4.out _ (And.left (by assumption))⟩
    · go_enter Tryz.func23, Tryz.ntmps23
      go_wp2_with fail
      rw [← HW.out]
      rw [← HGS.out]
      go_wp2_with fail
      go_region_held3 (fun W => (Below W0.heap.size W0 W ∧ W.cell? ⟨g, 0, none⟩ = some (.int .u64 0) ∧ W.cell? ⟨g, 1, none⟩ = some (.int .u64 lo) ∧ W.cell? ⟨g, 2, none⟩ = some (.int .i64 n))) (first | exact KS0.out | exact KS.out _ _ (by assumption) (by assumption))
        (first
          | (go_at_call 56; refine (TX.out _ (by assumption)).mono ?_; rintro e w' ⟨rfl, hb⟩)
          | (go_at_call 71; refine (IT.out _ (by assumption)).mono ?_; rintro e w' ⟨rfl, hb⟩))
      all_goals
        go_wp2_with fail
        go_ret
        exact ⟨ret_string (by rw [E.out] <;> rfl), B4.out _ (And.left (by assumption))⟩
set_option maxHeartbeats 8000000 in
set_option maxRecDepth 100000 in
theorem rPfText_calls (hi lo n : Int) (h0 : 0 ≤ hi ∧ hi < 18446744073709551616) (h1 : 0 ≤ lo ∧ lo < 18446744073709551616) (hn0 : -9223372036854775808 ≤ n) (hn1 : n ≤ 9223372036854775807) (w : World) (hP : Aside0 (Pows w)) :
    Calls Tryz.prog 31 #[.agg #[.int .u64 hi, .int .u64 lo, .int .i64 n]] w fun e w' => e = .returned (.string (pfT hi lo n)) ∧ Below w.heap.size w w' := by
  obtain ⟨W0, hW0⟩ : ∃ W0, W0 = w.alloc (.cells #[.int .u64 hi, .int .u64 lo, .int .i64 n] 28) := ⟨_, rfl⟩
  obtain ⟨hg, hl, hb⟩ := box3 hW0
  have B0 := Aside0.mk hb
  have HW := Lib.hid hW0
  have hg0 := hg
  clear hg hW0 hb
  obtain ⟨k0, _⟩ := heap_cell (j := 0) hg0 rfl
  obtain ⟨k1, _⟩ := heap_cell (j := 1) hg0 rfl
  obtain ⟨k2, _⟩ := heap_cell (j := 2) hg0 rfl
  clear hg0
  have hP0 := hP.out.stays B0.out
  have B4 : Aside0 (∀ W, Below W0.heap.size W0 W → Below w.heap.size w W) := ⟨fun W h => below_then B0.out B0.out.size h⟩
  obtain ⟨g, hgs⟩ : ∃ g, g = w.heap.size := ⟨_, rfl⟩
  have HGS := Lib.hid hgs
  rw [← hgs] at k0 k1 k2
  clear hgs
  by_cases hc : 96 ≤ n ∧ hi = 0 ∧ lo / 4294967296 = 65535
  · have E := Lib.hid (show pfT hi lo n = adT (false, 0, lo % 4294967296) ++ slash ++ numT (n - 96) from if_pos hc)
    obtain ⟨c1, rfl, c3⟩ := hc
    have TX : Aside0 (∀ W : World, Below W0.heap.size W0 W ∧ W.cell? ⟨g, 0, none⟩ = some (.int .u64 0) ∧ W.cell? ⟨g, 1, none⟩ = some (.int .u64 lo) ∧ W.cell? ⟨g, 2, none⟩ = some (.int .i64 n) → Calls Tryz.prog 73 #[.int .u32 (lo % 4294967296)] W fun e w' => e = .returned (.string (adT (false, 0, lo % 4294967296))) ∧ Below W.heap.size W w') := ⟨fun W h => rTextM4 (lo % 4294967296) (by omega) (by omega) W ⟨hP0.stays h.1⟩⟩
    have IT : Aside0 (∀ W : World, Below W0.heap.size W0 W ∧ W.cell? ⟨g, 0, none⟩ = some (.int .u64 0) ∧ W.cell? ⟨g, 1, none⟩ = some (.int .u64 lo) ∧ W.cell? ⟨g, 2, none⟩ = some (.int .i64 n) → Calls Tryz.prog 71 #[.int .i64 (n - 96)] W fun e w' => e = .returned (.string (numT (n - 96))) ∧ Below W.heap.size W w') := ⟨fun W h => ItoaZ_calls (n - 96) (by omega) (by omega) W (hP0.stays h.1)⟩
    have KS : Aside0 (∀ W W' : World, (Below W0.heap.size W0 W ∧ W.cell? ⟨g, 0, none⟩ = some (.int .u64 0) ∧ W.cell? ⟨g, 1, none⟩ = some (.int .u64 lo) ∧ W.cell? ⟨g, 2, none⟩ = some (.int .i64 n)) → Below W.heap.size W W' → (Below W0.heap.size W0 W' ∧ W'.cell? ⟨g, 0, none⟩ = some (.int .u64 0) ∧ W'.cell? ⟨g, 1, none⟩ = some (.int .u64 lo) ∧ W'.cell? ⟨g, 2, none⟩ = some (.int .i64 n))) := ⟨fun W W' ⟨h, a, b, c⟩ hb => ⟨below_then h h.size hb, (hb.cell (cell_of_lt a)).trans a, (hb.cell (cell_of_lt b)).trans b, (hb.cell (cell_of_lt c)).trans c⟩⟩
    have KS0 : Aside0 (Below W0.heap.size W0 W0.drew ∧ W0.drew.cell? ⟨g, 0, none⟩ = some (.int .u64 0) ∧ W0.drew.cell? ⟨g, 1, none⟩ = some (.int .u64 lo) ∧ W0.drew.cell? ⟨g, 2, none⟩ = some (.int .i64 n)) := ⟨(Below.refl _ _).drew, k0, k1, k2⟩
    have z2 := numT_size (n - 96) (by omega) (by omega)
    have z1 := adT_size (false, 0, lo % 4294967296) ⟨rfl, by omega, by omega⟩
    have c4 : ¬ n < 96 := by omega
    have hwr : IntKind.i64.wrap (n - 96) = n - 96 := IntWalk.i64_in _ (by omega)
    have hr1 : lo.tmod 4294967296 = lo % 4294967296 := Int.tmod_eq_emod_of_nonneg h1.1
    have hr2 : IntKind.u32.wrap (lo % 4294967296) = lo % 4294967296 := by
      rw [show ∀ x, IntKind.u32.wrap x = x % 4294967296 from fun x => by simp [IntKind.wrap, IntKind.signed, IntKind.bits]]
      omega
    generalize adT (false, 0, lo % 4294967296) = tx at E TX z1
    generalize numT (n - 96) = nm at E IT z2
    have hq1 : ¬ 9223372036854775807 < tx.size + 1 := by omega
    have hq2 : ¬ 9223372036854775807 < tx.size + 1 + nm.size := by omega
    clear hP0 z1 z2
    go_enter Tryz.func31, Tryz.ntmps31
    go_wp2_with fail
    rw [← HW.out]
    rw [← HGS.out]
    go_wp2_with fail
    go_region_held3 (fun W => (Below W0.heap.size W0 W ∧ W.cell? ⟨g, 0, none⟩ = some (.int .u64 0) ∧ W.cell? ⟨g, 1, none⟩ = some (.int .u64 lo) ∧ W.cell? ⟨g, 2, none⟩ = some (.int .i64 n))) (first | exact KS0.out | exact KS.out _ _ (by assumption) (by assumption))
      (first
        | (go_at_call 73; refine (TX.out _ (by assumption)).mono ?_; rintro e w' ⟨rfl, hb⟩)
        | (go_at_call 71; refine (IT.out _ (by assumption)).mono ?_; rintro e w' ⟨rfl, hb⟩))
    all_goals
      go_wp2_with fail
      go_ret
      exact ⟨ret_string (by rw [E.out] <;> rfl), B4.out _ (And.left (by assumption))⟩
  · have E := Lib.hid (show pfT hi lo n = adT (true, hi, lo) ++ slash ++ numT n from if_neg hc)
    have TX : Aside0 (∀ W : World, Below W0.heap.size W0 W ∧ W.cell? ⟨g, 0, none⟩ = some (.int .u64 hi) ∧ W.cell? ⟨g, 1, none⟩ = some (.int .u64 lo) ∧ W.cell? ⟨g, 2, none⟩ = some (.int .i64 n) → Calls Tryz.prog 74 #[.int .u64 hi, .int .u64 lo] W fun e w' => e = .returned (.string (adT (true, hi, lo))) ∧ Below W.heap.size W w') := ⟨fun W h => rText5_calls hi lo h0 h1 W⟩
    have IT : Aside0 (∀ W : World, Below W0.heap.size W0 W ∧ W.cell? ⟨g, 0, none⟩ = some (.int .u64 hi) ∧ W.cell? ⟨g, 1, none⟩ = some (.int .u64 lo) ∧ W.cell? ⟨g, 2, none⟩ = some (.int .i64 n) → Calls Tryz.prog 71 #[.int .i64 n] W fun e w' => e = .returned (.string (numT n)) ∧ Below W.heap.size W w') := ⟨fun W h => ItoaZ_calls n (by omega) (by omega) W (hP0.stays h.1)⟩
    have KS : Aside0 (∀ W W' : World, (Below W0.heap.size W0 W ∧ W.cell? ⟨g, 0, none⟩ = some (.int .u64 hi) ∧ W.cell? ⟨g, 1, none⟩ = some (.int .u64 lo) ∧ W.cell? ⟨g, 2, none⟩ = some (.int .i64 n)) → Below W.heap.size W W' → (Below W0.heap.size W0 W' ∧ W'.cell? ⟨g, 0, none⟩ = some (.int .u64 hi) ∧ W'.cell? ⟨g, 1, none⟩ = some (.int .u64 lo) ∧ W'.cell? ⟨g, 2, none⟩ = some (.int .i64 n))) := ⟨fun W W' ⟨h, a, b, c⟩ hb => ⟨below_then h h.size hb, (hb.cell (cell_of_lt a)).trans a, (hb.cell (cell_of_lt b)).trans b, (hb.cell (cell_of_lt c)).trans c⟩⟩
    have KS0 : Aside0 (Below W0.heap.size W0 W0.drew ∧ W0.drew.cell? ⟨g, 0, none⟩ = some (.int .u64 hi) ∧ W0.drew.cell? ⟨g, 1, none⟩ = some (.int .u64 lo) ∧ W0.drew.cell? ⟨g, 2, none⟩ = some (.int .i64 n)) := ⟨(Below.refl _ _).drew, k0, k1, k2⟩
    have z2 := numT_size n (by omega) (by omega)
    have z1 := adT_size (true, hi, lo) ⟨h0, h1⟩
    generalize adT (true, hi, lo) = tx at E TX z1
    generalize numT n = nm at E IT z2
    have hq1 : ¬ 9223372036854775807 < tx.size + 1 := by omega
    have hq2 : ¬ 9223372036854775807 < tx.size + 1 + nm.size := by omega
    clear hP0 z1 z2
    have hw : n < 96 ∨ (96 ≤ n ∧ hi ≠ 0) ∨ (96 ≤ n ∧ hi = 0 ∧ lo / 4294967296 ≠ 65535) := by omega
    clear hc
    rcases hw with hw | ⟨hwa, hwb⟩ | ⟨hwa, rfl, hwb⟩
    · go_enter Tryz.func31, Tryz.ntmps31
      go_wp2_with fail
      rw [← HW.out]
      rw [← HGS.out]
      go_wp2_with fail
      go_region_held3 (fun W => (Below W0.heap.size W0 W ∧ W.cell? ⟨g, 0, none⟩ = some (.int .u64 hi) ∧ W.cell? ⟨g, 1, none⟩ = some (.int .u64 lo) ∧ W.cell? ⟨g, 2, none⟩ = some (.int .i64 n))) (first | exact KS0.out | exact KS.out _ _ (by assumption) (by assumption))
        (first
          | (go_at_call 74; refine (TX.out _ (by assumption)).mono ?_; rintro e w' ⟨rfl, hb⟩)
          | (go_at_call 71; refine (IT.out _ (by assumption)).mono ?_; rintro e w' ⟨rfl, hb⟩))
      all_goals
        go_wp2_with fail
        go_ret
        exact ⟨ret_string (by rw [E.out] <;> rfl), B4.out _ (And.left (by assumption))⟩
    · go_enter Tryz.func31, Tryz.ntmps31
      go_wp2_with fail
      rw [← HW.out]
      rw [← HGS.out]
      go_wp2_with fail
      go_region_held3 (fun W => (Below W0.heap.size W0 W ∧ W.cell? ⟨g, 0, none⟩ = some (.int .u64 hi) ∧ W.cell? ⟨g, 1, none⟩ = some (.int .u64 lo) ∧ W.cell? ⟨g, 2, none⟩ = some (.int .i64 n))) (first | exact KS0.out | exact KS.out _ _ (by assumption) (by assumption))
        (first
          | (go_at_call 74; refine (TX.out _ (by assumption)).mono ?_; rintro e w' ⟨rfl, hb⟩)
          | (go_at_call 71; refine (IT.out _ (by assumption)).mono ?_; rintro e w' ⟨rfl, hb⟩))
      all_goals
        go_wp2_with fail
        go_ret
        exact ⟨ret_string (by rw [E.out] <;> rfl), B4.out _ (And.left (by assumption))⟩
    · go_enter Tryz.func31, Tryz.ntmps31
      go_wp2_with fail
      rw [← HW.out]
      rw [← HGS.out]
      go_wp2_with fail
      go_region_held3 (fun W => (Below W0.heap.size W0 W ∧ W.cell? ⟨g, 0, none⟩ = some (.int .u64 0) ∧ W.cell? ⟨g, 1, none⟩ = some (.int .u64 lo) ∧ W.cell? ⟨g, 2, none⟩ = some (.int .i64 n))) (first | exact KS0.out | exact KS.out _ _ (by assumption) (by assumption))
        (first
          | (go_at_call 74; refine (TX.out _ (by assumption)).mono ?_; rintro e w' ⟨rfl, hb⟩)
          | (go_at_call 71; refine (IT.out _ (by assumption)).mono ?_; rintro e w' ⟨rfl, hb⟩))
      all_goals
        go_wp2_with fail
        go_ret
        exact ⟨ret_string (by rw [E.out] <;> rfl), B4.out _ (And.left (by assumption))⟩
end Go.Proofs.YtplehdcnnaamkaaGreatDoor

/- The chapter's examples of layer 5: plain Lean. -/
namespace Go.Proofs.YtplehdcnnaamkaaGreatDoor
open Go.RowKit Go.Proofs.YtplehdcnnaamkaaGreatDoorW.PrintWords

theorem six_x1 : sixL [58, 58, 102, 102, 102, 102, 58, 49, 46, 50, 46, 51, 46, 52] = some [0, 0, 0, 0, 0, 65535, 258, 772] := by decide +kernel
theorem six_x2 : sixL [49, 58, 50, 58, 51, 58, 52, 58, 53, 58, 54, 58, 55] = none := by decide +kernel
theorem text_x1 : textL6 [0, 0, 0, 0, 0, 65535, 258, 772] = [58, 58, 102, 102, 102, 102, 58, 49, 48, 50, 58, 51, 48, 52] := by decide +kernel
theorem text_x2 : textL6 [1, 0, 0, 2, 0, 0, 0, 0] = [49, 58, 48, 58, 48, 58, 50, 58, 58] := by decide +kernel
end Go.Proofs.YtplehdcnnaamkaaGreatDoor

/- The chapter's examples of layer 4, walked. -/
namespace Go.Proofs.YtplehdcnnaamkaaGreatDoor
open Go.RowKit Go.Proofs.YtplehdcnnaamkaaGreatDoorW.PrintWords Go.Proofs.YtplehdcnnaamkaaGreatDoorW.PrintMore

theorem four_x1 : fourN [48, 120, 55, 102, 46, 49] = 2130706433 ∧ fourOk [48, 120, 55, 102, 46, 49] = true := by decide +kernel
theorem four_x2 : fourOk [49, 46, 50, 46, 51, 46, 50, 53, 54] = false := by decide +kernel
theorem four_x3 : fourN [50, 53, 54] = 256 ∧ fourOk [50, 53, 54] = true := by decide +kernel
theorem AwakeL3_calls (w : World) : Calls Tryz.prog 153 #[] w fun e w' => e = .returned (.bool true) ∧ Below w.heap.size w w' := by
  go_enter Tryz.func153, Tryz.ntmps153
  go_wp2_with fail
  refine (awake3_calls _).mono ?_
  rintro e w1 ⟨rfl, hb⟩
  go_wp2
  go_ret
  exact ⟨rfl, hb⟩
set_option maxHeartbeats 1000000 in
theorem awake4_calls (w : World) : Calls Tryz.prog 122 #[] w fun e w' => e = .returned (.bool true) ∧ Below w.heap.size w w' := by
  go_enter Tryz.func122, Tryz.ntmps122
  go_wp2_with fail
  refine (Four_calls _ _ (by decide)).mono ?_
  rintro e w1 ⟨rfl, b1⟩
  rw [show (ByteArray.mk #[48, 120, 55, 102, 46, 49]).data.toList = [48, 120, 55, 102, 46, 49] from rfl, four_x1.1, four_x1.2]
  go_wp2_with fail
  refine (Four_calls _ _ (by decide)).mono ?_
  rintro e w2 ⟨rfl, b2⟩
  rw [show (ByteArray.mk #[49, 46, 50, 46, 51, 46, 50, 53, 54]).data.toList = [49, 46, 50, 46, 51, 46, 50, 53, 54] from rfl, four_x2]
  go_wp2_with fail
  refine (Four_calls _ _ (by decide)).mono ?_
  rintro e w3 ⟨rfl, b3⟩
  rw [show (ByteArray.mk #[50, 53, 54]).data.toList = [50, 53, 54] from rfl, four_x3.1, four_x3.2]
  go_wp2_with fail
  refine (AwakeL3_calls _).mono ?_
  rintro e w4 ⟨rfl, b4⟩
  have B2 := Aside0.mk (below_then b1 b1.size b2)
  have B3 := Aside0.mk (below_then B2.out B2.out.size b3)
  have B4 := Aside0.mk (below_then B3.out B3.out.size b4)
  clear b1 b2 b3 b4
  go_wp2_with fail
  refine (Of_calls 127 0 0 1 (by omega) (by omega) (by omega) (by omega) _).mono ?_
  rintro e w5 ⟨rfl, rfl⟩
  simp only [Int.reduceMul, Int.reduceAdd]
  go_wp2_with fail
  refine (Of_calls 0 0 1 0 (by omega) (by omega) (by omega) (by omega) _).mono ?_
  rintro e w6 ⟨rfl, rfl⟩
  simp only [Int.reduceMul, Int.reduceAdd]
  go_wp2_with fail
  go_ret
  exact ⟨rfl, B4.out⟩
end Go.Proofs.YtplehdcnnaamkaaGreatDoor

/- The chapter's examples of layer 5, walked. -/
namespace Go.Proofs.YtplehdcnnaamkaaGreatDoor
open Go.RowKit Go.Proofs.YtplehdcnnaamkaaGreatDoorW.PrintWords Go.Proofs.YtplehdcnnaamkaaGreatDoorW.PrintMore

theorem six_v1 : sixHi [58, 58, 102, 102, 102, 102, 58, 49, 46, 50, 46, 51, 46, 52] = 0 ∧ sixLo [58, 58, 102, 102, 102, 102, 58, 49, 46, 50, 46, 51, 46, 52] = 281470698652420 ∧ sixOk [58, 58, 102, 102, 102, 102, 58, 49, 46, 50, 46, 51, 46, 52] = true := by
  have h := six_some six_x1
  exact ⟨h.1.trans (by decide), h.2.1.trans (by decide), h.2.2⟩
theorem six_v2 : sixHi [49, 58, 50, 58, 51, 58, 52, 58, 53, 58, 54, 58, 55] = 0 ∧ sixLo [49, 58, 50, 58, 51, 58, 52, 58, 53, 58, 54, 58, 55] = 0 ∧ sixOk [49, 58, 50, 58, 51, 58, 52, 58, 53, 58, 54, 58, 55] = false := six_none six_x2
theorem AwakeL4_calls (w : World) : Calls Tryz.prog 89 #[] w fun e w' => e = .returned (.bool true) ∧ Below w.heap.size w w' := by
  go_enter Tryz.func89, Tryz.ntmps89
  go_wp2_with fail
  refine (awake4_calls _).mono ?_
  rintro e w1 ⟨rfl, hb⟩
  go_wp2
  go_ret
  exact ⟨rfl, hb⟩
theorem half_x : half ((eight [1, 0, 0, 2]).take 4) = 281474976710658 ∧ half ((eight [1, 0, 0, 2]).drop 4) = 0 := by decide
theorem pcs_x1 : piecesOf 0 281470698652420 = [0, 0, 0, 0, 0, 65535, 258, 772] := by decide
theorem pcs_x2 : piecesOf 281474976710658 0 = [1, 0, 0, 2, 0, 0, 0, 0] := by decide

set_option maxHeartbeats 2000000 in
set_option maxRecDepth 100000 in
theorem awake5_calls (w : World) (hE : Aside0 (Errs w)) (hM : Aside0 (Mx w)) (hP : Aside0 (Pows w)) (hT : Aside0 (Debr w)) : Calls Tryz.prog 53 #[] w fun e w' => e = .returned (.bool true) ∧ Below w.heap.size w w' := by
  go_enter Tryz.func53, Tryz.ntmps53
  go_wp2_with fail
  refine (SixParse_calls _ _ (by decide) hE hM).mono ?_
  rintro e w1 ⟨rfl, b1⟩
  rw [show (ByteArray.mk #[58, 58, 102, 102, 102, 102, 58, 49, 46, 50, 46, 51, 46, 52]).data.toList = [58, 58, 102, 102, 102, 102, 58, 49, 46, 50, 46, 51, 46, 52] from rfl, six_v1.1, six_v1.2.1, six_v1.2.2]
  have B1 := Aside0.mk b1
  clear b1
  go_wp2_with fail
  obtain ⟨W1, hW1⟩ : ∃ W1, W1 = w1.alloc (.cells #[.int .u64 0, .int .u64 281470698652420] 34) := ⟨_, rfl⟩
  rw [← hW1]
  have hg : W1.heap[w1.heap.size]? = some (.cells #[.int .u64 0, .int .u64 281470698652420] 34 (0, 0)) := by rw [hW1]; exact heap_alloc_new' _ _ _ rfl
  have hlt : w1.heap.size < W1.heap.size := by rw [hW1]; simp
  have BW1 : Aside0 (Below w.heap.size w W1) := ⟨by rw [hW1]; exact B1.out.alloc B1.out.size _⟩
  have HG := Aside0.mk hg
  clear hW1 hg
  generalize w1.heap.size = g at *
  refine (SixParse_calls _ _ (by decide) ⟨hE.out.stays BW1.out⟩ ⟨hM.out.stays BW1.out⟩).mono ?_
  rintro e w2 ⟨rfl, b2⟩
  rw [show (ByteArray.mk #[49, 58, 50, 58, 51, 58, 52, 58, 53, 58, 54, 58, 55]).data.toList = [49, 58, 50, 58, 51, 58, 52, 58, 53, 58, 54, 58, 55] from rfl, six_v2.1, six_v2.2.1, six_v2.2.2]
  have hg2 := (b2.block g hlt).trans HG.out
  have B2 := Aside0.mk (below_then BW1.out BW1.out.size b2)
  have hlt2 : g < w2.heap.size := Nat.lt_of_lt_of_le hlt b2.size
  clear b2
  go_wp2_with fail
  obtain ⟨W2, hW2⟩ : ∃ W2, W2 = w2.alloc (.cells #[.int .u64 0, .int .u64 0] 34) := ⟨_, rfl⟩
  rw [← hW2]
  have hg3 : W2.heap[g]? = some (.cells #[.int .u64 0, .int .u64 281470698652420] 34 (0, 0)) := by rw [hW2, heap_alloc_old' _ _ _ hlt2]; exact hg2
  have BW2 : Aside0 (Below w.heap.size w W2) := ⟨by rw [hW2]; exact B2.out.alloc B2.out.size _⟩
  have hlt3 : g < W2.heap.size := by rw [hW2]; simp; omega
  have HG3 := Aside0.mk hg3
  clear hW2 hg2 hg3
  refine (AwakeL4_calls _).mono ?_
  rintro e w3 ⟨rfl, b3⟩
  have hg4 := (b3.block g hlt3).trans HG3.out
  have B3 := Aside0.mk (below_then BW2.out BW2.out.size b3)
  obtain ⟨c0, _⟩ := heap_cell (j := 0) hg4 rfl
  obtain ⟨c1, _⟩ := heap_cell (j := 1) hg4 rfl
  clear b3 hg4
  go_wp2_with fail
  refine (Text6_calls 0 281470698652420 (by omega) (by omega) _ ⟨hP.out.stays B3.out⟩ ⟨hT.out.stays B3.out⟩).mono ?_
  rintro e w4 ⟨rfl, b4⟩
  have B4 := Aside0.mk (below_then B3.out B3.out.size b4)
  rw [pcs_x1, text_x1]
  clear b4 c0 c1
  go_wp2_with fail
  have hs := SixOf_calls (some ⟨w4.heap.size, 0, none⟩) 4 [1, 0, 0, 2] (w4.alloc (.cells #[.int .u16 1, .int .u16 0, .int .u16 0, .int .u16 2] 102)) (by decide) (by decide) (fun _ => ⟨_, rfl, fun j v hv => by
    rw [Go.Proofs.YtplehdcnnaamkaaGreatDoorW.PrintWords.add_plain, World.cell?_alloc_new]
    exact (by simpa [u16s] using hv)⟩)
  rw [half_x.1, half_x.2, show ([1, 0, 0, 2] : List Int).length = 4 from rfl] at hs
  refine hs.mono ?_
  rintro e w5 ⟨rfl, b5⟩
  have B5 : Aside0 (Below w.heap.size w w5) := ⟨below_then (B4.out.alloc B4.out.size _) (by have := B4.out.size; simp; omega) b5⟩
  clear b5 hs
  go_wp2_with fail
  refine (Text6_calls 281474976710658 0 (by omega) (by omega) _ ⟨hP.out.stays B5.out⟩ ⟨hT.out.stays B5.out⟩).mono ?_
  rintro e w6 ⟨rfl, b6⟩
  have B6 := Aside0.mk (below_then B5.out B5.out.size b6)
  rw [pcs_x2, text_x2]
  clear b6
  go_wp2_with fail
  go_ret
  exact ⟨by simp, B6.out⟩
end Go.Proofs.YtplehdcnnaamkaaGreatDoor

/- Layer 6 is awake. -/
namespace Go.Proofs.YtplehdcnnaamkaaGreatDoor
open Go.RowKit Go.Proofs.YtplehdcnnaamkaaGreatDoorW.PrintWords Go.Proofs.YtplehdcnnaamkaaGreatDoorW.PrintMore

theorem ad_x1 : adOf [58, 58, 102, 102, 102, 102, 58, 55, 102, 48, 48, 58, 49] = some (true, 0, 281472812449793) := by decide +kernel
theorem ad_x2 : adOf [50, 48, 48, 50, 58, 55, 102, 48, 48, 58, 49, 58, 58] = some (true, 2306545597143908352, 0) := by decide +kernel
theorem in_x1 : inL4 0 281472812449793 = [2130706433] := by decide
theorem in_x2 : inL4 2306545597143908352 0 = [2130706433] := by decide
theorem AwakeL5_calls (w : World) (hE : Aside0 (Errs w)) (hM : Aside0 (Mx w)) (hP : Aside0 (Pows w)) (hT : Aside0 (Debr w)) : Calls Tryz.prog 139 #[] w fun e w' => e = .returned (.bool true) ∧ Below w.heap.size w w' := by
  go_enter Tryz.func139, Tryz.ntmps139
  go_wp2_with fail
  refine (awake5_calls _ hE hM hP hT).mono ?_
  rintro e w1 ⟨rfl, b1⟩
  go_wp2_with fail
  go_ret
  exact ⟨rfl, b1⟩
set_option maxHeartbeats 4000000 in
set_option maxRecDepth 100000 in
theorem awake6_calls (w : World) (hE : Aside0 (Errs w)) (hM : Aside0 (Mx w)) (hP : Aside0 (Pows w)) (hT : Aside0 (Debr w)) : Calls Tryz.prog 107 #[] w fun e w' => e = .returned (.bool true) ∧ Below w.heap.size w w' := by
  go_enter Tryz.func107, Tryz.ntmps107
  go_wp2_with fail
  refine (AdParse_calls _ _ (by decide) hE hM).mono ?_
  rw [show (ByteArray.mk #[58, 58, 102, 102, 102, 102, 58, 55, 102, 48, 48, 58, 49]).data.toList = [58, 58, 102, 102, 102, 102, 58, 55, 102, 48, 48, 58, 49] from rfl, ad_x1]
  simp only [adVo, adV, Option.isSome]
  rintro e w1 ⟨rfl, b1⟩
  have B1 := Aside0.mk b1
  clear b1
  go_wp2_with fail
  refine (AdParse_calls _ _ (by decide) ⟨hE.out.stays B1.out⟩ ⟨hM.out.stays B1.out⟩).mono ?_
  rw [show (ByteArray.mk #[50, 48, 48, 50, 58, 55, 102, 48, 48, 58, 49, 58, 58]).data.toList = [50, 48, 48, 50, 58, 55, 102, 48, 48, 58, 49, 58, 58] from rfl, ad_x2]
  simp only [adVo, adV, Option.isSome]
  rintro e w2 ⟨rfl, b2⟩
  have B2 := Aside0.mk (below_then B1.out B1.out.size b2)
  clear b2
  go_wp2_with fail
  refine (AwakeL5_calls _ ⟨hE.out.stays B2.out⟩ ⟨hM.out.stays B2.out⟩ ⟨hP.out.stays B2.out⟩ ⟨hT.out.stays B2.out⟩).mono ?_
  rintro e w3 ⟨rfl, b3⟩
  have B3 := Aside0.mk (below_then B2.out B2.out.size b3)
  clear b3
  go_wp2_with fail
  refine (Inner6_calls 0 281472812449793 (by omega) (by omega) _).mono ?_
  rw [in_x1]
  rintro e w4 ⟨v, rfl, hR, b4⟩
  have B4 := Aside0.mk (below_then B3.out B3.out.size b4)
  obtain ⟨A, c, rfl, hcap, hC⟩ := Kd.R_reads hR
  simp only [List.length_cons, List.length_nil, Nat.zero_add]
  have HC := Aside0.mk hC
  clear hR hC b4
  go_wp2_with fail
  refine (EqualF_calls [2130706433] [2130706433] 1 1 rfl rfl A (some ⟨w4.heap.size, 0, none⟩) c 1 _ (by omega) (fun j hj => C_kget (Kd.C_alloc HC.out _) j hj) (fun j hj => C_kget (C_new .u32 w4 [2130706433] _ (by decide)) j hj)).mono ?_
  rw [show decide (([2130706433] : List Int) = [2130706433]) = true from rfl]
  rintro e w5 ⟨rfl, b5⟩
  have B5 : Aside0 (Below w.heap.size w w5) := ⟨below_then (B4.out.alloc B4.out.size _) (by have := B4.out.size; simp; omega) b5⟩
  clear b5 HC hcap
  go_wp2_with fail
  refine (Inner6_calls 2306545597143908352 0 (by omega) (by omega) _).mono ?_
  rw [in_x2]
  rintro e w6 ⟨v, rfl, hR, b6⟩
  have B6 := Aside0.mk (below_then B5.out B5.out.size b6)
  obtain ⟨A2, c2, rfl, hcap, hC⟩ := Kd.R_reads hR
  simp only [List.length_cons, List.length_nil, Nat.zero_add]
  have HC := Aside0.mk hC
  clear hR hC b6
  go_wp2_with fail
  refine (EqualF_calls [2130706433] [2130706433] 1 1 rfl rfl A2 (some ⟨w6.heap.size, 0, none⟩) c2 1 _ (by omega) (fun j hj => C_kget (Kd.C_alloc HC.out _) j hj) (fun j hj => C_kget (C_new .u32 w6 [2130706433] _ (by decide)) j hj)).mono ?_
  rw [show decide (([2130706433] : List Int) = [2130706433]) = true from rfl]
  rintro e w7 ⟨rfl, b7⟩
  have B7 : Aside0 (Below w.heap.size w w7) := ⟨below_then (B6.out.alloc B6.out.size _) (by have := B6.out.size; simp; omega) b7⟩
  clear b7
  go_wp2_with fail
  go_ret
  exact ⟨rfl, B7.out⟩
end Go.Proofs.YtplehdcnnaamkaaGreatDoor

/- Layer 7 is awake. -/
namespace Go.Proofs.YtplehdcnnaamkaaGreatDoor
open Go.RowKit Go.Proofs.YtplehdcnnaamkaaGreatDoorW.PrintWords Go.Proofs.YtplehdcnnaamkaaGreatDoorW.PrintMore

theorem pf_x1 : pfOf [49, 48, 46, 48, 46, 48, 46, 48, 47, 56] = some (0, 281470849515520, 104) := by decide +kernel
theorem ad_x3 : adOf [49, 48, 46, 49, 46, 50, 46, 51] = some (false, 0, 167838211) := by decide +kernel
theorem ad_x4 : adOf [58, 58, 102, 102, 102, 102, 58, 49, 48, 46, 49, 46, 50, 46, 51] = some (true, 0, 281470849581571) := by decide +kernel
theorem ad_x5 : adOf [49, 49, 46, 49, 46, 50, 46, 51] = some (false, 0, 184615427) := by decide +kernel
theorem has_x1 : hasO 0 281470849515520 104 (some (false, 0, 167838211)) = true := by decide +kernel
theorem has_x2 : hasO 0 281470849515520 104 (some (true, 0, 281470849581571)) = true := by decide +kernel
theorem has_x3 : hasO 0 281470849515520 104 (some (false, 0, 184615427)) = false := by decide +kernel
theorem AwakeL6_calls (w : World) (hE : Aside0 (Errs w)) (hM : Aside0 (Mx w)) (hP : Aside0 (Pows w)) (hT : Aside0 (Debr w)) : Calls Tryz.prog 62 #[] w fun e w' => e = .returned (.bool true) ∧ Below w.heap.size w w' := by
  go_enter Tryz.func62, Tryz.ntmps62
  go_wp2_with fail
  refine (awake6_calls _ hE hM hP hT).mono ?_
  rintro e w1 ⟨rfl, b1⟩
  go_wp2_with fail
  go_ret
  exact ⟨rfl, b1⟩
theorem ok_some (a : Bool × Int × Int) (h : adOk a) : ∀ b, some a = some b → adOk b := fun b e => by rw [← Option.some.inj e]; exact h
set_option maxHeartbeats 4000000 in
set_option maxRecDepth 100000 in
theorem awake7_calls (w : World) (hE : Aside0 (Errs w)) (hM : Aside0 (Mx w)) (hP : Aside0 (Pows w)) (hT : Aside0 (Debr w)) : Calls Tryz.prog 15 #[] w fun e w' => e = .returned (.bool true) ∧ Below w.heap.size w w' := by
  go_enter Tryz.func15, Tryz.ntmps15
  go_wp2_with fail
  refine (PfParse_calls _ _ (by decide) hE hM).mono ?_
  rw [show (ByteArray.mk #[49, 48, 46, 48, 46, 48, 46, 48, 47, 56]).data.toList = [49, 48, 46, 48, 46, 48, 46, 48, 47, 56] from rfl, pf_x1]
  simp only [pfV, Option.isSome]
  rintro e w1 ⟨rfl, b1⟩
  obtain ⟨W1, hW1⟩ : ∃ W1, W1 = w1.alloc (.cells #[.int .u64 0, .int .u64 281470849515520, .int .i64 104] 25) := ⟨_, rfl⟩
  obtain ⟨hg1, hl1, hb1⟩ := box3 hW1
  have HW1 := Lib.hid hW1
  have HG1 := Aside0.mk hg1
  have B1 := Aside0.mk (below_then b1 b1.size hb1)
  clear hW1 hg1 b1 hb1
  go_wp2_with fail
  rw [← HW1.out]
  refine (AdParse_calls _ _ (by decide) ⟨hE.out.stays B1.out⟩ ⟨hM.out.stays B1.out⟩).mono ?_
  rw [show (ByteArray.mk #[49, 48, 46, 49, 46, 50, 46, 51]).data.toList = [49, 48, 46, 49, 46, 50, 46, 51] from rfl, ad_x3]
  simp only [adVo, adV, Option.isSome]
  rintro e w2 ⟨rfl, b2⟩
  have HG2 := Aside0.mk ((b2.block _ hl1).trans HG1.out)
  have hl2 := Nat.lt_of_lt_of_le hl1 b2.size
  have B2 := Aside0.mk (below_then B1.out B1.out.size b2)
  clear b2
  go_wp2_with fail
  refine (AdParse_calls _ _ (by decide) ⟨hE.out.stays B2.out⟩ ⟨hM.out.stays B2.out⟩).mono ?_
  rw [show (ByteArray.mk #[58, 58, 102, 102, 102, 102, 58, 49, 48, 46, 49, 46, 50, 46, 51]).data.toList = [58, 58, 102, 102, 102, 102, 58, 49, 48, 46, 49, 46, 50, 46, 51] from rfl, ad_x4]
  simp only [adVo, adV, Option.isSome]
  rintro e w3 ⟨rfl, b3⟩
  have HG3 := Aside0.mk ((b3.block _ hl2).trans HG2.out)
  have hl3 := Nat.lt_of_lt_of_le hl2 b3.size
  have B3 := Aside0.mk (below_then B2.out B2.out.size b3)
  clear b3
  go_wp2_with fail
  refine (AdParse_calls _ _ (by decide) ⟨hE.out.stays B3.out⟩ ⟨hM.out.stays B3.out⟩).mono ?_
  rw [show (ByteArray.mk #[49, 49, 46, 49, 46, 50, 46, 51]).data.toList = [49, 49, 46, 49, 46, 50, 46, 51] from rfl, ad_x5]
  simp only [adVo, adV, Option.isSome]
  rintro e w4 ⟨rfl, b4⟩
  have HG4 := Aside0.mk ((b4.block _ hl3).trans HG3.out)
  have hl4 := Nat.lt_of_lt_of_le hl3 b4.size
  have B4 := Aside0.mk (below_then B3.out B3.out.size b4)
  clear b4
  go_wp2_with fail
  refine (AwakeL6_calls _ ⟨hE.out.stays B4.out⟩ ⟨hM.out.stays B4.out⟩ ⟨hP.out.stays B4.out⟩ ⟨hT.out.stays B4.out⟩).mono ?_
  rintro e w5 ⟨rfl, b5⟩
  have HG5 := Aside0.mk ((b5.block _ hl4).trans HG4.out)
  have hl5 := Nat.lt_of_lt_of_le hl4 b5.size
  have B5 := Aside0.mk (below_then B4.out B4.out.size b5)
  have hg5 := HG5.out
  obtain ⟨k0, _⟩ := heap_cell (j := 0) hg5 rfl
  obtain ⟨k1, _⟩ := heap_cell (j := 1) hg5 rfl
  obtain ⟨k2, _⟩ := heap_cell (j := 2) hg5 rfl
  clear b5 hg5
  go_wp2_with fail
  refine (PfHas_calls 0 281470849515520 104 (some (false, 0, 167838211)) (ok_some _ ⟨rfl, by omega, by omega⟩) (by omega) (by omega) _).mono ?_
  rw [has_x1]
  rintro e w6 ⟨rfl, b6⟩
  have HG6 := Aside0.mk ((b6.block _ hl5).trans HG5.out)
  have hl6 := Nat.lt_of_lt_of_le hl5 b6.size
  have B6 := Aside0.mk (below_then B5.out B5.out.size b6)
  have hg6 := HG6.out
  clear k0 k1 k2
  obtain ⟨k0, _⟩ := heap_cell (j := 0) hg6 rfl
  obtain ⟨k1, _⟩ := heap_cell (j := 1) hg6 rfl
  obtain ⟨k2, _⟩ := heap_cell (j := 2) hg6 rfl
  clear b6 hg6
  go_wp2_with fail
  refine (PfHas_calls 0 281470849515520 104 (some (true, 0, 281470849581571)) (ok_some _ ⟨by omega, by omega⟩) (by omega) (by omega) _).mono ?_
  rw [has_x2]
  rintro e w7 ⟨rfl, b7⟩
  have HG7 := Aside0.mk ((b7.block _ hl6).trans HG6.out)
  have B7 := Aside0.mk (below_then B6.out B6.out.size b7)
  have hg7 := HG7.out
  clear k0 k1 k2
  obtain ⟨k0, _⟩ := heap_cell (j := 0) hg7 rfl
  obtain ⟨k1, _⟩ := heap_cell (j := 1) hg7 rfl
  obtain ⟨k2, _⟩ := heap_cell (j := 2) hg7 rfl
  clear b7 hg7
  go_wp2_with fail
  refine (PfHas_calls 0 281470849515520 104 (some (false, 0, 184615427)) (ok_some _ ⟨rfl, by omega, by omega⟩) (by omega) (by omega) _).mono ?_
  rw [has_x3]
  rintro e w8 ⟨rfl, b8⟩
  have B8 := Aside0.mk (below_then B7.out B7.out.size b8)
  clear b8
  go_wp2_with fail
  go_ret
  exact ⟨rfl, B8.out⟩
end Go.Proofs.YtplehdcnnaamkaaGreatDoor

/- The law PrefixReads, walked. -/
namespace Go.Proofs.YtplehdcnnaamkaaGreatDoor
open Go.RowKit Go.Proofs.YtplehdcnnaamkaaGreatDoorW.PrintWords Go.Proofs.YtplehdcnnaamkaaGreatDoorW.PrintMore

set_option maxRecDepth 100000 in
theorem ep_28 (a b c a' b' c' : Int) (w : World) : (binOp .eql 28 (.agg #[.int .u64 a, .int .u64 b, .int .i64 c]) (.agg #[.int .u64 a', .int .u64 b', .int .i64 c'])).run Tryz.prog w = .ok (.bool (a == a' && (b == b' && c == c'))) w := by
  have h : (Op.equalIn (9998 + 2) 28 (.agg #[.int .u64 a, .int .u64 b, .int .i64 c]) (.agg #[.int .u64 a', .int .u64 b', .int .i64 c'])).run Tryz.prog w = .ok (a == a' && (b == b' && c == c')) w := by
    have e1 : (Op.equalIn (9998 + 1) 23 (.int .u64 a) (.int .u64 a')).run Tryz.prog w = .ok (a == a') w := run_equalIn_int w 9998 23 .u64 .u64 a a' Tryz.underlying23
    have e2 : (Op.equalIn (9998 + 1) 23 (.int .u64 b) (.int .u64 b')).run Tryz.prog w = .ok (b == b') w := run_equalIn_int w 9998 23 .u64 .u64 b b' Tryz.underlying23
    have e3 : (Op.equalIn (9998 + 1) 3 (.int .i64 c) (.int .i64 c')).run Tryz.prog w = .ok (c == c') w := run_equalIn_int w 9998 3 .i64 .i64 c c' Tryz.underlying3
    refine eqA_of Tryz.underlying28 (by kernel_rfl) ?_
    exact eqf_cons rfl (by kernel_rfl) (by kernel_rfl) e1 (eqf_cons rfl (by kernel_rfl) (by kernel_rfl) e2 (eqf_last rfl (by kernel_rfl) (by kernel_rfl) e3))
  simp only [binOp]
  simp [Op.equal, Op.maxDepth, h]
theorem eg_28 (a b c a' b' c' : Int) (o1 o2 : Operand) (w : World) : (eqGuard .eql 28 o1 o2 (.agg #[.int .u64 a, .int .u64 b, .int .i64 c]) (.agg #[.int .u64 a', .int .u64 b', .int .i64 c'])).run Tryz.prog w = .ok () w := by kernel_rfl
end Go.Proofs.YtplehdcnnaamkaaGreatDoor

