/- Texts that the claim's row leans on, joined by wip/pack.py: Pfs PrefixTells TrieBack Wrap -/
import Derived.Test.YtplehdcnnaamkaaGreatDoorKTrieBack4
import Derived.Deep.SlicePairs
import Derived.Handed
import Derived.SizedLaws
import Derived.Shelf.Vars
import Derived.ChangeSlices
import Derived.Carry
/- A slice of prefixes, handed in: opened. -/
namespace Go.Proofs.YtplehdcnnaamkaaGreatDoor
open Go.ChangeShapes Go.WideShapes Go.Deep

/-- A row of prefixes lies at an address. -/
def PfRow (w : World) (A : Option Addr) (ps : List P3) : Prop := ∀ j, j < ps.length → ∃ ad, A = some ad ∧ w.cell? (ad.add (j * 3)) = some (.int .u64 (ps.getD j (0, 0, 0)).1) ∧ w.cell? (ad.add (j * 3 + 1)) = some (.int .u64 (ps.getD j (0, 0, 0)).2.1) ∧ w.cell? (ad.add (j * 3 + 2)) = some (.int .i64 (ps.getD j (0, 0, 0)).2.2)
/-- A prefix's length is an int. -/
def okP3 (p : P3) : Prop := okP p ∧ -9223372036854775808 ≤ p.2.2 ∧ p.2.2 ≤ 9223372036854775807
theorem getD_range {α : Type} (f : Nat → α) (n j : Nat) (h : j < n) (d : α) : ((List.range n).map f).getD j d = f j := by
  rw [List.getD_eq_getElem?_getD, List.getElem?_map, List.getElem?_range h]
  rfl
theorem open_pfxs {H : Type} {enc : TypeId × Value → H} {P : Program} {w : World} {r : Reach} {b0 base : Nat} {spare : Nat → Bool} {held : Bool} {t e e0 e2 : TypeId} {n0 n1 n2 t0 t1 t2 p0 p1 p2 : String} {m0 m1 m2 : Bool} {k0 k1 k2 : Nat} {v : Value} {d : DataW H} {ps : List MemPlace}
    (ht : P.underlying t = some (.slice e)) (he : P.underlying e = some (.struct #[⟨n0, e0, 0, m0, t0, p0, k0⟩, ⟨n1, e0, 1, m1, t1, p1, k1⟩, ⟨n2, e2, 2, m2, t2, p2, k2⟩])) (ce : P.cellsOf e = 3) (c0 : P.cellsOf e0 = 1) (c2 : P.cellsOf e2 = 1) (h0 : P.underlying e0 = some (.int .u64)) (h2 : P.underlying e2 = some (.int .i64))
    (hval : Value.okWide P w r b0 t v) (hd : DataW.Trod enc P w base spare held t v d ps) :
    ∃ (A : Option Addr) (c : Nat) (xs : List P3), v = .slice A xs.length c ∧ xs.length ≤ c ∧ (∀ p ∈ xs, okP3 p) ∧ PfRow w A xs := by
  obtain ⟨fuel, hf⟩ := hd
  obtain ⟨va, vl, vc, rfl⟩ := okWide_slice ht hval
  rcases open_slice ht hf with ⟨h1, _⟩ | ⟨a, len, cap, m, n, D, Pl, h1, hb, hl, hm, hmm, _, hx⟩
  · have h3 : Value.slice va vl vc = .slice none 0 0 := by simpa [Value.cells] using h1
    rw [h3]
    exact ⟨none, 0, [], rfl, Nat.le_refl _, (fun p hp => by cases hp), fun j hj => absurd hj (Nat.not_lt_zero j)⟩
  · have h3 : Value.slice va vl vc = .slice (some a) len cap := by simpa [Value.cells] using h1
    have hlm : len ≤ m := by rw [hmm]; split <;> omega
    have each : ∀ i, i < m → ∃ q : P3, okP3 q ∧ w.cell? (a.add (i * 3)) = some (.int .u64 q.1) ∧ w.cell? (a.add (i * 3 + 1)) = some (.int .u64 q.2.1) ∧ w.cell? (a.add (i * 3 + 2)) = some (.int .i64 q.2.2) := by
      intro i hi
      obtain ⟨cs', q1, q2⟩ := hx i hi
      rw [ce] at q1
      obtain ⟨_, hlen, hcell⟩ := World.cells?_some q1
      obtain ⟨y0, y1, y2, k, _, _, g0, g1, g2⟩ := trod_struct3 he q2
      match cs', hlen with
      | [v0, v1, v2], _ =>
        simp only [List.drop_zero, List.drop_succ_cons, c0, c2, List.take_succ_cons, List.take_zero] at g0 g1 g2
        obtain ⟨x0, r0, _, w0⟩ := DataW.trod_int h0 g0
        obtain ⟨x1, r1, _, w1⟩ := DataW.trod_int h0 g1
        obtain ⟨x2, r2, _, w2⟩ := DataW.trod_int h2 g2
        simp at r0 r1 r2
        subst r0 r1 r2
        have e0' := hcell 0 (by omega)
        have e1' := hcell 1 (by omega)
        have e2' := hcell 2 (by omega)
        rw [add_add] at e0' e1' e2'
        have b0' := wf_u64 w0
        have b1' := wf_u64 w1
        have b2' := wf_i64 w2
        exact ⟨(x0, x1, x2), ⟨⟨⟨by simp only; omega, by simp only; omega⟩, by simp only; omega, by simp only; omega⟩, by simp only; omega, by simp only; omega⟩, by simpa using e0', by simpa using e1', by simpa using e2'⟩
    obtain ⟨q, hq⟩ := choose_lt each
    have hlen : ((List.range len).map q).length = len := by simp
    refine ⟨some a, cap, (List.range len).map q, by rw [h3, hlen], by rw [hlen]; exact hl, fun p hp => ?_, fun j hj => ⟨a, rfl, ?_⟩⟩
    · obtain ⟨i, hi, rfl⟩ := List.mem_map.1 hp
      exact (hq i (by have := List.mem_range.1 hi; omega)).1
    · rw [hlen] at hj
      rw [getD_range q len j hj]
      exact (hq j (by omega)).2
end Go.Proofs.YtplehdcnnaamkaaGreatDoor

/- The law PrefixTells, walked. -/
namespace Go.Proofs.YtplehdcnnaamkaaGreatDoor
open Go.RowKit Go.Proofs.YtplehdcnnaamkaaGreatDoorW.PrintWords Go.Proofs.YtplehdcnnaamkaaGreatDoorW.PrintMore

/-- An address that is made of numbers. -/
def mkA (is : Bool) (hi lo : Int) : Bool × Int × Int := (is, if is = true then hi else 0, if is = true then lo else lo % 4294967296)
theorem mkA_ok (is : Bool) (hi lo : Int) (h0 : 0 ≤ hi ∧ hi < 18446744073709551616) (h1 : 0 ≤ lo ∧ lo < 18446744073709551616) : adOk (mkA is hi lo) := by
  cases is
  · exact ⟨rfl, by show 0 ≤ lo % 4294967296; omega, by show lo % 4294967296 < 4294967296; omega⟩
  · exact ⟨h0, h1⟩
theorem MakeA_calls (is : Bool) (hi lo : Int) (h0 : 0 ≤ hi ∧ hi < 18446744073709551616) (h1 : 0 ≤ lo ∧ lo < 18446744073709551616) (w : World) :
    Calls Tryz.prog 24 #[.bool is, .int .u64 hi, .int .u64 lo] w fun e w' => e = .returned (adV (mkA is hi lo)) ∧ w' = w := Make_calls is hi lo h0 h1 w
end Go.Proofs.YtplehdcnnaamkaaGreatDoor

/- The law TrieBack, walked. -/
namespace Go.Proofs.YtplehdcnnaamkaaGreatDoor
open Go.RowKit Go.Proofs.YtplehdcnnaamkaaGreatDoorW.PrintWords Go.Proofs.YtplehdcnnaamkaaGreatDoorW.PrintMore

set_option maxHeartbeats 64000000 in
set_option maxRecDepth 100000 in
theorem TrieBack_law (A : Option Addr) (c : Nat) (l : List P3) (p0 p1 p2 : Int) (is : Bool) (hi lo : Int) (w : World) (_hlc : l.length ≤ c) (hok : ∀ p ∈ l, okP3 p) (hrow : PfRow w A l) (b0 : 0 ≤ p0 ∧ p0 < 18446744073709551616) (b1 : 0 ≤ p1 ∧ p1 < 18446744073709551616) (h0 : 0 ≤ hi ∧ hi < 18446744073709551616) (h1 : 0 ≤ lo ∧ lo < 18446744073709551616)
    (hP : Aside0 (Pows w)) (hT : Aside0 (Debr w)) (hE : Aside0 (Errs w)) (hM : Aside0 (Mx w)) :
    Calls Tryz.prog 8 #[.slice A l.length c, .agg #[.int .u64 p0, .int .u64 p1, .int .i64 p2], .bool is, .int .u64 hi, .int .u64 lo] w fun e w' => e = .returned (.bool true) ∧ Below w.heap.size w w' := by
  have HOK := Aside0.mk hok
  have HROW := Aside0.mk hrow
  have MA := Aside0.mk (fun W : World => MakeA_calls is hi lo h0 h1 W)
  have AOK := Aside0.mk (mkA_ok is hi lo h0 h1)
  clear hok hrow h0 h1
  generalize mkA is hi lo = x at MA AOK
  have B0 := Aside0.mk (Below.refl w.heap.size w)
  go_enter Tryz.func8, Tryz.ntmps8
  obtain ⟨W_1, hW_1⟩ : ∃ W_1, W_1 = w.alloc (.cells #[.int .u64 p0, .int .u64 p1, .int .i64 p2] 25) := ⟨_, rfl⟩
  obtain ⟨hg_1, hl_1, hb_1⟩ := boxN hW_1
  obtain ⟨gp, hgg_1⟩ : ∃ gp, gp = w.heap.size := ⟨_, rfl⟩
  rw [← hgg_1] at hg_1 hl_1
  have HAp := Aside0.mk hg_1
  have LAp := hl_1
  have HGG_1 := Lib.hid hgg_1
  have HWW_1 := Lib.hid hW_1
  clear hW_1 hgg_1 hg_1 hl_1
  have BB_2 := Aside0.mk (below_then B0.out B0.out.size hb_1)
  clear hb_1
  go_wp2_with fail
  try rw [← HWW_1.out]
  try rw [← HGG_1.out]
  refine (awake8_calls _ ⟨hE.out.stays BB_2.out⟩ ⟨hM.out.stays BB_2.out⟩ ⟨hP.out.stays BB_2.out⟩ ⟨hT.out.stays BB_2.out⟩).mono ?_
  rintro e w_3 ⟨rfl, hb_3⟩
  have Hp_4 := Aside0.mk ((hb_3.block _ LAp).trans HAp.out)
  have lp_4 := Nat.lt_of_lt_of_le LAp hb_3.size
  have BB_4 := Aside0.mk (below_then BB_2.out BB_2.out.size hb_3)
  clear HAp LAp BB_2 hb_3
  by_cases h60 : l.length ≤ 60
  case neg =>
    go_wp2_with fail
    go_ret
    exact ⟨rfl, BB_4.out⟩
  go_wp2_with fail
  refine (New_calls _).mono ?_
  rintro e w_5 ⟨tt, Nt_5, Dt_5, rfl, hT_5, hb_5, hO_5⟩
  have OWt_5 : Aside0 (∀ k, Own tt Nt_5 k → w.heap.size ≤ k) := ⟨fun k hk => Nat.le_trans BB_4.out.size (hO_5 k hk)⟩
  have Tt_5 := Aside0.mk hT_5
  clear hT_5 hO_5
  have Hp_6 := Aside0.mk ((hb_5.block _ lp_4).trans Hp_4.out)
  have lp_6 := Nat.lt_of_lt_of_le lp_4 hb_5.size
  have BB_6 := Aside0.mk (below_then BB_4.out BB_4.out.size hb_5)
  clear Hp_4 lp_4 BB_4 hb_5
  go_wp2_with fail
  go_loopw [35] (fun x wr => ∃ (i : Nat) (N : Nm) (D : Dm) (L : List E4), x = .int .i64 i ∧ i ≤ l.length ∧ L.length ≤ i ∧ Aside0 (Tri wr tt N D L) ∧ Aside0 (∀ k, Own tt N k → w.heap.size ≤ k) ∧ Aside0 (wr.heap[gp]? = some (.cells #[.int .u64 p0, .int .u64 p1, .int .i64 p2] 25 (0, 0))) ∧ Aside0 (Below w.heap.size w wr)) (fun x _ => l.length - (intOf x).toNat)
  case atStart => exact ⟨0, _, _, _, rfl, Nat.zero_le _, Nat.le_refl _, Tt_5, OWt_5, Hp_6, BB_6⟩
  case round =>
    obtain ⟨i, N, D, L, rfl, hi_, hL, HTr, HOr, HPr, HBr⟩ := hrel
    have lp := heap_lt HPr.out
    by_cases hlt : i < l.length
    · obtain ⟨ad, e, c0, c1, c2⟩ := HROW.out i hlt
      subst e
      have hq := HOK.out _ (show l.getD i (0, 0, 0) ∈ l by rw [List.getD_eq_getElem?_getD, List.getElem?_eq_getElem hlt]; exact List.getElem_mem hlt)
      generalize l.getD i (0, 0, 0) = q at hq c0 c1 c2
      obtain ⟨q0, q1, q2⟩ := q
      obtain ⟨⟨s0, s1⟩, _, _⟩ := hq
      simp only at c0 c1 c2 s0 s1
      have c0 := (HBr.out.cell (cell_lt c0)).trans c0
      have c1 := (HBr.out.cell (cell_lt c1)).trans c1
      have c2 := (HBr.out.cell (cell_lt c2)).trans c2
      have d0 : wr.cell? ⟨(ad.add (i * 3)).block, (ad.add (i * 3)).off, none⟩ = some (.int .u64 q0) := row_at (j := 0) c0
      have d1 : wr.cell? ⟨(ad.add (i * 3)).block, (ad.add (i * 3)).off + 1, none⟩ = some (.int .u64 q1) := row_at (j := 1) c1
      have d2 : wr.cell? ⟨(ad.add (i * 3)).block, (ad.add (i * 3)).off + 2, none⟩ = some (.int .i64 q2) := row_at (j := 2) c2
      clear c1 c2
      obtain ⟨W_1, hW_1⟩ : ∃ W_1, W_1 = wr.alloc (.cells #[.int .u64 q0, .int .u64 q1, .int .i64 q2] 25) := ⟨_, rfl⟩
      obtain ⟨hg_1, hl_1, hb_1⟩ := boxN hW_1
      obtain ⟨gq, hgg_1⟩ : ∃ gq, gq = wr.heap.size := ⟨_, rfl⟩
      rw [← hgg_1] at hg_1 hl_1
      have HAq := Aside0.mk hg_1
      have LAq := hl_1
      have HGG_1 := Lib.hid hgg_1
      have HWW_1 := Lib.hid hW_1
      clear hW_1 hgg_1 hg_1 hl_1
      have Tt_2 := Aside0.mk (HTr.out.below hb_1)
      have Hp_2 := Aside0.mk ((hb_1.block _ lp).trans HPr.out)
      have lp_2 := Nat.lt_of_lt_of_le lp hb_1.size
      have BB_2 := Aside0.mk (below_then HBr.out HBr.out.size hb_1)
      clear HPr lp hb_1
      clear HTr
      have hxq := HAq.out
      obtain ⟨kq0, fq0⟩ := heap_cell (j := 0) hxq rfl
      obtain ⟨kq1, fq1⟩ := heap_cell (j := 1) hxq rfl
      obtain ⟨kq2, fq2⟩ := heap_cell (j := 2) hxq rfl
      clear hxq
      rw [HWW_1.out] at kq0 fq0 kq1 fq1 kq2 fq2
      go_wp2_with fail
      try rw [← HWW_1.out]
      try rw [← HGG_1.out]
      clear kq0 fq0 kq1 fq1 kq2 fq2
      clear c0 d0 d1 d2
      refine (PutA_calls tt N D L q0 q1 q2 i s0 s1 (by omega) _ Tt_2).mono ?_
      rintro e w_3 ⟨rfl, Nt_3, Dt_3, hT, hO⟩
      have Hp_3 := Aside0.mk ((hO.fr.block _ lp_2 (own_not Tt_2.out Hp_2.out (by decide) (by decide))).trans Hp_2.out)
      have lp_3 := Nat.lt_of_lt_of_le lp_2 hO.fr.size
      have Hq_3 := Aside0.mk ((hO.fr.block _ LAq (own_not Tt_2.out HAq.out (by decide) (by decide))).trans HAq.out)
      have lq_3 := Nat.lt_of_lt_of_le LAq hO.fr.size
      have OWt_3 : Aside0 (∀ k, Own tt Nt_3 k → w.heap.size ≤ k) := ⟨fun k hk => (hO.new k hk).elim (HOr.out k) (fun q => Nat.le_trans BB_2.out.size q)⟩
      have BB_3 := Aside0.mk (Fr.below BB_2.out BB_2.out.size hO.fr HOr.out)
      have Tt_3 := Aside0.mk hT
      clear Hp_2 lp_2 HAq LAq BB_2 Tt_2 HOr hT hO
      have hL' := putA_len L (q0, q1, q2) i
      go_wp2_with fail
      exact ⟨⟨i + 1, _, _, _, by go_num, by omega, by omega, Tt_3, OWt_3, Hp_3, BB_3⟩, by simp [intOf]; omega⟩
    · obtain rfl : i = l.length := by omega
      clear hlt hi_
      have hL60 : L.length ≤ 60 := by omega
      go_wp2_with fail
      refine (MA.out _).mono ?_
      rintro e w_1 ⟨rfl, rfl⟩
      have hxp := HPr.out
      obtain ⟨kp0, fp0⟩ := heap_cell (j := 0) hxp rfl
      obtain ⟨kp1, fp1⟩ := heap_cell (j := 1) hxp rfl
      obtain ⟨kp2, fp2⟩ := heap_cell (j := 2) hxp rfl
      clear hxp
      go_wp2_with fail
      clear kp0 fp0 kp1 fp1 kp2 fp2
      obtain ⟨ba, bb⟩ := ad_bd x AOK.out
      cases hg : getL L (p0, p1, p2) with
      | some gv =>
        refine (Get_calls tt N D L p0 p1 p2 b0 b1 _ HTr).mono ?_
        rw [hg]
        simp only [Option.getD, Option.isSome]
        rintro e w_2 ⟨rfl, hb_2⟩
        have Tt_3 := Aside0.mk (HTr.out.below hb_2)
        have Hp_3 := Aside0.mk ((hb_2.block _ lp).trans HPr.out)
        have lp_3 := Nat.lt_of_lt_of_le lp hb_2.size
        have BB_3 := Aside0.mk (below_then HBr.out HBr.out.size hb_2)
        clear HPr lp hb_2
        clear HTr
        have hxp := Hp_3.out
        obtain ⟨kp0, fp0⟩ := heap_cell (j := 0) hxp rfl
        obtain ⟨kp1, fp1⟩ := heap_cell (j := 1) hxp rfl
        obtain ⟨kp2, fp2⟩ := heap_cell (j := 2) hxp rfl
        clear hxp
        go_wp2_with fail
        clear kp0 fp0 kp1 fp1 kp2 fp2
        go_ret
        exact ⟨rfl, BB_3.out⟩
      | none =>
        refine (Get_calls tt N D L p0 p1 p2 b0 b1 _ HTr).mono ?_
        rw [hg]
        simp only [Option.getD, Option.isSome]
        rintro e w_2 ⟨rfl, hb_2⟩
        have Tt_3 := Aside0.mk (HTr.out.below hb_2)
        have Hp_3 := Aside0.mk ((hb_2.block _ lp).trans HPr.out)
        have lp_3 := Nat.lt_of_lt_of_le lp hb_2.size
        have BB_3 := Aside0.mk (below_then HBr.out HBr.out.size hb_2)
        clear HPr lp hb_2
        clear HTr
        have hxp := Hp_3.out
        obtain ⟨kp0, fp0⟩ := heap_cell (j := 0) hxp rfl
        obtain ⟨kp1, fp1⟩ := heap_cell (j := 1) hxp rfl
        obtain ⟨kp2, fp2⟩ := heap_cell (j := 2) hxp rfl
        clear hxp
        go_wp2_with fail
        clear kp0 fp0 kp1 fp1 kp2 fp2
        cases hr : rightP p0 p1 p2 with
        | false =>
          refine (Right_calls p0 p1 p2 b0 b1 _).mono ?_
          rw [hr]
          rintro e w_4 ⟨rfl, hb_4⟩
          have Tt_5 := Aside0.mk (Tt_3.out.below hb_4)
          have Hp_5 := Aside0.mk ((hb_4.block _ lp_3).trans Hp_3.out)
          have lp_5 := Nat.lt_of_lt_of_le lp_3 hb_4.size
          have BB_5 := Aside0.mk (below_then BB_3.out BB_3.out.size hb_4)
          clear Hp_3 lp_3 BB_3 hb_4
          clear Tt_3
          go_wp2_with fail
          go_ret
          exact ⟨rfl, BB_5.out⟩
        | true =>
          refine (Right_calls p0 p1 p2 b0 b1 _).mono ?_
          rw [hr]
          rintro e w_4 ⟨rfl, hb_4⟩
          have Tt_5 := Aside0.mk (Tt_3.out.below hb_4)
          have Hp_5 := Aside0.mk ((hb_4.block _ lp_3).trans Hp_3.out)
          have lp_5 := Nat.lt_of_lt_of_le lp_3 hb_4.size
          have BB_5 := Aside0.mk (below_then BB_3.out BB_3.out.size hb_4)
          clear Hp_3 lp_3 BB_3 hb_4
          clear Tt_3
          go_wp2_with fail
          have hbest := Aside0.mk (Tt_5.out.inv.find (adHi x) (adLo x) ba bb)
          rw [show ((findI (infoI N D) (adHi x) (adLo x) 129).map fun x => (x.2, x.1)) = fndE N D (adHi x) (adLo x) from rfl] at hbest
          have e1_ := ep_25
          have e2_ := eg_25
          have e3_ := np_25
          have e4_ := ng_25
          cases hh : hasP p0 p1 p2 (adHi x) (adLo x) with
          | false =>
            rcases hf : fndE N D (adHi x) (adLo x) with _ | ⟨⟨q0, q1, q2⟩, v⟩ <;> rw [hf] at hbest
            · refine (Find_calls tt N D L x AOK.out _ Tt_5).mono ?_
              rw [hf]
              simp only [findV, pfV, Option.map, Option.getD, Option.isSome]
              rintro e w_6 ⟨rfl, hb_6⟩
              have Tt_7 := Aside0.mk (Tt_5.out.below hb_6)
              have Hp_7 := Aside0.mk ((hb_6.block _ lp_5).trans Hp_5.out)
              have lp_7 := Nat.lt_of_lt_of_le lp_5 hb_6.size
              have BB_7 := Aside0.mk (below_then BB_5.out BB_5.out.size hb_6)
              clear Hp_5 lp_5 BB_5 hb_6
              clear Tt_5
              obtain ⟨W_8, hW_8⟩ : ∃ W_8, W_8 = w_6.alloc (.cells #[.int .u64 0, .int .u64 0, .int .i64 0] 25) := ⟨_, rfl⟩
              obtain ⟨hg_8, hl_8, hb_8⟩ := boxN hW_8
              obtain ⟨gf1, hgg_8⟩ : ∃ gf1, gf1 = w_6.heap.size := ⟨_, rfl⟩
              rw [← hgg_8] at hg_8 hl_8
              have HAf1 := Aside0.mk hg_8
              have LAf1 := hl_8
              have HGG_8 := Lib.hid hgg_8
              have HWW_8 := Lib.hid hW_8
              clear hW_8 hgg_8 hg_8 hl_8
              have Tt_9 := Aside0.mk (Tt_7.out.below hb_8)
              have Hp_9 := Aside0.mk ((hb_8.block _ lp_7).trans Hp_7.out)
              have lp_9 := Nat.lt_of_lt_of_le lp_7 hb_8.size
              have BB_9 := Aside0.mk (below_then BB_7.out BB_7.out.size hb_8)
              clear Hp_7 lp_7 BB_7 hb_8
              clear Tt_7
              go_wp2_with fail
              try rw [← HWW_8.out]
              try rw [← HGG_8.out]
              refine (Len_calls tt N D L _ Tt_9).mono ?_
              rintro e w_10 ⟨rfl, rfl⟩
              have hxp := Hp_9.out
              obtain ⟨kp0, fp0⟩ := heap_cell (j := 0) hxp rfl
              obtain ⟨kp1, fp1⟩ := heap_cell (j := 1) hxp rfl
              obtain ⟨kp2, fp2⟩ := heap_cell (j := 2) hxp rfl
              clear hxp
              go_wp2_with fail
              clear kp0 fp0 kp1 fp1 kp2 fp2
              refine (Put_calls tt N D L p0 p1 p2 99 b0 b1 hr (by omega) _ Tt_9).mono ?_
              rintro e w_11 ⟨rfl, Nt_11, Dt_11, hT, hO⟩
              have Hp_11 := Aside0.mk ((hO.fr.block _ lp_9 (own_not Tt_9.out Hp_9.out (by decide) (by decide))).trans Hp_9.out)
              have lp_11 := Nat.lt_of_lt_of_le lp_9 hO.fr.size
              have Hf1_11 := Aside0.mk ((hO.fr.block _ LAf1 (own_not Tt_9.out HAf1.out (by decide) (by decide))).trans HAf1.out)
              have lf1_11 := Nat.lt_of_lt_of_le LAf1 hO.fr.size
              have OWt_11 : Aside0 (∀ k, Own tt Nt_11 k → w.heap.size ≤ k) := ⟨fun k hk => (hO.new k hk).elim (HOr.out k) (fun q => Nat.le_trans BB_9.out.size q)⟩
              have BB_11 := Aside0.mk (Fr.below BB_9.out BB_9.out.size hO.fr HOr.out)
              have Tt_11 := Aside0.mk hT
              clear Hp_9 lp_9 HAf1 LAf1 BB_9 Tt_9 HOr hT hO
              go_wp2_with fail
              refine (Len_calls tt Nt_11 Dt_11 _ _ Tt_11).mono ?_
              rw [putL_more _ _ _ hg]
              rintro e w_12 ⟨rfl, rfl⟩
              go_wp2_with fail
              have hf2 := find_is Tt_11.out (adHi x) (adLo x) ba bb _ (hbest.out.put (p0, p1, p2) 99 hg)
              rw [show bestS (adHi x) (adLo x) (none) ((p0, p1, p2), 99) = none by simp [bestS, hh]] at hf2
              refine (Find_calls tt Nt_11 Dt_11 _ x AOK.out _ Tt_11).mono ?_
              rw [hf2]
              simp only [findV, pfV, Option.map, Option.getD, Option.isSome]
              clear hf2
              rintro e w_13 ⟨rfl, hb_13⟩
              have Tt_14 := Aside0.mk (Tt_11.out.below hb_13)
              have Hp_14 := Aside0.mk ((hb_13.block _ lp_11).trans Hp_11.out)
              have lp_14 := Nat.lt_of_lt_of_le lp_11 hb_13.size
              have Hf1_14 := Aside0.mk ((hb_13.block _ lf1_11).trans Hf1_11.out)
              have lf1_14 := Nat.lt_of_lt_of_le lf1_11 hb_13.size
              have BB_14 := Aside0.mk (below_then BB_11.out BB_11.out.size hb_13)
              clear Hp_11 lp_11 Hf1_11 lf1_11 BB_11 hb_13
              clear Tt_11
              obtain ⟨W_15, hW_15⟩ : ∃ W_15, W_15 = w_13.alloc (.cells #[.int .u64 0, .int .u64 0, .int .i64 0] 25) := ⟨_, rfl⟩
              obtain ⟨hg_15, hl_15, hb_15⟩ := boxN hW_15
              obtain ⟨gf2, hgg_15⟩ : ∃ gf2, gf2 = w_13.heap.size := ⟨_, rfl⟩
              rw [← hgg_15] at hg_15 hl_15
              have HAf2 := Aside0.mk hg_15
              have LAf2 := hl_15
              have HGG_15 := Lib.hid hgg_15
              have HWW_15 := Lib.hid hW_15
              clear hW_15 hgg_15 hg_15 hl_15
              have Tt_16 := Aside0.mk (Tt_14.out.below hb_15)
              have Hp_16 := Aside0.mk ((hb_15.block _ lp_14).trans Hp_14.out)
              have lp_16 := Nat.lt_of_lt_of_le lp_14 hb_15.size
              have Hf1_16 := Aside0.mk ((hb_15.block _ lf1_14).trans Hf1_14.out)
              have lf1_16 := Nat.lt_of_lt_of_le lf1_14 hb_15.size
              have BB_16 := Aside0.mk (below_then BB_14.out BB_14.out.size hb_15)
              clear Hp_14 lp_14 Hf1_14 lf1_14 BB_14 hb_15
              clear Tt_14
              have hxp := Hp_16.out
              obtain ⟨kp0, fp0⟩ := heap_cell (j := 0) hxp rfl
              obtain ⟨kp1, fp1⟩ := heap_cell (j := 1) hxp rfl
              obtain ⟨kp2, fp2⟩ := heap_cell (j := 2) hxp rfl
              clear hxp
              rw [HWW_15.out] at kp0 fp0 kp1 fp1 kp2 fp2
              go_wp2_with fail
              try rw [← HWW_15.out]
              try rw [← HGG_15.out]
              clear kp0 fp0 kp1 fp1 kp2 fp2
              refine (PfHas_calls p0 p1 p2 (some x) (ok_some _ AOK.out) b0 b1 _).mono ?_
              rw [hasO, hh]
              rintro e w_17 ⟨rfl, hb_17⟩
              have Tt_18 := Aside0.mk (Tt_16.out.below hb_17)
              have Hp_18 := Aside0.mk ((hb_17.block _ lp_16).trans Hp_16.out)
              have lp_18 := Nat.lt_of_lt_of_le lp_16 hb_17.size
              have Hf1_18 := Aside0.mk ((hb_17.block _ lf1_16).trans Hf1_16.out)
              have lf1_18 := Nat.lt_of_lt_of_le lf1_16 hb_17.size
              have Hf2_18 := Aside0.mk ((hb_17.block _ LAf2).trans HAf2.out)
              have lf2_18 := Nat.lt_of_lt_of_le LAf2 hb_17.size
              have BB_18 := Aside0.mk (below_then BB_16.out BB_16.out.size hb_17)
              clear Hp_16 lp_16 Hf1_16 lf1_16 HAf2 LAf2 BB_16 hb_17
              clear Tt_16
              have hxp := Hp_18.out
              obtain ⟨kp0, fp0⟩ := heap_cell (j := 0) hxp rfl
              obtain ⟨kp1, fp1⟩ := heap_cell (j := 1) hxp rfl
              obtain ⟨kp2, fp2⟩ := heap_cell (j := 2) hxp rfl
              clear hxp
              have hxf1 := Hf1_18.out
              obtain ⟨kf10, ff10⟩ := heap_cell (j := 0) hxf1 rfl
              obtain ⟨kf11, ff11⟩ := heap_cell (j := 1) hxf1 rfl
              obtain ⟨kf12, ff12⟩ := heap_cell (j := 2) hxf1 rfl
              clear hxf1
              have hxf2 := Hf2_18.out
              obtain ⟨kf20, ff20⟩ := heap_cell (j := 0) hxf2 rfl
              obtain ⟨kf21, ff21⟩ := heap_cell (j := 1) hxf2 rfl
              obtain ⟨kf22, ff22⟩ := heap_cell (j := 2) hxf2 rfl
              clear hxf2
              go_wp2_with fail
              clear kp0 fp0 kp1 fp1 kp2 fp2 kf10 ff10 kf11 ff11 kf12 ff12 kf20 ff20 kf21 ff21 kf22 ff22
              refine (Drop_calls tt Nt_11 Dt_11 (putL L (p0, p1, p2) 99) p0 p1 p2 b0 b1 (by rw [putL_more _ _ _ hg]; omega) _ Tt_18).mono ?_
              rw [getL_put]
              simp only [Option.isSome]
              rintro e w_19 ⟨rfl, ⟨Dt_19, hT⟩, hO⟩
              have Hp_19 := Aside0.mk ((hO.fr.block _ lp_18 (own_not Tt_18.out Hp_18.out (by decide) (by decide))).trans Hp_18.out)
              have lp_19 := Nat.lt_of_lt_of_le lp_18 hO.fr.size
              have Hf1_19 := Aside0.mk ((hO.fr.block _ lf1_18 (own_not Tt_18.out Hf1_18.out (by decide) (by decide))).trans Hf1_18.out)
              have lf1_19 := Nat.lt_of_lt_of_le lf1_18 hO.fr.size
              have Hf2_19 := Aside0.mk ((hO.fr.block _ lf2_18 (own_not Tt_18.out Hf2_18.out (by decide) (by decide))).trans Hf2_18.out)
              have lf2_19 := Nat.lt_of_lt_of_le lf2_18 hO.fr.size
              have OWt_19 : Aside0 (∀ k, Own tt Nt_11 k → w.heap.size ≤ k) := ⟨fun k hk => (hO.new k hk).elim (OWt_11.out k) (fun q => Nat.le_trans BB_18.out.size q)⟩
              have BB_19 := Aside0.mk (Fr.below BB_18.out BB_18.out.size hO.fr OWt_11.out)
              have Tt_19 := Aside0.mk hT
              clear Hp_18 lp_18 Hf1_18 lf1_18 Hf2_18 lf2_18 BB_18 Tt_18 OWt_11 hT hO
              rw [dropL_put _ _ _ hg] at Tt_19
              have hxp := Hp_19.out
              obtain ⟨kp0, fp0⟩ := heap_cell (j := 0) hxp rfl
              obtain ⟨kp1, fp1⟩ := heap_cell (j := 1) hxp rfl
              obtain ⟨kp2, fp2⟩ := heap_cell (j := 2) hxp rfl
              clear hxp
              go_wp2_with fail
              clear kp0 fp0 kp1 fp1 kp2 fp2
              refine (Drop_calls tt Nt_11 Dt_19 L p0 p1 p2 b0 b1 (by omega) _ Tt_19).mono ?_
              rw [hg]
              simp only [Option.isSome]
              rintro e w_20 ⟨rfl, ⟨Dt_20, hT⟩, hO⟩
              have Hp_20 := Aside0.mk ((hO.fr.block _ lp_19 (own_not Tt_19.out Hp_19.out (by decide) (by decide))).trans Hp_19.out)
              have lp_20 := Nat.lt_of_lt_of_le lp_19 hO.fr.size
              have Hf1_20 := Aside0.mk ((hO.fr.block _ lf1_19 (own_not Tt_19.out Hf1_19.out (by decide) (by decide))).trans Hf1_19.out)
              have lf1_20 := Nat.lt_of_lt_of_le lf1_19 hO.fr.size
              have Hf2_20 := Aside0.mk ((hO.fr.block _ lf2_19 (own_not Tt_19.out Hf2_19.out (by decide) (by decide))).trans Hf2_19.out)
              have lf2_20 := Nat.lt_of_lt_of_le lf2_19 hO.fr.size
              have OWt_20 : Aside0 (∀ k, Own tt Nt_11 k → w.heap.size ≤ k) := ⟨fun k hk => (hO.new k hk).elim (OWt_19.out k) (fun q => Nat.le_trans BB_19.out.size q)⟩
              have BB_20 := Aside0.mk (Fr.below BB_19.out BB_19.out.size hO.fr OWt_19.out)
              have Tt_20 := Aside0.mk hT
              clear Hp_19 lp_19 Hf1_19 lf1_19 Hf2_19 lf2_19 BB_19 Tt_19 OWt_19 hT hO
              rw [dropL_id _ _ hg] at Tt_20
              go_wp2_with fail
              refine (Len_calls tt Nt_11 Dt_20 L _ Tt_20).mono ?_
              rintro e w_21 ⟨rfl, rfl⟩
              go_wp2_with fail
              have hf3 := find_is Tt_20.out (adHi x) (adLo x) ba bb _ hbest.out
              refine (Find_calls tt Nt_11 Dt_20 L x AOK.out _ Tt_20).mono ?_
              rw [hf3]
              simp only [findV, pfV, Option.map, Option.getD, Option.isSome]
              clear hf3
              rintro e w_22 ⟨rfl, hb_22⟩
              have Tt_23 := Aside0.mk (Tt_20.out.below hb_22)
              have Hp_23 := Aside0.mk ((hb_22.block _ lp_20).trans Hp_20.out)
              have lp_23 := Nat.lt_of_lt_of_le lp_20 hb_22.size
              have Hf1_23 := Aside0.mk ((hb_22.block _ lf1_20).trans Hf1_20.out)
              have lf1_23 := Nat.lt_of_lt_of_le lf1_20 hb_22.size
              have Hf2_23 := Aside0.mk ((hb_22.block _ lf2_20).trans Hf2_20.out)
              have lf2_23 := Nat.lt_of_lt_of_le lf2_20 hb_22.size
              have BB_23 := Aside0.mk (below_then BB_20.out BB_20.out.size hb_22)
              clear Hp_20 lp_20 Hf1_20 lf1_20 Hf2_20 lf2_20 BB_20 hb_22
              clear Tt_20
              obtain ⟨W_24, hW_24⟩ : ∃ W_24, W_24 = w_22.alloc (.cells #[.int .u64 0, .int .u64 0, .int .i64 0] 25) := ⟨_, rfl⟩
              obtain ⟨hg_24, hl_24, hb_24⟩ := boxN hW_24
              obtain ⟨gf3, hgg_24⟩ : ∃ gf3, gf3 = w_22.heap.size := ⟨_, rfl⟩
              rw [← hgg_24] at hg_24 hl_24
              have HAf3 := Aside0.mk hg_24
              have LAf3 := hl_24
              have HGG_24 := Lib.hid hgg_24
              have HWW_24 := Lib.hid hW_24
              clear hW_24 hgg_24 hg_24 hl_24
              have Tt_25 := Aside0.mk (Tt_23.out.below hb_24)
              have Hp_25 := Aside0.mk ((hb_24.block _ lp_23).trans Hp_23.out)
              have lp_25 := Nat.lt_of_lt_of_le lp_23 hb_24.size
              have Hf1_25 := Aside0.mk ((hb_24.block _ lf1_23).trans Hf1_23.out)
              have lf1_25 := Nat.lt_of_lt_of_le lf1_23 hb_24.size
              have Hf2_25 := Aside0.mk ((hb_24.block _ lf2_23).trans Hf2_23.out)
              have lf2_25 := Nat.lt_of_lt_of_le lf2_23 hb_24.size
              have BB_25 := Aside0.mk (below_then BB_23.out BB_23.out.size hb_24)
              clear Hp_23 lp_23 Hf1_23 lf1_23 Hf2_23 lf2_23 BB_23 hb_24
              clear Tt_23
              have hxf1 := Hf1_25.out
              obtain ⟨kf10, ff10⟩ := heap_cell (j := 0) hxf1 rfl
              obtain ⟨kf11, ff11⟩ := heap_cell (j := 1) hxf1 rfl
              obtain ⟨kf12, ff12⟩ := heap_cell (j := 2) hxf1 rfl
              clear hxf1
              have hxf3 := HAf3.out
              obtain ⟨kf30, ff30⟩ := heap_cell (j := 0) hxf3 rfl
              obtain ⟨kf31, ff31⟩ := heap_cell (j := 1) hxf3 rfl
              obtain ⟨kf32, ff32⟩ := heap_cell (j := 2) hxf3 rfl
              clear hxf3
              rw [HWW_24.out] at kf10 ff10 kf11 ff11 kf12 ff12 kf30 ff30 kf31 ff31 kf32 ff32
              go_wp2_with fail
              try rw [← HWW_24.out]
              try rw [← HGG_24.out]
              clear kf10 ff10 kf11 ff11 kf12 ff12 kf30 ff30 kf31 ff31 kf32 ff32
              go_ret
              exact ⟨rfl, BB_25.out⟩
            · refine (Find_calls tt N D L x AOK.out _ Tt_5).mono ?_
              rw [hf]
              simp only [findV, pfV, Option.map, Option.getD, Option.isSome]
              rintro e w_6 ⟨rfl, hb_6⟩
              have Tt_7 := Aside0.mk (Tt_5.out.below hb_6)
              have Hp_7 := Aside0.mk ((hb_6.block _ lp_5).trans Hp_5.out)
              have lp_7 := Nat.lt_of_lt_of_le lp_5 hb_6.size
              have BB_7 := Aside0.mk (below_then BB_5.out BB_5.out.size hb_6)
              clear Hp_5 lp_5 BB_5 hb_6
              clear Tt_5
              obtain ⟨W_8, hW_8⟩ : ∃ W_8, W_8 = w_6.alloc (.cells #[.int .u64 q0, .int .u64 q1, .int .i64 q2] 25) := ⟨_, rfl⟩
              obtain ⟨hg_8, hl_8, hb_8⟩ := boxN hW_8
              obtain ⟨gf1, hgg_8⟩ : ∃ gf1, gf1 = w_6.heap.size := ⟨_, rfl⟩
              rw [← hgg_8] at hg_8 hl_8
              have HAf1 := Aside0.mk hg_8
              have LAf1 := hl_8
              have HGG_8 := Lib.hid hgg_8
              have HWW_8 := Lib.hid hW_8
              clear hW_8 hgg_8 hg_8 hl_8
              have Tt_9 := Aside0.mk (Tt_7.out.below hb_8)
              have Hp_9 := Aside0.mk ((hb_8.block _ lp_7).trans Hp_7.out)
              have lp_9 := Nat.lt_of_lt_of_le lp_7 hb_8.size
              have BB_9 := Aside0.mk (below_then BB_7.out BB_7.out.size hb_8)
              clear Hp_7 lp_7 BB_7 hb_8
              clear Tt_7
              go_wp2_with fail
              try rw [← HWW_8.out]
              try rw [← HGG_8.out]
              refine (Len_calls tt N D L _ Tt_9).mono ?_
              rintro e w_10 ⟨rfl, rfl⟩
              have hxp := Hp_9.out
              obtain ⟨kp0, fp0⟩ := heap_cell (j := 0) hxp rfl
              obtain ⟨kp1, fp1⟩ := heap_cell (j := 1) hxp rfl
              obtain ⟨kp2, fp2⟩ := heap_cell (j := 2) hxp rfl
              clear hxp
              go_wp2_with fail
              clear kp0 fp0 kp1 fp1 kp2 fp2
              refine (Put_calls tt N D L p0 p1 p2 99 b0 b1 hr (by omega) _ Tt_9).mono ?_
              rintro e w_11 ⟨rfl, Nt_11, Dt_11, hT, hO⟩
              have Hp_11 := Aside0.mk ((hO.fr.block _ lp_9 (own_not Tt_9.out Hp_9.out (by decide) (by decide))).trans Hp_9.out)
              have lp_11 := Nat.lt_of_lt_of_le lp_9 hO.fr.size
              have Hf1_11 := Aside0.mk ((hO.fr.block _ LAf1 (own_not Tt_9.out HAf1.out (by decide) (by decide))).trans HAf1.out)
              have lf1_11 := Nat.lt_of_lt_of_le LAf1 hO.fr.size
              have OWt_11 : Aside0 (∀ k, Own tt Nt_11 k → w.heap.size ≤ k) := ⟨fun k hk => (hO.new k hk).elim (HOr.out k) (fun q => Nat.le_trans BB_9.out.size q)⟩
              have BB_11 := Aside0.mk (Fr.below BB_9.out BB_9.out.size hO.fr HOr.out)
              have Tt_11 := Aside0.mk hT
              clear Hp_9 lp_9 HAf1 LAf1 BB_9 Tt_9 HOr hT hO
              go_wp2_with fail
              refine (Len_calls tt Nt_11 Dt_11 _ _ Tt_11).mono ?_
              rw [putL_more _ _ _ hg]
              rintro e w_12 ⟨rfl, rfl⟩
              go_wp2_with fail
              have hf2 := find_is Tt_11.out (adHi x) (adLo x) ba bb _ (hbest.out.put (p0, p1, p2) 99 hg)
              rw [show bestS (adHi x) (adLo x) (some ((q0, q1, q2), v)) ((p0, p1, p2), 99) = some ((q0, q1, q2), v) by simp [bestS, hh]] at hf2
              refine (Find_calls tt Nt_11 Dt_11 _ x AOK.out _ Tt_11).mono ?_
              rw [hf2]
              simp only [findV, pfV, Option.map, Option.getD, Option.isSome]
              clear hf2
              rintro e w_13 ⟨rfl, hb_13⟩
              have Tt_14 := Aside0.mk (Tt_11.out.below hb_13)
              have Hp_14 := Aside0.mk ((hb_13.block _ lp_11).trans Hp_11.out)
              have lp_14 := Nat.lt_of_lt_of_le lp_11 hb_13.size
              have Hf1_14 := Aside0.mk ((hb_13.block _ lf1_11).trans Hf1_11.out)
              have lf1_14 := Nat.lt_of_lt_of_le lf1_11 hb_13.size
              have BB_14 := Aside0.mk (below_then BB_11.out BB_11.out.size hb_13)
              clear Hp_11 lp_11 Hf1_11 lf1_11 BB_11 hb_13
              clear Tt_11
              obtain ⟨W_15, hW_15⟩ : ∃ W_15, W_15 = w_13.alloc (.cells #[.int .u64 q0, .int .u64 q1, .int .i64 q2] 25) := ⟨_, rfl⟩
              obtain ⟨hg_15, hl_15, hb_15⟩ := boxN hW_15
              obtain ⟨gf2, hgg_15⟩ : ∃ gf2, gf2 = w_13.heap.size := ⟨_, rfl⟩
              rw [← hgg_15] at hg_15 hl_15
              have HAf2 := Aside0.mk hg_15
              have LAf2 := hl_15
              have HGG_15 := Lib.hid hgg_15
              have HWW_15 := Lib.hid hW_15
              clear hW_15 hgg_15 hg_15 hl_15
              have Tt_16 := Aside0.mk (Tt_14.out.below hb_15)
              have Hp_16 := Aside0.mk ((hb_15.block _ lp_14).trans Hp_14.out)
              have lp_16 := Nat.lt_of_lt_of_le lp_14 hb_15.size
              have Hf1_16 := Aside0.mk ((hb_15.block _ lf1_14).trans Hf1_14.out)
              have lf1_16 := Nat.lt_of_lt_of_le lf1_14 hb_15.size
              have BB_16 := Aside0.mk (below_then BB_14.out BB_14.out.size hb_15)
              clear Hp_14 lp_14 Hf1_14 lf1_14 BB_14 hb_15
              clear Tt_14
              have hxp := Hp_16.out
              obtain ⟨kp0, fp0⟩ := heap_cell (j := 0) hxp rfl
              obtain ⟨kp1, fp1⟩ := heap_cell (j := 1) hxp rfl
              obtain ⟨kp2, fp2⟩ := heap_cell (j := 2) hxp rfl
              clear hxp
              rw [HWW_15.out] at kp0 fp0 kp1 fp1 kp2 fp2
              go_wp2_with fail
              try rw [← HWW_15.out]
              try rw [← HGG_15.out]
              clear kp0 fp0 kp1 fp1 kp2 fp2
              refine (PfHas_calls p0 p1 p2 (some x) (ok_some _ AOK.out) b0 b1 _).mono ?_
              rw [hasO, hh]
              rintro e w_17 ⟨rfl, hb_17⟩
              have Tt_18 := Aside0.mk (Tt_16.out.below hb_17)
              have Hp_18 := Aside0.mk ((hb_17.block _ lp_16).trans Hp_16.out)
              have lp_18 := Nat.lt_of_lt_of_le lp_16 hb_17.size
              have Hf1_18 := Aside0.mk ((hb_17.block _ lf1_16).trans Hf1_16.out)
              have lf1_18 := Nat.lt_of_lt_of_le lf1_16 hb_17.size
              have Hf2_18 := Aside0.mk ((hb_17.block _ LAf2).trans HAf2.out)
              have lf2_18 := Nat.lt_of_lt_of_le LAf2 hb_17.size
              have BB_18 := Aside0.mk (below_then BB_16.out BB_16.out.size hb_17)
              clear Hp_16 lp_16 Hf1_16 lf1_16 HAf2 LAf2 BB_16 hb_17
              clear Tt_16
              have hxp := Hp_18.out
              obtain ⟨kp0, fp0⟩ := heap_cell (j := 0) hxp rfl
              obtain ⟨kp1, fp1⟩ := heap_cell (j := 1) hxp rfl
              obtain ⟨kp2, fp2⟩ := heap_cell (j := 2) hxp rfl
              clear hxp
              have hxf1 := Hf1_18.out
              obtain ⟨kf10, ff10⟩ := heap_cell (j := 0) hxf1 rfl
              obtain ⟨kf11, ff11⟩ := heap_cell (j := 1) hxf1 rfl
              obtain ⟨kf12, ff12⟩ := heap_cell (j := 2) hxf1 rfl
              clear hxf1
              have hxf2 := Hf2_18.out
              obtain ⟨kf20, ff20⟩ := heap_cell (j := 0) hxf2 rfl
              obtain ⟨kf21, ff21⟩ := heap_cell (j := 1) hxf2 rfl
              obtain ⟨kf22, ff22⟩ := heap_cell (j := 2) hxf2 rfl
              clear hxf2
              go_wp2_with fail
              clear kp0 fp0 kp1 fp1 kp2 fp2 kf10 ff10 kf11 ff11 kf12 ff12 kf20 ff20 kf21 ff21 kf22 ff22
              refine (Drop_calls tt Nt_11 Dt_11 (putL L (p0, p1, p2) 99) p0 p1 p2 b0 b1 (by rw [putL_more _ _ _ hg]; omega) _ Tt_18).mono ?_
              rw [getL_put]
              simp only [Option.isSome]
              rintro e w_19 ⟨rfl, ⟨Dt_19, hT⟩, hO⟩
              have Hp_19 := Aside0.mk ((hO.fr.block _ lp_18 (own_not Tt_18.out Hp_18.out (by decide) (by decide))).trans Hp_18.out)
              have lp_19 := Nat.lt_of_lt_of_le lp_18 hO.fr.size
              have Hf1_19 := Aside0.mk ((hO.fr.block _ lf1_18 (own_not Tt_18.out Hf1_18.out (by decide) (by decide))).trans Hf1_18.out)
              have lf1_19 := Nat.lt_of_lt_of_le lf1_18 hO.fr.size
              have Hf2_19 := Aside0.mk ((hO.fr.block _ lf2_18 (own_not Tt_18.out Hf2_18.out (by decide) (by decide))).trans Hf2_18.out)
              have lf2_19 := Nat.lt_of_lt_of_le lf2_18 hO.fr.size
              have OWt_19 : Aside0 (∀ k, Own tt Nt_11 k → w.heap.size ≤ k) := ⟨fun k hk => (hO.new k hk).elim (OWt_11.out k) (fun q => Nat.le_trans BB_18.out.size q)⟩
              have BB_19 := Aside0.mk (Fr.below BB_18.out BB_18.out.size hO.fr OWt_11.out)
              have Tt_19 := Aside0.mk hT
              clear Hp_18 lp_18 Hf1_18 lf1_18 Hf2_18 lf2_18 BB_18 Tt_18 OWt_11 hT hO
              rw [dropL_put _ _ _ hg] at Tt_19
              have hxp := Hp_19.out
              obtain ⟨kp0, fp0⟩ := heap_cell (j := 0) hxp rfl
              obtain ⟨kp1, fp1⟩ := heap_cell (j := 1) hxp rfl
              obtain ⟨kp2, fp2⟩ := heap_cell (j := 2) hxp rfl
              clear hxp
              go_wp2_with fail
              clear kp0 fp0 kp1 fp1 kp2 fp2
              refine (Drop_calls tt Nt_11 Dt_19 L p0 p1 p2 b0 b1 (by omega) _ Tt_19).mono ?_
              rw [hg]
              simp only [Option.isSome]
              rintro e w_20 ⟨rfl, ⟨Dt_20, hT⟩, hO⟩
              have Hp_20 := Aside0.mk ((hO.fr.block _ lp_19 (own_not Tt_19.out Hp_19.out (by decide) (by decide))).trans Hp_19.out)
              have lp_20 := Nat.lt_of_lt_of_le lp_19 hO.fr.size
              have Hf1_20 := Aside0.mk ((hO.fr.block _ lf1_19 (own_not Tt_19.out Hf1_19.out (by decide) (by decide))).trans Hf1_19.out)
              have lf1_20 := Nat.lt_of_lt_of_le lf1_19 hO.fr.size
              have Hf2_20 := Aside0.mk ((hO.fr.block _ lf2_19 (own_not Tt_19.out Hf2_19.out (by decide) (by decide))).trans Hf2_19.out)
              have lf2_20 := Nat.lt_of_lt_of_le lf2_19 hO.fr.size
              have OWt_20 : Aside0 (∀ k, Own tt Nt_11 k → w.heap.size ≤ k) := ⟨fun k hk => (hO.new k hk).elim (OWt_19.out k) (fun q => Nat.le_trans BB_19.out.size q)⟩
              have BB_20 := Aside0.mk (Fr.below BB_19.out BB_19.out.size hO.fr OWt_19.out)
              have Tt_20 := Aside0.mk hT
              clear Hp_19 lp_19 Hf1_19 lf1_19 Hf2_19 lf2_19 BB_19 Tt_19 OWt_19 hT hO
              rw [dropL_id _ _ hg] at Tt_20
              go_wp2_with fail
              refine (Len_calls tt Nt_11 Dt_20 L _ Tt_20).mono ?_
              rintro e w_21 ⟨rfl, rfl⟩
              go_wp2_with fail
              have hf3 := find_is Tt_20.out (adHi x) (adLo x) ba bb _ hbest.out
              refine (Find_calls tt Nt_11 Dt_20 L x AOK.out _ Tt_20).mono ?_
              rw [hf3]
              simp only [findV, pfV, Option.map, Option.getD, Option.isSome]
              clear hf3
              rintro e w_22 ⟨rfl, hb_22⟩
              have Tt_23 := Aside0.mk (Tt_20.out.below hb_22)
              have Hp_23 := Aside0.mk ((hb_22.block _ lp_20).trans Hp_20.out)
              have lp_23 := Nat.lt_of_lt_of_le lp_20 hb_22.size
              have Hf1_23 := Aside0.mk ((hb_22.block _ lf1_20).trans Hf1_20.out)
              have lf1_23 := Nat.lt_of_lt_of_le lf1_20 hb_22.size
              have Hf2_23 := Aside0.mk ((hb_22.block _ lf2_20).trans Hf2_20.out)
              have lf2_23 := Nat.lt_of_lt_of_le lf2_20 hb_22.size
              have BB_23 := Aside0.mk (below_then BB_20.out BB_20.out.size hb_22)
              clear Hp_20 lp_20 Hf1_20 lf1_20 Hf2_20 lf2_20 BB_20 hb_22
              clear Tt_20
              obtain ⟨W_24, hW_24⟩ : ∃ W_24, W_24 = w_22.alloc (.cells #[.int .u64 q0, .int .u64 q1, .int .i64 q2] 25) := ⟨_, rfl⟩
              obtain ⟨hg_24, hl_24, hb_24⟩ := boxN hW_24
              obtain ⟨gf3, hgg_24⟩ : ∃ gf3, gf3 = w_22.heap.size := ⟨_, rfl⟩
              rw [← hgg_24] at hg_24 hl_24
              have HAf3 := Aside0.mk hg_24
              have LAf3 := hl_24
              have HGG_24 := Lib.hid hgg_24
              have HWW_24 := Lib.hid hW_24
              clear hW_24 hgg_24 hg_24 hl_24
              have Tt_25 := Aside0.mk (Tt_23.out.below hb_24)
              have Hp_25 := Aside0.mk ((hb_24.block _ lp_23).trans Hp_23.out)
              have lp_25 := Nat.lt_of_lt_of_le lp_23 hb_24.size
              have Hf1_25 := Aside0.mk ((hb_24.block _ lf1_23).trans Hf1_23.out)
              have lf1_25 := Nat.lt_of_lt_of_le lf1_23 hb_24.size
              have Hf2_25 := Aside0.mk ((hb_24.block _ lf2_23).trans Hf2_23.out)
              have lf2_25 := Nat.lt_of_lt_of_le lf2_23 hb_24.size
              have BB_25 := Aside0.mk (below_then BB_23.out BB_23.out.size hb_24)
              clear Hp_23 lp_23 Hf1_23 lf1_23 Hf2_23 lf2_23 BB_23 hb_24
              clear Tt_23
              have hxf1 := Hf1_25.out
              obtain ⟨kf10, ff10⟩ := heap_cell (j := 0) hxf1 rfl
              obtain ⟨kf11, ff11⟩ := heap_cell (j := 1) hxf1 rfl
              obtain ⟨kf12, ff12⟩ := heap_cell (j := 2) hxf1 rfl
              clear hxf1
              have hxf3 := HAf3.out
              obtain ⟨kf30, ff30⟩ := heap_cell (j := 0) hxf3 rfl
              obtain ⟨kf31, ff31⟩ := heap_cell (j := 1) hxf3 rfl
              obtain ⟨kf32, ff32⟩ := heap_cell (j := 2) hxf3 rfl
              clear hxf3
              rw [HWW_24.out] at kf10 ff10 kf11 ff11 kf12 ff12 kf30 ff30 kf31 ff31 kf32 ff32
              go_wp2_with fail
              try rw [← HWW_24.out]
              try rw [← HGG_24.out]
              clear kf10 ff10 kf11 ff11 kf12 ff12 kf30 ff30 kf31 ff31 kf32 ff32
              go_ret
              exact ⟨rfl, BB_25.out⟩
          | true =>
            rcases hf : fndE N D (adHi x) (adLo x) with _ | ⟨⟨q0, q1, q2⟩, v⟩ <;> rw [hf] at hbest
            · refine (Find_calls tt N D L x AOK.out _ Tt_5).mono ?_
              rw [hf]
              simp only [findV, pfV, Option.map, Option.getD, Option.isSome]
              rintro e w_6 ⟨rfl, hb_6⟩
              have Tt_7 := Aside0.mk (Tt_5.out.below hb_6)
              have Hp_7 := Aside0.mk ((hb_6.block _ lp_5).trans Hp_5.out)
              have lp_7 := Nat.lt_of_lt_of_le lp_5 hb_6.size
              have BB_7 := Aside0.mk (below_then BB_5.out BB_5.out.size hb_6)
              clear Hp_5 lp_5 BB_5 hb_6
              clear Tt_5
              obtain ⟨W_8, hW_8⟩ : ∃ W_8, W_8 = w_6.alloc (.cells #[.int .u64 0, .int .u64 0, .int .i64 0] 25) := ⟨_, rfl⟩
              obtain ⟨hg_8, hl_8, hb_8⟩ := boxN hW_8
              obtain ⟨gf1, hgg_8⟩ : ∃ gf1, gf1 = w_6.heap.size := ⟨_, rfl⟩
              rw [← hgg_8] at hg_8 hl_8
              have HAf1 := Aside0.mk hg_8
              have LAf1 := hl_8
              have HGG_8 := Lib.hid hgg_8
              have HWW_8 := Lib.hid hW_8
              clear hW_8 hgg_8 hg_8 hl_8
              have Tt_9 := Aside0.mk (Tt_7.out.below hb_8)
              have Hp_9 := Aside0.mk ((hb_8.block _ lp_7).trans Hp_7.out)
              have lp_9 := Nat.lt_of_lt_of_le lp_7 hb_8.size
              have BB_9 := Aside0.mk (below_then BB_7.out BB_7.out.size hb_8)
              clear Hp_7 lp_7 BB_7 hb_8
              clear Tt_7
              go_wp2_with fail
              try rw [← HWW_8.out]
              try rw [← HGG_8.out]
              refine (Len_calls tt N D L _ Tt_9).mono ?_
              rintro e w_10 ⟨rfl, rfl⟩
              have hxp := Hp_9.out
              obtain ⟨kp0, fp0⟩ := heap_cell (j := 0) hxp rfl
              obtain ⟨kp1, fp1⟩ := heap_cell (j := 1) hxp rfl
              obtain ⟨kp2, fp2⟩ := heap_cell (j := 2) hxp rfl
              clear hxp
              go_wp2_with fail
              clear kp0 fp0 kp1 fp1 kp2 fp2
              refine (Put_calls tt N D L p0 p1 p2 99 b0 b1 hr (by omega) _ Tt_9).mono ?_
              rintro e w_11 ⟨rfl, Nt_11, Dt_11, hT, hO⟩
              have Hp_11 := Aside0.mk ((hO.fr.block _ lp_9 (own_not Tt_9.out Hp_9.out (by decide) (by decide))).trans Hp_9.out)
              have lp_11 := Nat.lt_of_lt_of_le lp_9 hO.fr.size
              have Hf1_11 := Aside0.mk ((hO.fr.block _ LAf1 (own_not Tt_9.out HAf1.out (by decide) (by decide))).trans HAf1.out)
              have lf1_11 := Nat.lt_of_lt_of_le LAf1 hO.fr.size
              have OWt_11 : Aside0 (∀ k, Own tt Nt_11 k → w.heap.size ≤ k) := ⟨fun k hk => (hO.new k hk).elim (HOr.out k) (fun q => Nat.le_trans BB_9.out.size q)⟩
              have BB_11 := Aside0.mk (Fr.below BB_9.out BB_9.out.size hO.fr HOr.out)
              have Tt_11 := Aside0.mk hT
              clear Hp_9 lp_9 HAf1 LAf1 BB_9 Tt_9 HOr hT hO
              go_wp2_with fail
              refine (Len_calls tt Nt_11 Dt_11 _ _ Tt_11).mono ?_
              rw [putL_more _ _ _ hg]
              rintro e w_12 ⟨rfl, rfl⟩
              go_wp2_with fail
              have hf2 := find_is Tt_11.out (adHi x) (adLo x) ba bb _ (hbest.out.put (p0, p1, p2) 99 hg)
              rw [show bestS (adHi x) (adLo x) (none) ((p0, p1, p2), 99) = some ((p0, p1, p2), 99) by simp only [bestS, hh, if_true]] at hf2
              refine (Find_calls tt Nt_11 Dt_11 _ x AOK.out _ Tt_11).mono ?_
              rw [hf2]
              simp only [findV, pfV, Option.map, Option.getD, Option.isSome]
              clear hf2
              rintro e w_13 ⟨rfl, hb_13⟩
              have Tt_14 := Aside0.mk (Tt_11.out.below hb_13)
              have Hp_14 := Aside0.mk ((hb_13.block _ lp_11).trans Hp_11.out)
              have lp_14 := Nat.lt_of_lt_of_le lp_11 hb_13.size
              have Hf1_14 := Aside0.mk ((hb_13.block _ lf1_11).trans Hf1_11.out)
              have lf1_14 := Nat.lt_of_lt_of_le lf1_11 hb_13.size
              have BB_14 := Aside0.mk (below_then BB_11.out BB_11.out.size hb_13)
              clear Hp_11 lp_11 Hf1_11 lf1_11 BB_11 hb_13
              clear Tt_11
              obtain ⟨W_15, hW_15⟩ : ∃ W_15, W_15 = w_13.alloc (.cells #[.int .u64 p0, .int .u64 p1, .int .i64 p2] 25) := ⟨_, rfl⟩
              obtain ⟨hg_15, hl_15, hb_15⟩ := boxN hW_15
              obtain ⟨gf2, hgg_15⟩ : ∃ gf2, gf2 = w_13.heap.size := ⟨_, rfl⟩
              rw [← hgg_15] at hg_15 hl_15
              have HAf2 := Aside0.mk hg_15
              have LAf2 := hl_15
              have HGG_15 := Lib.hid hgg_15
              have HWW_15 := Lib.hid hW_15
              clear hW_15 hgg_15 hg_15 hl_15
              have Tt_16 := Aside0.mk (Tt_14.out.below hb_15)
              have Hp_16 := Aside0.mk ((hb_15.block _ lp_14).trans Hp_14.out)
              have lp_16 := Nat.lt_of_lt_of_le lp_14 hb_15.size
              have Hf1_16 := Aside0.mk ((hb_15.block _ lf1_14).trans Hf1_14.out)
              have lf1_16 := Nat.lt_of_lt_of_le lf1_14 hb_15.size
              have BB_16 := Aside0.mk (below_then BB_14.out BB_14.out.size hb_15)
              clear Hp_14 lp_14 Hf1_14 lf1_14 BB_14 hb_15
              clear Tt_14
              have hxp := Hp_16.out
              obtain ⟨kp0, fp0⟩ := heap_cell (j := 0) hxp rfl
              obtain ⟨kp1, fp1⟩ := heap_cell (j := 1) hxp rfl
              obtain ⟨kp2, fp2⟩ := heap_cell (j := 2) hxp rfl
              clear hxp
              rw [HWW_15.out] at kp0 fp0 kp1 fp1 kp2 fp2
              go_wp2_with fail
              try rw [← HWW_15.out]
              try rw [← HGG_15.out]
              clear kp0 fp0 kp1 fp1 kp2 fp2
              refine (PfHas_calls p0 p1 p2 (some x) (ok_some _ AOK.out) b0 b1 _).mono ?_
              rw [hasO, hh]
              rintro e w_17 ⟨rfl, hb_17⟩
              have Tt_18 := Aside0.mk (Tt_16.out.below hb_17)
              have Hp_18 := Aside0.mk ((hb_17.block _ lp_16).trans Hp_16.out)
              have lp_18 := Nat.lt_of_lt_of_le lp_16 hb_17.size
              have Hf1_18 := Aside0.mk ((hb_17.block _ lf1_16).trans Hf1_16.out)
              have lf1_18 := Nat.lt_of_lt_of_le lf1_16 hb_17.size
              have Hf2_18 := Aside0.mk ((hb_17.block _ LAf2).trans HAf2.out)
              have lf2_18 := Nat.lt_of_lt_of_le LAf2 hb_17.size
              have BB_18 := Aside0.mk (below_then BB_16.out BB_16.out.size hb_17)
              clear Hp_16 lp_16 Hf1_16 lf1_16 HAf2 LAf2 BB_16 hb_17
              clear Tt_16
              have hxp := Hp_18.out
              obtain ⟨kp0, fp0⟩ := heap_cell (j := 0) hxp rfl
              obtain ⟨kp1, fp1⟩ := heap_cell (j := 1) hxp rfl
              obtain ⟨kp2, fp2⟩ := heap_cell (j := 2) hxp rfl
              clear hxp
              have hxf1 := Hf1_18.out
              obtain ⟨kf10, ff10⟩ := heap_cell (j := 0) hxf1 rfl
              obtain ⟨kf11, ff11⟩ := heap_cell (j := 1) hxf1 rfl
              obtain ⟨kf12, ff12⟩ := heap_cell (j := 2) hxf1 rfl
              clear hxf1
              have hxf2 := Hf2_18.out
              obtain ⟨kf20, ff20⟩ := heap_cell (j := 0) hxf2 rfl
              obtain ⟨kf21, ff21⟩ := heap_cell (j := 1) hxf2 rfl
              obtain ⟨kf22, ff22⟩ := heap_cell (j := 2) hxf2 rfl
              clear hxf2
              go_wp2_with fail
              clear kp0 fp0 kp1 fp1 kp2 fp2 kf10 ff10 kf11 ff11 kf12 ff12 kf20 ff20 kf21 ff21 kf22 ff22
              refine (Drop_calls tt Nt_11 Dt_11 (putL L (p0, p1, p2) 99) p0 p1 p2 b0 b1 (by rw [putL_more _ _ _ hg]; omega) _ Tt_18).mono ?_
              rw [getL_put]
              simp only [Option.isSome]
              rintro e w_19 ⟨rfl, ⟨Dt_19, hT⟩, hO⟩
              have Hp_19 := Aside0.mk ((hO.fr.block _ lp_18 (own_not Tt_18.out Hp_18.out (by decide) (by decide))).trans Hp_18.out)
              have lp_19 := Nat.lt_of_lt_of_le lp_18 hO.fr.size
              have Hf1_19 := Aside0.mk ((hO.fr.block _ lf1_18 (own_not Tt_18.out Hf1_18.out (by decide) (by decide))).trans Hf1_18.out)
              have lf1_19 := Nat.lt_of_lt_of_le lf1_18 hO.fr.size
              have Hf2_19 := Aside0.mk ((hO.fr.block _ lf2_18 (own_not Tt_18.out Hf2_18.out (by decide) (by decide))).trans Hf2_18.out)
              have lf2_19 := Nat.lt_of_lt_of_le lf2_18 hO.fr.size
              have OWt_19 : Aside0 (∀ k, Own tt Nt_11 k → w.heap.size ≤ k) := ⟨fun k hk => (hO.new k hk).elim (OWt_11.out k) (fun q => Nat.le_trans BB_18.out.size q)⟩
              have BB_19 := Aside0.mk (Fr.below BB_18.out BB_18.out.size hO.fr OWt_11.out)
              have Tt_19 := Aside0.mk hT
              clear Hp_18 lp_18 Hf1_18 lf1_18 Hf2_18 lf2_18 BB_18 Tt_18 OWt_11 hT hO
              rw [dropL_put _ _ _ hg] at Tt_19
              have hxp := Hp_19.out
              obtain ⟨kp0, fp0⟩ := heap_cell (j := 0) hxp rfl
              obtain ⟨kp1, fp1⟩ := heap_cell (j := 1) hxp rfl
              obtain ⟨kp2, fp2⟩ := heap_cell (j := 2) hxp rfl
              clear hxp
              go_wp2_with fail
              clear kp0 fp0 kp1 fp1 kp2 fp2
              refine (Drop_calls tt Nt_11 Dt_19 L p0 p1 p2 b0 b1 (by omega) _ Tt_19).mono ?_
              rw [hg]
              simp only [Option.isSome]
              rintro e w_20 ⟨rfl, ⟨Dt_20, hT⟩, hO⟩
              have Hp_20 := Aside0.mk ((hO.fr.block _ lp_19 (own_not Tt_19.out Hp_19.out (by decide) (by decide))).trans Hp_19.out)
              have lp_20 := Nat.lt_of_lt_of_le lp_19 hO.fr.size
              have Hf1_20 := Aside0.mk ((hO.fr.block _ lf1_19 (own_not Tt_19.out Hf1_19.out (by decide) (by decide))).trans Hf1_19.out)
              have lf1_20 := Nat.lt_of_lt_of_le lf1_19 hO.fr.size
              have Hf2_20 := Aside0.mk ((hO.fr.block _ lf2_19 (own_not Tt_19.out Hf2_19.out (by decide) (by decide))).trans Hf2_19.out)
              have lf2_20 := Nat.lt_of_lt_of_le lf2_19 hO.fr.size
              have OWt_20 : Aside0 (∀ k, Own tt Nt_11 k → w.heap.size ≤ k) := ⟨fun k hk => (hO.new k hk).elim (OWt_19.out k) (fun q => Nat.le_trans BB_19.out.size q)⟩
              have BB_20 := Aside0.mk (Fr.below BB_19.out BB_19.out.size hO.fr OWt_19.out)
              have Tt_20 := Aside0.mk hT
              clear Hp_19 lp_19 Hf1_19 lf1_19 Hf2_19 lf2_19 BB_19 Tt_19 OWt_19 hT hO
              rw [dropL_id _ _ hg] at Tt_20
              go_wp2_with fail
              refine (Len_calls tt Nt_11 Dt_20 L _ Tt_20).mono ?_
              rintro e w_21 ⟨rfl, rfl⟩
              go_wp2_with fail
              have hf3 := find_is Tt_20.out (adHi x) (adLo x) ba bb _ hbest.out
              refine (Find_calls tt Nt_11 Dt_20 L x AOK.out _ Tt_20).mono ?_
              rw [hf3]
              simp only [findV, pfV, Option.map, Option.getD, Option.isSome]
              clear hf3
              rintro e w_22 ⟨rfl, hb_22⟩
              have Tt_23 := Aside0.mk (Tt_20.out.below hb_22)
              have Hp_23 := Aside0.mk ((hb_22.block _ lp_20).trans Hp_20.out)
              have lp_23 := Nat.lt_of_lt_of_le lp_20 hb_22.size
              have Hf1_23 := Aside0.mk ((hb_22.block _ lf1_20).trans Hf1_20.out)
              have lf1_23 := Nat.lt_of_lt_of_le lf1_20 hb_22.size
              have Hf2_23 := Aside0.mk ((hb_22.block _ lf2_20).trans Hf2_20.out)
              have lf2_23 := Nat.lt_of_lt_of_le lf2_20 hb_22.size
              have BB_23 := Aside0.mk (below_then BB_20.out BB_20.out.size hb_22)
              clear Hp_20 lp_20 Hf1_20 lf1_20 Hf2_20 lf2_20 BB_20 hb_22
              clear Tt_20
              obtain ⟨W_24, hW_24⟩ : ∃ W_24, W_24 = w_22.alloc (.cells #[.int .u64 0, .int .u64 0, .int .i64 0] 25) := ⟨_, rfl⟩
              obtain ⟨hg_24, hl_24, hb_24⟩ := boxN hW_24
              obtain ⟨gf3, hgg_24⟩ : ∃ gf3, gf3 = w_22.heap.size := ⟨_, rfl⟩
              rw [← hgg_24] at hg_24 hl_24
              have HAf3 := Aside0.mk hg_24
              have LAf3 := hl_24
              have HGG_24 := Lib.hid hgg_24
              have HWW_24 := Lib.hid hW_24
              clear hW_24 hgg_24 hg_24 hl_24
              have Tt_25 := Aside0.mk (Tt_23.out.below hb_24)
              have Hp_25 := Aside0.mk ((hb_24.block _ lp_23).trans Hp_23.out)
              have lp_25 := Nat.lt_of_lt_of_le lp_23 hb_24.size
              have Hf1_25 := Aside0.mk ((hb_24.block _ lf1_23).trans Hf1_23.out)
              have lf1_25 := Nat.lt_of_lt_of_le lf1_23 hb_24.size
              have Hf2_25 := Aside0.mk ((hb_24.block _ lf2_23).trans Hf2_23.out)
              have lf2_25 := Nat.lt_of_lt_of_le lf2_23 hb_24.size
              have BB_25 := Aside0.mk (below_then BB_23.out BB_23.out.size hb_24)
              clear Hp_23 lp_23 Hf1_23 lf1_23 Hf2_23 lf2_23 BB_23 hb_24
              clear Tt_23
              have hxf1 := Hf1_25.out
              obtain ⟨kf10, ff10⟩ := heap_cell (j := 0) hxf1 rfl
              obtain ⟨kf11, ff11⟩ := heap_cell (j := 1) hxf1 rfl
              obtain ⟨kf12, ff12⟩ := heap_cell (j := 2) hxf1 rfl
              clear hxf1
              have hxf3 := HAf3.out
              obtain ⟨kf30, ff30⟩ := heap_cell (j := 0) hxf3 rfl
              obtain ⟨kf31, ff31⟩ := heap_cell (j := 1) hxf3 rfl
              obtain ⟨kf32, ff32⟩ := heap_cell (j := 2) hxf3 rfl
              clear hxf3
              rw [HWW_24.out] at kf10 ff10 kf11 ff11 kf12 ff12 kf30 ff30 kf31 ff31 kf32 ff32
              go_wp2_with fail
              try rw [← HWW_24.out]
              try rw [← HGG_24.out]
              clear kf10 ff10 kf11 ff11 kf12 ff12 kf30 ff30 kf31 ff31 kf32 ff32
              go_ret
              exact ⟨rfl, BB_25.out⟩
            · by_cases hlt : q2 < p2
              · refine (Find_calls tt N D L x AOK.out _ Tt_5).mono ?_
                rw [hf]
                simp only [findV, pfV, Option.map, Option.getD, Option.isSome]
                rintro e w_6 ⟨rfl, hb_6⟩
                have Tt_7 := Aside0.mk (Tt_5.out.below hb_6)
                have Hp_7 := Aside0.mk ((hb_6.block _ lp_5).trans Hp_5.out)
                have lp_7 := Nat.lt_of_lt_of_le lp_5 hb_6.size
                have BB_7 := Aside0.mk (below_then BB_5.out BB_5.out.size hb_6)
                clear Hp_5 lp_5 BB_5 hb_6
                clear Tt_5
                obtain ⟨W_8, hW_8⟩ : ∃ W_8, W_8 = w_6.alloc (.cells #[.int .u64 q0, .int .u64 q1, .int .i64 q2] 25) := ⟨_, rfl⟩
                obtain ⟨hg_8, hl_8, hb_8⟩ := boxN hW_8
                obtain ⟨gf1, hgg_8⟩ : ∃ gf1, gf1 = w_6.heap.size := ⟨_, rfl⟩
                rw [← hgg_8] at hg_8 hl_8
                have HAf1 := Aside0.mk hg_8
                have LAf1 := hl_8
                have HGG_8 := Lib.hid hgg_8
                have HWW_8 := Lib.hid hW_8
                clear hW_8 hgg_8 hg_8 hl_8
                have Tt_9 := Aside0.mk (Tt_7.out.below hb_8)
                have Hp_9 := Aside0.mk ((hb_8.block _ lp_7).trans Hp_7.out)
                have lp_9 := Nat.lt_of_lt_of_le lp_7 hb_8.size
                have BB_9 := Aside0.mk (below_then BB_7.out BB_7.out.size hb_8)
                clear Hp_7 lp_7 BB_7 hb_8
                clear Tt_7
                go_wp2_with fail
                try rw [← HWW_8.out]
                try rw [← HGG_8.out]
                refine (Len_calls tt N D L _ Tt_9).mono ?_
                rintro e w_10 ⟨rfl, rfl⟩
                have hxp := Hp_9.out
                obtain ⟨kp0, fp0⟩ := heap_cell (j := 0) hxp rfl
                obtain ⟨kp1, fp1⟩ := heap_cell (j := 1) hxp rfl
                obtain ⟨kp2, fp2⟩ := heap_cell (j := 2) hxp rfl
                clear hxp
                go_wp2_with fail
                clear kp0 fp0 kp1 fp1 kp2 fp2
                refine (Put_calls tt N D L p0 p1 p2 99 b0 b1 hr (by omega) _ Tt_9).mono ?_
                rintro e w_11 ⟨rfl, Nt_11, Dt_11, hT, hO⟩
                have Hp_11 := Aside0.mk ((hO.fr.block _ lp_9 (own_not Tt_9.out Hp_9.out (by decide) (by decide))).trans Hp_9.out)
                have lp_11 := Nat.lt_of_lt_of_le lp_9 hO.fr.size
                have Hf1_11 := Aside0.mk ((hO.fr.block _ LAf1 (own_not Tt_9.out HAf1.out (by decide) (by decide))).trans HAf1.out)
                have lf1_11 := Nat.lt_of_lt_of_le LAf1 hO.fr.size
                have OWt_11 : Aside0 (∀ k, Own tt Nt_11 k → w.heap.size ≤ k) := ⟨fun k hk => (hO.new k hk).elim (HOr.out k) (fun q => Nat.le_trans BB_9.out.size q)⟩
                have BB_11 := Aside0.mk (Fr.below BB_9.out BB_9.out.size hO.fr HOr.out)
                have Tt_11 := Aside0.mk hT
                clear Hp_9 lp_9 HAf1 LAf1 BB_9 Tt_9 HOr hT hO
                go_wp2_with fail
                refine (Len_calls tt Nt_11 Dt_11 _ _ Tt_11).mono ?_
                rw [putL_more _ _ _ hg]
                rintro e w_12 ⟨rfl, rfl⟩
                go_wp2_with fail
                have hf2 := find_is Tt_11.out (adHi x) (adLo x) ba bb _ (hbest.out.put (p0, p1, p2) 99 hg)
                rw [show bestS (adHi x) (adLo x) (some ((q0, q1, q2), v)) ((p0, p1, p2), 99) = some ((p0, p1, p2), 99) by simp only [bestS, hh, if_true, if_pos hlt]] at hf2
                refine (Find_calls tt Nt_11 Dt_11 _ x AOK.out _ Tt_11).mono ?_
                rw [hf2]
                simp only [findV, pfV, Option.map, Option.getD, Option.isSome]
                clear hf2
                rintro e w_13 ⟨rfl, hb_13⟩
                have Tt_14 := Aside0.mk (Tt_11.out.below hb_13)
                have Hp_14 := Aside0.mk ((hb_13.block _ lp_11).trans Hp_11.out)
                have lp_14 := Nat.lt_of_lt_of_le lp_11 hb_13.size
                have Hf1_14 := Aside0.mk ((hb_13.block _ lf1_11).trans Hf1_11.out)
                have lf1_14 := Nat.lt_of_lt_of_le lf1_11 hb_13.size
                have BB_14 := Aside0.mk (below_then BB_11.out BB_11.out.size hb_13)
                clear Hp_11 lp_11 Hf1_11 lf1_11 BB_11 hb_13
                clear Tt_11
                obtain ⟨W_15, hW_15⟩ : ∃ W_15, W_15 = w_13.alloc (.cells #[.int .u64 p0, .int .u64 p1, .int .i64 p2] 25) := ⟨_, rfl⟩
                obtain ⟨hg_15, hl_15, hb_15⟩ := boxN hW_15
                obtain ⟨gf2, hgg_15⟩ : ∃ gf2, gf2 = w_13.heap.size := ⟨_, rfl⟩
                rw [← hgg_15] at hg_15 hl_15
                have HAf2 := Aside0.mk hg_15
                have LAf2 := hl_15
                have HGG_15 := Lib.hid hgg_15
                have HWW_15 := Lib.hid hW_15
                clear hW_15 hgg_15 hg_15 hl_15
                have Tt_16 := Aside0.mk (Tt_14.out.below hb_15)
                have Hp_16 := Aside0.mk ((hb_15.block _ lp_14).trans Hp_14.out)
                have lp_16 := Nat.lt_of_lt_of_le lp_14 hb_15.size
                have Hf1_16 := Aside0.mk ((hb_15.block _ lf1_14).trans Hf1_14.out)
                have lf1_16 := Nat.lt_of_lt_of_le lf1_14 hb_15.size
                have BB_16 := Aside0.mk (below_then BB_14.out BB_14.out.size hb_15)
                clear Hp_14 lp_14 Hf1_14 lf1_14 BB_14 hb_15
                clear Tt_14
                have hxp := Hp_16.out
                obtain ⟨kp0, fp0⟩ := heap_cell (j := 0) hxp rfl
                obtain ⟨kp1, fp1⟩ := heap_cell (j := 1) hxp rfl
                obtain ⟨kp2, fp2⟩ := heap_cell (j := 2) hxp rfl
                clear hxp
                rw [HWW_15.out] at kp0 fp0 kp1 fp1 kp2 fp2
                go_wp2_with fail
                try rw [← HWW_15.out]
                try rw [← HGG_15.out]
                clear kp0 fp0 kp1 fp1 kp2 fp2
                refine (PfHas_calls p0 p1 p2 (some x) (ok_some _ AOK.out) b0 b1 _).mono ?_
                rw [hasO, hh]
                rintro e w_17 ⟨rfl, hb_17⟩
                have Tt_18 := Aside0.mk (Tt_16.out.below hb_17)
                have Hp_18 := Aside0.mk ((hb_17.block _ lp_16).trans Hp_16.out)
                have lp_18 := Nat.lt_of_lt_of_le lp_16 hb_17.size
                have Hf1_18 := Aside0.mk ((hb_17.block _ lf1_16).trans Hf1_16.out)
                have lf1_18 := Nat.lt_of_lt_of_le lf1_16 hb_17.size
                have Hf2_18 := Aside0.mk ((hb_17.block _ LAf2).trans HAf2.out)
                have lf2_18 := Nat.lt_of_lt_of_le LAf2 hb_17.size
                have BB_18 := Aside0.mk (below_then BB_16.out BB_16.out.size hb_17)
                clear Hp_16 lp_16 Hf1_16 lf1_16 HAf2 LAf2 BB_16 hb_17
                clear Tt_16
                have hxp := Hp_18.out
                obtain ⟨kp0, fp0⟩ := heap_cell (j := 0) hxp rfl
                obtain ⟨kp1, fp1⟩ := heap_cell (j := 1) hxp rfl
                obtain ⟨kp2, fp2⟩ := heap_cell (j := 2) hxp rfl
                clear hxp
                have hxf1 := Hf1_18.out
                obtain ⟨kf10, ff10⟩ := heap_cell (j := 0) hxf1 rfl
                obtain ⟨kf11, ff11⟩ := heap_cell (j := 1) hxf1 rfl
                obtain ⟨kf12, ff12⟩ := heap_cell (j := 2) hxf1 rfl
                clear hxf1
                have hxf2 := Hf2_18.out
                obtain ⟨kf20, ff20⟩ := heap_cell (j := 0) hxf2 rfl
                obtain ⟨kf21, ff21⟩ := heap_cell (j := 1) hxf2 rfl
                obtain ⟨kf22, ff22⟩ := heap_cell (j := 2) hxf2 rfl
                clear hxf2
                go_wp2_with fail
                clear kp0 fp0 kp1 fp1 kp2 fp2 kf10 ff10 kf11 ff11 kf12 ff12 kf20 ff20 kf21 ff21 kf22 ff22
                refine (Drop_calls tt Nt_11 Dt_11 (putL L (p0, p1, p2) 99) p0 p1 p2 b0 b1 (by rw [putL_more _ _ _ hg]; omega) _ Tt_18).mono ?_
                rw [getL_put]
                simp only [Option.isSome]
                rintro e w_19 ⟨rfl, ⟨Dt_19, hT⟩, hO⟩
                have Hp_19 := Aside0.mk ((hO.fr.block _ lp_18 (own_not Tt_18.out Hp_18.out (by decide) (by decide))).trans Hp_18.out)
                have lp_19 := Nat.lt_of_lt_of_le lp_18 hO.fr.size
                have Hf1_19 := Aside0.mk ((hO.fr.block _ lf1_18 (own_not Tt_18.out Hf1_18.out (by decide) (by decide))).trans Hf1_18.out)
                have lf1_19 := Nat.lt_of_lt_of_le lf1_18 hO.fr.size
                have Hf2_19 := Aside0.mk ((hO.fr.block _ lf2_18 (own_not Tt_18.out Hf2_18.out (by decide) (by decide))).trans Hf2_18.out)
                have lf2_19 := Nat.lt_of_lt_of_le lf2_18 hO.fr.size
                have OWt_19 : Aside0 (∀ k, Own tt Nt_11 k → w.heap.size ≤ k) := ⟨fun k hk => (hO.new k hk).elim (OWt_11.out k) (fun q => Nat.le_trans BB_18.out.size q)⟩
                have BB_19 := Aside0.mk (Fr.below BB_18.out BB_18.out.size hO.fr OWt_11.out)
                have Tt_19 := Aside0.mk hT
                clear Hp_18 lp_18 Hf1_18 lf1_18 Hf2_18 lf2_18 BB_18 Tt_18 OWt_11 hT hO
                rw [dropL_put _ _ _ hg] at Tt_19
                have hxp := Hp_19.out
                obtain ⟨kp0, fp0⟩ := heap_cell (j := 0) hxp rfl
                obtain ⟨kp1, fp1⟩ := heap_cell (j := 1) hxp rfl
                obtain ⟨kp2, fp2⟩ := heap_cell (j := 2) hxp rfl
                clear hxp
                go_wp2_with fail
                clear kp0 fp0 kp1 fp1 kp2 fp2
                refine (Drop_calls tt Nt_11 Dt_19 L p0 p1 p2 b0 b1 (by omega) _ Tt_19).mono ?_
                rw [hg]
                simp only [Option.isSome]
                rintro e w_20 ⟨rfl, ⟨Dt_20, hT⟩, hO⟩
                have Hp_20 := Aside0.mk ((hO.fr.block _ lp_19 (own_not Tt_19.out Hp_19.out (by decide) (by decide))).trans Hp_19.out)
                have lp_20 := Nat.lt_of_lt_of_le lp_19 hO.fr.size
                have Hf1_20 := Aside0.mk ((hO.fr.block _ lf1_19 (own_not Tt_19.out Hf1_19.out (by decide) (by decide))).trans Hf1_19.out)
                have lf1_20 := Nat.lt_of_lt_of_le lf1_19 hO.fr.size
                have Hf2_20 := Aside0.mk ((hO.fr.block _ lf2_19 (own_not Tt_19.out Hf2_19.out (by decide) (by decide))).trans Hf2_19.out)
                have lf2_20 := Nat.lt_of_lt_of_le lf2_19 hO.fr.size
                have OWt_20 : Aside0 (∀ k, Own tt Nt_11 k → w.heap.size ≤ k) := ⟨fun k hk => (hO.new k hk).elim (OWt_19.out k) (fun q => Nat.le_trans BB_19.out.size q)⟩
                have BB_20 := Aside0.mk (Fr.below BB_19.out BB_19.out.size hO.fr OWt_19.out)
                have Tt_20 := Aside0.mk hT
                clear Hp_19 lp_19 Hf1_19 lf1_19 Hf2_19 lf2_19 BB_19 Tt_19 OWt_19 hT hO
                rw [dropL_id _ _ hg] at Tt_20
                go_wp2_with fail
                refine (Len_calls tt Nt_11 Dt_20 L _ Tt_20).mono ?_
                rintro e w_21 ⟨rfl, rfl⟩
                go_wp2_with fail
                have hf3 := find_is Tt_20.out (adHi x) (adLo x) ba bb _ hbest.out
                refine (Find_calls tt Nt_11 Dt_20 L x AOK.out _ Tt_20).mono ?_
                rw [hf3]
                simp only [findV, pfV, Option.map, Option.getD, Option.isSome]
                clear hf3
                rintro e w_22 ⟨rfl, hb_22⟩
                have Tt_23 := Aside0.mk (Tt_20.out.below hb_22)
                have Hp_23 := Aside0.mk ((hb_22.block _ lp_20).trans Hp_20.out)
                have lp_23 := Nat.lt_of_lt_of_le lp_20 hb_22.size
                have Hf1_23 := Aside0.mk ((hb_22.block _ lf1_20).trans Hf1_20.out)
                have lf1_23 := Nat.lt_of_lt_of_le lf1_20 hb_22.size
                have Hf2_23 := Aside0.mk ((hb_22.block _ lf2_20).trans Hf2_20.out)
                have lf2_23 := Nat.lt_of_lt_of_le lf2_20 hb_22.size
                have BB_23 := Aside0.mk (below_then BB_20.out BB_20.out.size hb_22)
                clear Hp_20 lp_20 Hf1_20 lf1_20 Hf2_20 lf2_20 BB_20 hb_22
                clear Tt_20
                obtain ⟨W_24, hW_24⟩ : ∃ W_24, W_24 = w_22.alloc (.cells #[.int .u64 q0, .int .u64 q1, .int .i64 q2] 25) := ⟨_, rfl⟩
                obtain ⟨hg_24, hl_24, hb_24⟩ := boxN hW_24
                obtain ⟨gf3, hgg_24⟩ : ∃ gf3, gf3 = w_22.heap.size := ⟨_, rfl⟩
                rw [← hgg_24] at hg_24 hl_24
                have HAf3 := Aside0.mk hg_24
                have LAf3 := hl_24
                have HGG_24 := Lib.hid hgg_24
                have HWW_24 := Lib.hid hW_24
                clear hW_24 hgg_24 hg_24 hl_24
                have Tt_25 := Aside0.mk (Tt_23.out.below hb_24)
                have Hp_25 := Aside0.mk ((hb_24.block _ lp_23).trans Hp_23.out)
                have lp_25 := Nat.lt_of_lt_of_le lp_23 hb_24.size
                have Hf1_25 := Aside0.mk ((hb_24.block _ lf1_23).trans Hf1_23.out)
                have lf1_25 := Nat.lt_of_lt_of_le lf1_23 hb_24.size
                have Hf2_25 := Aside0.mk ((hb_24.block _ lf2_23).trans Hf2_23.out)
                have lf2_25 := Nat.lt_of_lt_of_le lf2_23 hb_24.size
                have BB_25 := Aside0.mk (below_then BB_23.out BB_23.out.size hb_24)
                clear Hp_23 lp_23 Hf1_23 lf1_23 Hf2_23 lf2_23 BB_23 hb_24
                clear Tt_23
                have hxf1 := Hf1_25.out
                obtain ⟨kf10, ff10⟩ := heap_cell (j := 0) hxf1 rfl
                obtain ⟨kf11, ff11⟩ := heap_cell (j := 1) hxf1 rfl
                obtain ⟨kf12, ff12⟩ := heap_cell (j := 2) hxf1 rfl
                clear hxf1
                have hxf3 := HAf3.out
                obtain ⟨kf30, ff30⟩ := heap_cell (j := 0) hxf3 rfl
                obtain ⟨kf31, ff31⟩ := heap_cell (j := 1) hxf3 rfl
                obtain ⟨kf32, ff32⟩ := heap_cell (j := 2) hxf3 rfl
                clear hxf3
                rw [HWW_24.out] at kf10 ff10 kf11 ff11 kf12 ff12 kf30 ff30 kf31 ff31 kf32 ff32
                go_wp2_with fail
                try rw [← HWW_24.out]
                try rw [← HGG_24.out]
                clear kf10 ff10 kf11 ff11 kf12 ff12 kf30 ff30 kf31 ff31 kf32 ff32
                go_ret
                exact ⟨rfl, BB_25.out⟩
              · refine (Find_calls tt N D L x AOK.out _ Tt_5).mono ?_
                rw [hf]
                simp only [findV, pfV, Option.map, Option.getD, Option.isSome]
                rintro e w_6 ⟨rfl, hb_6⟩
                have Tt_7 := Aside0.mk (Tt_5.out.below hb_6)
                have Hp_7 := Aside0.mk ((hb_6.block _ lp_5).trans Hp_5.out)
                have lp_7 := Nat.lt_of_lt_of_le lp_5 hb_6.size
                have BB_7 := Aside0.mk (below_then BB_5.out BB_5.out.size hb_6)
                clear Hp_5 lp_5 BB_5 hb_6
                clear Tt_5
                obtain ⟨W_8, hW_8⟩ : ∃ W_8, W_8 = w_6.alloc (.cells #[.int .u64 q0, .int .u64 q1, .int .i64 q2] 25) := ⟨_, rfl⟩
                obtain ⟨hg_8, hl_8, hb_8⟩ := boxN hW_8
                obtain ⟨gf1, hgg_8⟩ : ∃ gf1, gf1 = w_6.heap.size := ⟨_, rfl⟩
                rw [← hgg_8] at hg_8 hl_8
                have HAf1 := Aside0.mk hg_8
                have LAf1 := hl_8
                have HGG_8 := Lib.hid hgg_8
                have HWW_8 := Lib.hid hW_8
                clear hW_8 hgg_8 hg_8 hl_8
                have Tt_9 := Aside0.mk (Tt_7.out.below hb_8)
                have Hp_9 := Aside0.mk ((hb_8.block _ lp_7).trans Hp_7.out)
                have lp_9 := Nat.lt_of_lt_of_le lp_7 hb_8.size
                have BB_9 := Aside0.mk (below_then BB_7.out BB_7.out.size hb_8)
                clear Hp_7 lp_7 BB_7 hb_8
                clear Tt_7
                go_wp2_with fail
                try rw [← HWW_8.out]
                try rw [← HGG_8.out]
                refine (Len_calls tt N D L _ Tt_9).mono ?_
                rintro e w_10 ⟨rfl, rfl⟩
                have hxp := Hp_9.out
                obtain ⟨kp0, fp0⟩ := heap_cell (j := 0) hxp rfl
                obtain ⟨kp1, fp1⟩ := heap_cell (j := 1) hxp rfl
                obtain ⟨kp2, fp2⟩ := heap_cell (j := 2) hxp rfl
                clear hxp
                go_wp2_with fail
                clear kp0 fp0 kp1 fp1 kp2 fp2
                refine (Put_calls tt N D L p0 p1 p2 99 b0 b1 hr (by omega) _ Tt_9).mono ?_
                rintro e w_11 ⟨rfl, Nt_11, Dt_11, hT, hO⟩
                have Hp_11 := Aside0.mk ((hO.fr.block _ lp_9 (own_not Tt_9.out Hp_9.out (by decide) (by decide))).trans Hp_9.out)
                have lp_11 := Nat.lt_of_lt_of_le lp_9 hO.fr.size
                have Hf1_11 := Aside0.mk ((hO.fr.block _ LAf1 (own_not Tt_9.out HAf1.out (by decide) (by decide))).trans HAf1.out)
                have lf1_11 := Nat.lt_of_lt_of_le LAf1 hO.fr.size
                have OWt_11 : Aside0 (∀ k, Own tt Nt_11 k → w.heap.size ≤ k) := ⟨fun k hk => (hO.new k hk).elim (HOr.out k) (fun q => Nat.le_trans BB_9.out.size q)⟩
                have BB_11 := Aside0.mk (Fr.below BB_9.out BB_9.out.size hO.fr HOr.out)
                have Tt_11 := Aside0.mk hT
                clear Hp_9 lp_9 HAf1 LAf1 BB_9 Tt_9 HOr hT hO
                go_wp2_with fail
                refine (Len_calls tt Nt_11 Dt_11 _ _ Tt_11).mono ?_
                rw [putL_more _ _ _ hg]
                rintro e w_12 ⟨rfl, rfl⟩
                go_wp2_with fail
                have hf2 := find_is Tt_11.out (adHi x) (adLo x) ba bb _ (hbest.out.put (p0, p1, p2) 99 hg)
                rw [show bestS (adHi x) (adLo x) (some ((q0, q1, q2), v)) ((p0, p1, p2), 99) = some ((q0, q1, q2), v) by simp only [bestS, hh, if_true, if_neg (show ¬ q2 < p2 by omega)]] at hf2
                refine (Find_calls tt Nt_11 Dt_11 _ x AOK.out _ Tt_11).mono ?_
                rw [hf2]
                simp only [findV, pfV, Option.map, Option.getD, Option.isSome]
                clear hf2
                rintro e w_13 ⟨rfl, hb_13⟩
                have Tt_14 := Aside0.mk (Tt_11.out.below hb_13)
                have Hp_14 := Aside0.mk ((hb_13.block _ lp_11).trans Hp_11.out)
                have lp_14 := Nat.lt_of_lt_of_le lp_11 hb_13.size
                have Hf1_14 := Aside0.mk ((hb_13.block _ lf1_11).trans Hf1_11.out)
                have lf1_14 := Nat.lt_of_lt_of_le lf1_11 hb_13.size
                have BB_14 := Aside0.mk (below_then BB_11.out BB_11.out.size hb_13)
                clear Hp_11 lp_11 Hf1_11 lf1_11 BB_11 hb_13
                clear Tt_11
                obtain ⟨W_15, hW_15⟩ : ∃ W_15, W_15 = w_13.alloc (.cells #[.int .u64 q0, .int .u64 q1, .int .i64 q2] 25) := ⟨_, rfl⟩
                obtain ⟨hg_15, hl_15, hb_15⟩ := boxN hW_15
                obtain ⟨gf2, hgg_15⟩ : ∃ gf2, gf2 = w_13.heap.size := ⟨_, rfl⟩
                rw [← hgg_15] at hg_15 hl_15
                have HAf2 := Aside0.mk hg_15
                have LAf2 := hl_15
                have HGG_15 := Lib.hid hgg_15
                have HWW_15 := Lib.hid hW_15
                clear hW_15 hgg_15 hg_15 hl_15
                have Tt_16 := Aside0.mk (Tt_14.out.below hb_15)
                have Hp_16 := Aside0.mk ((hb_15.block _ lp_14).trans Hp_14.out)
                have lp_16 := Nat.lt_of_lt_of_le lp_14 hb_15.size
                have Hf1_16 := Aside0.mk ((hb_15.block _ lf1_14).trans Hf1_14.out)
                have lf1_16 := Nat.lt_of_lt_of_le lf1_14 hb_15.size
                have BB_16 := Aside0.mk (below_then BB_14.out BB_14.out.size hb_15)
                clear Hp_14 lp_14 Hf1_14 lf1_14 BB_14 hb_15
                clear Tt_14
                have hxp := Hp_16.out
                obtain ⟨kp0, fp0⟩ := heap_cell (j := 0) hxp rfl
                obtain ⟨kp1, fp1⟩ := heap_cell (j := 1) hxp rfl
                obtain ⟨kp2, fp2⟩ := heap_cell (j := 2) hxp rfl
                clear hxp
                rw [HWW_15.out] at kp0 fp0 kp1 fp1 kp2 fp2
                go_wp2_with fail
                try rw [← HWW_15.out]
                try rw [← HGG_15.out]
                clear kp0 fp0 kp1 fp1 kp2 fp2
                refine (PfHas_calls p0 p1 p2 (some x) (ok_some _ AOK.out) b0 b1 _).mono ?_
                rw [hasO, hh]
                rintro e w_17 ⟨rfl, hb_17⟩
                have Tt_18 := Aside0.mk (Tt_16.out.below hb_17)
                have Hp_18 := Aside0.mk ((hb_17.block _ lp_16).trans Hp_16.out)
                have lp_18 := Nat.lt_of_lt_of_le lp_16 hb_17.size
                have Hf1_18 := Aside0.mk ((hb_17.block _ lf1_16).trans Hf1_16.out)
                have lf1_18 := Nat.lt_of_lt_of_le lf1_16 hb_17.size
                have Hf2_18 := Aside0.mk ((hb_17.block _ LAf2).trans HAf2.out)
                have lf2_18 := Nat.lt_of_lt_of_le LAf2 hb_17.size
                have BB_18 := Aside0.mk (below_then BB_16.out BB_16.out.size hb_17)
                clear Hp_16 lp_16 Hf1_16 lf1_16 HAf2 LAf2 BB_16 hb_17
                clear Tt_16
                have hxp := Hp_18.out
                obtain ⟨kp0, fp0⟩ := heap_cell (j := 0) hxp rfl
                obtain ⟨kp1, fp1⟩ := heap_cell (j := 1) hxp rfl
                obtain ⟨kp2, fp2⟩ := heap_cell (j := 2) hxp rfl
                clear hxp
                have hxf1 := Hf1_18.out
                obtain ⟨kf10, ff10⟩ := heap_cell (j := 0) hxf1 rfl
                obtain ⟨kf11, ff11⟩ := heap_cell (j := 1) hxf1 rfl
                obtain ⟨kf12, ff12⟩ := heap_cell (j := 2) hxf1 rfl
                clear hxf1
                have hxf2 := Hf2_18.out
                obtain ⟨kf20, ff20⟩ := heap_cell (j := 0) hxf2 rfl
                obtain ⟨kf21, ff21⟩ := heap_cell (j := 1) hxf2 rfl
                obtain ⟨kf22, ff22⟩ := heap_cell (j := 2) hxf2 rfl
                clear hxf2
                go_wp2_with fail
                clear kp0 fp0 kp1 fp1 kp2 fp2 kf10 ff10 kf11 ff11 kf12 ff12 kf20 ff20 kf21 ff21 kf22 ff22
                refine (Drop_calls tt Nt_11 Dt_11 (putL L (p0, p1, p2) 99) p0 p1 p2 b0 b1 (by rw [putL_more _ _ _ hg]; omega) _ Tt_18).mono ?_
                rw [getL_put]
                simp only [Option.isSome]
                rintro e w_19 ⟨rfl, ⟨Dt_19, hT⟩, hO⟩
                have Hp_19 := Aside0.mk ((hO.fr.block _ lp_18 (own_not Tt_18.out Hp_18.out (by decide) (by decide))).trans Hp_18.out)
                have lp_19 := Nat.lt_of_lt_of_le lp_18 hO.fr.size
                have Hf1_19 := Aside0.mk ((hO.fr.block _ lf1_18 (own_not Tt_18.out Hf1_18.out (by decide) (by decide))).trans Hf1_18.out)
                have lf1_19 := Nat.lt_of_lt_of_le lf1_18 hO.fr.size
                have Hf2_19 := Aside0.mk ((hO.fr.block _ lf2_18 (own_not Tt_18.out Hf2_18.out (by decide) (by decide))).trans Hf2_18.out)
                have lf2_19 := Nat.lt_of_lt_of_le lf2_18 hO.fr.size
                have OWt_19 : Aside0 (∀ k, Own tt Nt_11 k → w.heap.size ≤ k) := ⟨fun k hk => (hO.new k hk).elim (OWt_11.out k) (fun q => Nat.le_trans BB_18.out.size q)⟩
                have BB_19 := Aside0.mk (Fr.below BB_18.out BB_18.out.size hO.fr OWt_11.out)
                have Tt_19 := Aside0.mk hT
                clear Hp_18 lp_18 Hf1_18 lf1_18 Hf2_18 lf2_18 BB_18 Tt_18 OWt_11 hT hO
                rw [dropL_put _ _ _ hg] at Tt_19
                have hxp := Hp_19.out
                obtain ⟨kp0, fp0⟩ := heap_cell (j := 0) hxp rfl
                obtain ⟨kp1, fp1⟩ := heap_cell (j := 1) hxp rfl
                obtain ⟨kp2, fp2⟩ := heap_cell (j := 2) hxp rfl
                clear hxp
                go_wp2_with fail
                clear kp0 fp0 kp1 fp1 kp2 fp2
                refine (Drop_calls tt Nt_11 Dt_19 L p0 p1 p2 b0 b1 (by omega) _ Tt_19).mono ?_
                rw [hg]
                simp only [Option.isSome]
                rintro e w_20 ⟨rfl, ⟨Dt_20, hT⟩, hO⟩
                have Hp_20 := Aside0.mk ((hO.fr.block _ lp_19 (own_not Tt_19.out Hp_19.out (by decide) (by decide))).trans Hp_19.out)
                have lp_20 := Nat.lt_of_lt_of_le lp_19 hO.fr.size
                have Hf1_20 := Aside0.mk ((hO.fr.block _ lf1_19 (own_not Tt_19.out Hf1_19.out (by decide) (by decide))).trans Hf1_19.out)
                have lf1_20 := Nat.lt_of_lt_of_le lf1_19 hO.fr.size
                have Hf2_20 := Aside0.mk ((hO.fr.block _ lf2_19 (own_not Tt_19.out Hf2_19.out (by decide) (by decide))).trans Hf2_19.out)
                have lf2_20 := Nat.lt_of_lt_of_le lf2_19 hO.fr.size
                have OWt_20 : Aside0 (∀ k, Own tt Nt_11 k → w.heap.size ≤ k) := ⟨fun k hk => (hO.new k hk).elim (OWt_19.out k) (fun q => Nat.le_trans BB_19.out.size q)⟩
                have BB_20 := Aside0.mk (Fr.below BB_19.out BB_19.out.size hO.fr OWt_19.out)
                have Tt_20 := Aside0.mk hT
                clear Hp_19 lp_19 Hf1_19 lf1_19 Hf2_19 lf2_19 BB_19 Tt_19 OWt_19 hT hO
                rw [dropL_id _ _ hg] at Tt_20
                go_wp2_with fail
                refine (Len_calls tt Nt_11 Dt_20 L _ Tt_20).mono ?_
                rintro e w_21 ⟨rfl, rfl⟩
                go_wp2_with fail
                have hf3 := find_is Tt_20.out (adHi x) (adLo x) ba bb _ hbest.out
                refine (Find_calls tt Nt_11 Dt_20 L x AOK.out _ Tt_20).mono ?_
                rw [hf3]
                simp only [findV, pfV, Option.map, Option.getD, Option.isSome]
                clear hf3
                rintro e w_22 ⟨rfl, hb_22⟩
                have Tt_23 := Aside0.mk (Tt_20.out.below hb_22)
                have Hp_23 := Aside0.mk ((hb_22.block _ lp_20).trans Hp_20.out)
                have lp_23 := Nat.lt_of_lt_of_le lp_20 hb_22.size
                have Hf1_23 := Aside0.mk ((hb_22.block _ lf1_20).trans Hf1_20.out)
                have lf1_23 := Nat.lt_of_lt_of_le lf1_20 hb_22.size
                have Hf2_23 := Aside0.mk ((hb_22.block _ lf2_20).trans Hf2_20.out)
                have lf2_23 := Nat.lt_of_lt_of_le lf2_20 hb_22.size
                have BB_23 := Aside0.mk (below_then BB_20.out BB_20.out.size hb_22)
                clear Hp_20 lp_20 Hf1_20 lf1_20 Hf2_20 lf2_20 BB_20 hb_22
                clear Tt_20
                obtain ⟨W_24, hW_24⟩ : ∃ W_24, W_24 = w_22.alloc (.cells #[.int .u64 q0, .int .u64 q1, .int .i64 q2] 25) := ⟨_, rfl⟩
                obtain ⟨hg_24, hl_24, hb_24⟩ := boxN hW_24
                obtain ⟨gf3, hgg_24⟩ : ∃ gf3, gf3 = w_22.heap.size := ⟨_, rfl⟩
                rw [← hgg_24] at hg_24 hl_24
                have HAf3 := Aside0.mk hg_24
                have LAf3 := hl_24
                have HGG_24 := Lib.hid hgg_24
                have HWW_24 := Lib.hid hW_24
                clear hW_24 hgg_24 hg_24 hl_24
                have Tt_25 := Aside0.mk (Tt_23.out.below hb_24)
                have Hp_25 := Aside0.mk ((hb_24.block _ lp_23).trans Hp_23.out)
                have lp_25 := Nat.lt_of_lt_of_le lp_23 hb_24.size
                have Hf1_25 := Aside0.mk ((hb_24.block _ lf1_23).trans Hf1_23.out)
                have lf1_25 := Nat.lt_of_lt_of_le lf1_23 hb_24.size
                have Hf2_25 := Aside0.mk ((hb_24.block _ lf2_23).trans Hf2_23.out)
                have lf2_25 := Nat.lt_of_lt_of_le lf2_23 hb_24.size
                have BB_25 := Aside0.mk (below_then BB_23.out BB_23.out.size hb_24)
                clear Hp_23 lp_23 Hf1_23 lf1_23 Hf2_23 lf2_23 BB_23 hb_24
                clear Tt_23
                have hxf1 := Hf1_25.out
                obtain ⟨kf10, ff10⟩ := heap_cell (j := 0) hxf1 rfl
                obtain ⟨kf11, ff11⟩ := heap_cell (j := 1) hxf1 rfl
                obtain ⟨kf12, ff12⟩ := heap_cell (j := 2) hxf1 rfl
                clear hxf1
                have hxf3 := HAf3.out
                obtain ⟨kf30, ff30⟩ := heap_cell (j := 0) hxf3 rfl
                obtain ⟨kf31, ff31⟩ := heap_cell (j := 1) hxf3 rfl
                obtain ⟨kf32, ff32⟩ := heap_cell (j := 2) hxf3 rfl
                clear hxf3
                rw [HWW_24.out] at kf10 ff10 kf11 ff11 kf12 ff12 kf30 ff30 kf31 ff31 kf32 ff32
                go_wp2_with fail
                try rw [← HWW_24.out]
                try rw [← HGG_24.out]
                clear kf10 ff10 kf11 ff11 kf12 ff12 kf30 ff30 kf31 ff31 kf32 ff32
                go_ret
                exact ⟨rfl, BB_25.out⟩
theorem TrieBack_row (A : Option Addr) (c : Nat) (l : List P3) (p0 p1 p2 : Int) (is : Bool) (hi lo : Int) (w : World) (hs : l.length ≤ c ∧ (∀ p ∈ l, okP3 p) ∧ PfRow w A l) (w0 : (Lit.int .u64 p0).wf = true) (w1 : (Lit.int .u64 p1).wf = true) (_w2 : (Lit.int .i64 p2).wf = true) (w3 : (Lit.int .u64 hi).wf = true) (w4 : (Lit.int .u64 lo).wf = true)
    (hP : Aside0 (Pows w)) (hT : Aside0 (Debr w)) (hE : Aside0 (Errs w)) (hM : Aside0 (Mx w)) :
    Calls Tryz.prog 8 #[.slice A l.length c, .agg #[.int .u64 p0, .int .u64 p1, .int .i64 p2], .bool is, .int .u64 hi, .int .u64 lo] w fun e w' => e = .returned (.bool true) ∧ Below w.heap.size w w' := by
  have a0 := wf_u64 w0
  have a1 := wf_u64 w1
  have a2 := wf_u64 w3
  have a3 := wf_u64 w4
  exact TrieBack_law A c l p0 p1 p2 is hi lo w hs.1 hs.2.1 hs.2.2 (by omega) (by omega) (by omega) (by omega) hP hT hE hM
end Go.Proofs.YtplehdcnnaamkaaGreatDoor

/- A row that lists variables, its world's shape kept; a slice of numbers that came in: opened. -/
namespace Go.Proofs.YtplehdcnnaamkaaGreatDoor
open Go.ChangeShapes Go.WideShapes Go.RowKit

theorem returns_and_shaped {H : Type} {enc : TypeId × Value → H} {a : Assume} {C : Checked} {os : Os} {f : FuncId} {fn : Func} {s : ChangeSpec} {conds : List PathCond} {apart fresh handsOn again : Bool} {X : World → Array Value → Prop}
    (hX : ∀ (w w' : World) (args : Array Value), w.heap = w'.heap → X w args → X w' args)
    (own : ownKnob C.prog.godebug = none) (started : os.Started) (noInit : C.prog.inits.idxOf? f = none) (hfn : C.prog.funcs[f]? = some fn)
    (witness : ∃ (w : World) (tape : Tape) (i : Input), w.os = os ∧ (w.forCall tape i).Shaped C.prog ∧ i.vars = [] ∧ Input.okWide C.prog (w.forCall tape i) .any w.heap.size f i ∧
      ((s.pre enc C.prog fn conds apart (w.forCall tape i).memory i.args ∧ X (w.forCall tape i).memory i.args) ∧ sizedMet enc C.prog fn (OpenSpec.ofChange s) apart (w.forCall tape i).memory i.args) ∧ a.holds C.prog (lone (Frame.enter C.prog f i.args .normal) [] (w.forCall tape i)))
    (contract : ∀ (W : World) (base : Nat) (args : Array Value) (ds gs : List (DataW H)) (before : List MemPlace),
      (∀ (j : Nat) t v, fn.params[j]? = some t → args[j]? = some v → Value.okWide C.prog W .any base t v) →
      DataW.Whole enc C.prog fn.params.toList s.vars apart W args.toList ds gs before →
      conds.all (PathCond.test C.prog ⟨fn.params.toList, ds, s.plain.varTypes C.prog, gs⟩) = true →
      (DataW.weightsEach C.prog (fn.params.toList ++ s.plain.varTypes C.prog) (ds ++ gs)).all (· ≤ reachBytes) = true → X W args → W.ShapedOpen C.prog →
      a.holds C.prog (lone (Frame.enter C.prog f args .normal) [] W) →
      Calls C.prog f args W fun e W' => ∃ v, e = .returned v ∧ s.post enc C.prog fn apart fresh handsOn again W args v W') :
    ReturnsInHanded a C os f .any (fun w args => (s.pre enc C.prog fn conds apart w args ∧ X w args) ∧ sizedMet enc C.prog fn (OpenSpec.ofChange s) apart w args) (s.post enc C.prog fn apart fresh handsOn again) := by
  refine returnsInHanded_of_calls own started noInit witness ?_
  intro w tape i _ hsh _ hok hpre hholds
  obtain ⟨_, _, _, fn', hfn', _, _, _, _, hval⟩ := hok
  obtain rfl : fn' = fn := Option.some.inj (hfn'.symm.trans hfn)
  obtain ⟨⟨⟨ds, gs, before, hw, hc⟩, hx⟩, hz⟩ := hpre
  have hw' := DataW.Whole.of_heap (w' := w.forCall tape i) (by rfl) hw
  refine (contract (w.forCall tape i) w.heap.size i.args ds gs before hval hw' hc (hz.weights hw) (hX _ _ _ (by rfl) hx) hsh hholds).mono fun e W' ⟨v, he, hp⟩ => ?_
  subst he
  exact ChangeSpec.post_blind hp
theorem mx_of {W : World} (h : W.ShapedOpen Tryz.prog) : Mx W :=
  Go.Proofs.cell_of_shapedOpen_int (zero := #[.int .i64 0]) (t := 3) h (of_decide_eq_true (by kernel_rfl)) (by kernel_rfl) rfl (by kernel_rfl) (by kernel_rfl) Tryz.underlying3

end Go.Proofs.YtplehdcnnaamkaaGreatDoor

