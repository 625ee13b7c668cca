/- Texts that the claim's row leans on, joined by wip/pack.py: PfL PfH AdT1 AdE Ad3 TrP PfT Pf8 Aw5P Aw4 Aw5 Aw6 Aw7 PrefixNests PrefixHalves Wrap -/
import Derived.Test.YtplehdcnnaamkaaGreatDoorKPrefixHalves3
import Derived.BigRegion
import Derived.Deep.Cut
import Derived.Deep.CutRange
import Derived.Deep.RegionHeld3
import Derived.Handed
import Derived.SizedLaws
import Derived.Shelf.Vars
import Derived.ChangeSlices
import Derived.Carry
/- What prefixes of one address, and halves of one, have: plain Lean. -/
namespace Go.Proofs.YtplehdcnnaamkaaGreatDoor

/-- A block that is laid. -/
theorem boxN {w W0 : World} {cs : Array Value} {t : TypeId} (hW0 : W0 = w.alloc (.cells cs t)) : W0.heap[w.heap.size]? = some (.cells cs t (0, 0)) ∧ w.heap.size < W0.heap.size ∧ Go.RowKit.Below w.heap.size w W0 := by
  subst hW0
  exact ⟨heap_alloc_new' _ _ _ rfl, by simp, (Go.RowKit.Below.refl _ _).alloc (Nat.le_refl _) _⟩
/-- The number with one bit more. -/
def flHi (hi : Int) (k : Nat) : Int := if k < 64 then hi + 2 ^ (63 - k) else hi
def flLo (lo : Int) (k : Nat) : Int := if k < 64 then lo else lo + 2 ^ (127 - k)
theorem or_bit (x : Int) (j : Nat) (hj : j < 64) (hx : 0 ≤ x ∧ x < 18446744073709551616) (h0 : tb x j = 0) : bits .or .u64 x (2 ^ j) = x + 2 ^ j ∧ x + 2 ^ j < 18446744073709551616 ∧ ∀ k, tb (x + 2 ^ j) k = if k = j then 1 else tb x k := by
  obtain ⟨a, rfl⟩ : ∃ a : Nat, x = a := ⟨x.toNat, by omega⟩
  have hp : 2 ^ j < 18446744073709551616 := (Nat.pow_lt_pow_right (by omega) hj : 2 ^ j < 2 ^ 64)
  have e : ((2 : Int) ^ j) = ((2 ^ j : Nat) : Int) := by rw [Int.natCast_pow]; rfl
  have hb : a.testBit j = false := by
    rw [tb_nat] at h0
    cases h : a.testBit j with
    | false => rfl
    | true => rw [h, if_pos rfl] at h0; cases h0
  have hor : a ||| 2 ^ j = a + 2 ^ j := by
    have hb2 : a / 2 ^ j % 2 = 0 := by
      rw [Nat.testBit_eq_decide_div_mod_eq] at hb
      have := of_decide_eq_false hb
      omega
    have hr : a % 2 ^ (j + 1) = a % 2 ^ j := by rw [Nat.mod_pow_succ, hb2, Nat.mul_zero, Nat.add_zero]
    have hd := Nat.div_add_mod a (2 ^ (j + 1))
    rw [hr] at hd
    have hl : a % 2 ^ j < 2 ^ j := Nat.mod_lt _ (Nat.two_pow_pos j)
    have e1 := Nat.two_pow_add_eq_or_of_lt hl 1
    have e2 := Nat.two_pow_add_eq_or_of_lt (show a % 2 ^ j < 2 ^ (j + 1) by rw [Nat.pow_succ]; omega) (a / 2 ^ (j + 1))
    have e3 := Nat.two_pow_add_eq_or_of_lt (show 2 ^ j + a % 2 ^ j < 2 ^ (j + 1) by rw [Nat.pow_succ]; omega) (a / 2 ^ (j + 1))
    rw [Nat.mul_one] at e1
    rw [hd] at e2
    generalize a / 2 ^ (j + 1) = q at *
    generalize a % 2 ^ j = r at *
    rw [e2, Nat.or_assoc, Nat.or_comm r, ← e1, ← e3, ← e2]
    omega
  have hlt : a ||| 2 ^ j < 2 ^ 64 := Nat.or_lt_two_pow (show a < 2 ^ 64 by omega) (show 2 ^ j < 2 ^ 64 from hp)
  have hlt' : a ||| 2 ^ j < 18446744073709551616 := hlt
  refine ⟨?_, by rw [e]; omega, fun k => ?_⟩
  · have h1 : (BitVec.ofInt 64 (a : Int)).toNat = a := by
      rw [BitVec.ofInt_natCast, BitVec.toNat_ofNat]; exact Nat.mod_eq_of_lt (by omega)
    have h2 : (BitVec.ofInt 64 ((2 ^ j : Nat) : Int)).toNat = 2 ^ j := by
      rw [BitVec.ofInt_natCast, BitVec.toNat_ofNat]; exact Nat.mod_eq_of_lt (by omega)
    rw [e]
    show IntKind.u64.wrap ((BitVec.ofInt 64 (a : Int) ||| BitVec.ofInt 64 ((2 ^ j : Nat) : Int)).toNat : Int) = _
    rw [BitVec.toNat_or, h1, h2, hor, show ∀ n, IntKind.u64.wrap n = n % 18446744073709551616 from fun n => by simp [IntKind.wrap, IntKind.signed, IntKind.bits]]
    omega
  · rw [e, show (a : Int) + ((2 ^ j : Nat) : Int) = ((a ||| 2 ^ j : Nat) : Int) by rw [hor]; omega, tb_nat, Nat.testBit_or, Nat.testBit_two_pow, tb_nat]
    by_cases h : k = j
    · subst h
      simp
    · rw [if_neg h]
      simp [show ¬ j = k from fun e => h e.symm]
end Go.Proofs.YtplehdcnnaamkaaGreatDoor

/- The halves of a prefix: plain Lean. -/
namespace Go.Proofs.YtplehdcnnaamkaaGreatDoor

theorem fl_bits (p0 p1 : Int) (k i : Nat) (hk : k < 128) (hi : i < 128) (h0 : 0 ≤ p0 ∧ p0 < 18446744073709551616) (h1 : 0 ≤ p1 ∧ p1 < 18446744073709551616) (hz : pBit p0 p1 k = 0) : pBit (flHi p0 k) (flLo p1 k) i = if i = k then 1 else pBit p0 p1 i := by
  by_cases h6 : k < 64
  · rw [pBit, if_pos h6] at hz
    have hb := (or_bit p0 (63 - k) (by omega) h0 hz).2.2
    rw [flHi, flLo, if_pos h6, if_pos h6, pBit, pBit]
    by_cases hi6 : i < 64
    · rw [if_pos hi6, if_pos hi6, hb]
      by_cases e : i = k
      · rw [if_pos (by omega), if_pos e]
      · rw [if_neg (by omega), if_neg e]
    · rw [if_neg hi6, if_neg hi6, if_neg (by omega)]
  · rw [pBit, if_neg h6] at hz
    have hb := (or_bit p1 (127 - k) (by omega) h1 hz).2.2
    rw [flHi, flLo, if_neg h6, if_neg h6, pBit, pBit]
    by_cases hi6 : i < 64
    · rw [if_pos hi6, if_pos hi6, if_neg (by omega)]
    · rw [if_neg hi6, if_neg hi6, hb]
      by_cases e : i = k
      · rw [if_pos (by omega), if_pos e]
      · rw [if_neg (by omega), if_neg e]
theorem fl_bd (p0 p1 : Int) (k : Nat) (hk : k < 128) (h0 : 0 ≤ p0 ∧ p0 < 18446744073709551616) (h1 : 0 ≤ p1 ∧ p1 < 18446744073709551616) (hz : pBit p0 p1 k = 0) : (0 ≤ flHi p0 k ∧ flHi p0 k < 18446744073709551616) ∧ 0 ≤ flLo p1 k ∧ flLo p1 k < 18446744073709551616 := by
  by_cases h6 : k < 64
  · rw [pBit, if_pos h6] at hz
    have hb := (or_bit p0 (63 - k) (by omega) h0 hz).2.1
    have := pow64 (63 - k)
    rw [flHi, flLo, if_pos h6, if_pos h6]
    omega
  · rw [pBit, if_neg h6] at hz
    have hb := (or_bit p1 (127 - k) (by omega) h1 hz).2.1
    have := pow64 (127 - k)
    rw [flHi, flLo, if_neg h6, if_neg h6]
    omega
theorem right_more (p0 p1 : Int) (k : Nat) (hk : k < 128) (h0 : 0 ≤ p0 ∧ p0 < 18446744073709551616) (h1 : 0 ≤ p1 ∧ p1 < 18446744073709551616) (hr : rightP p0 p1 k = true) : rightP p0 p1 ((k + 1 : Nat) : Int) = true := by
  rw [rightP_iff _ _ _ h0 h1] at hr ⊢
  exact ⟨by omega, fun i a b => hr.2 i (by omega) b⟩
theorem right_flip (p0 p1 : Int) (k : Nat) (hk : k < 128) (h0 : 0 ≤ p0 ∧ p0 < 18446744073709551616) (h1 : 0 ≤ p1 ∧ p1 < 18446744073709551616) (hr : rightP p0 p1 k = true) : rightP (flHi p0 k) (flLo p1 k) ((k + 1 : Nat) : Int) = true := by
  have hz := ((rightP_iff _ _ _ h0 h1).1 hr).2 k (Nat.le_refl _) hk
  obtain ⟨f0, f1⟩ := fl_bd p0 p1 k hk h0 h1 hz
  rw [rightP_iff _ _ _ f0 f1]
  refine ⟨by omega, fun i a b => ?_⟩
  rw [fl_bits p0 p1 k i hk b h0 h1 hz, if_neg (by omega)]
  exact ((rightP_iff _ _ _ h0 h1).1 hr).2 i (by omega) b
theorem right_masks (x y : Int) (n : Nat) (h : rightP x y n = true) : mHi x n = x ∧ mLo y n = y := by
  rw [rightP, Bool.and_eq_true, Bool.and_eq_true, beq_iff_eq, beq_iff_eq, Int.toNat_natCast] at h
  exact h.2
/-- What a prefix has one of its halves has, and not both. -/
theorem halves_has (p0 p1 c d : Int) (k : Nat) (hk : k < 128) (h0 : 0 ≤ p0 ∧ p0 < 18446744073709551616) (h1 : 0 ≤ p1 ∧ p1 < 18446744073709551616) (h2 : 0 ≤ c ∧ c < 18446744073709551616) (h3 : 0 ≤ d ∧ d < 18446744073709551616) (hr : rightP p0 p1 k = true) :
    hasP p0 p1 k c d = (hasP p0 p1 ((k + 1 : Nat) : Int) c d || hasP (flHi p0 k) (flLo p1 k) ((k + 1 : Nat) : Int) c d) ∧ (hasP p0 p1 ((k + 1 : Nat) : Int) c d && hasP (flHi p0 k) (flLo p1 k) ((k + 1 : Nat) : Int) c d) = false := by
  have hz := ((rightP_iff _ _ _ h0 h1).1 hr).2 k (Nat.le_refl _) hk
  obtain ⟨f0, f1⟩ := fl_bd p0 p1 k hk h0 h1 hz
  have hq := hasP_iff p0 p1 c d (k + 1) h0 h1 h2 h3
  have hp := hasP_iff p0 p1 c d k h0 h1 h2 h3
  have hs := hasP_iff (flHi p0 k) (flLo p1 k) c d (k + 1) f0 f1 h2 h3
  rw [right_more p0 p1 k hk h0 h1 hr] at hq
  rw [right_flip p0 p1 k hk h0 h1 hr] at hs
  rw [hr] at hp
  have fb := fun i (hi : i < 128) => fl_bits p0 p1 k i hk hi h0 h1 hz
  have hno : ¬ (hasP p0 p1 ((k + 1 : Nat) : Int) c d = true ∧ hasP (flHi p0 k) (flLo p1 k) ((k + 1 : Nat) : Int) c d = true) := by
    rintro ⟨a, b⟩
    have e1 := (hq.1 a).2 k (by omega)
    have e2 := (hs.1 b).2 k (by omega)
    rw [fb k hk, if_pos rfl] at e2
    omega
  constructor
  · rw [Bool.eq_iff_iff, Bool.or_eq_true, hp, hq, hs]
    constructor
    · rintro ⟨_, h⟩
      rcases pBit_01 c d k with e | e
      · refine .inl ⟨rfl, fun i hi => ?_⟩
        by_cases hik : i = k
        · rw [hik, hz, e]
        · exact h i (by omega)
      · refine .inr ⟨rfl, fun i hi => ?_⟩
        rw [fb i (by omega)]
        by_cases hik : i = k
        · rw [if_pos hik, hik, e]
        · rw [if_neg hik]; exact h i (by omega)
    · rintro (⟨_, h⟩ | ⟨_, h⟩)
      · exact ⟨rfl, fun i hi => h i (by omega)⟩
      · refine ⟨rfl, fun i hi => ?_⟩
        have := h i (by omega)
        rwa [fb i (by omega), if_neg (by omega)] at this
  · rw [Bool.and_eq_false_iff]
    cases ha : hasP p0 p1 ((k + 1 : Nat) : Int) c d with
    | false => exact .inl rfl
    | true => exact .inr (by
        cases hb : hasP (flHi p0 k) (flLo p1 k) ((k + 1 : Nat) : Int) c d with
        | false => rfl
        | true => exact absurd ⟨ha, hb⟩ hno)
/-- Both halves are covered; neither covers the other. -/
theorem halves_cover (p0 p1 : Int) (k : Nat) (hk : k < 128) (h0 : 0 ≤ p0 ∧ p0 < 18446744073709551616) (h1 : 0 ≤ p1 ∧ p1 < 18446744073709551616) (hr : rightP p0 p1 k = true) :
    coversP p0 p1 k p0 p1 ((k + 1 : Nat) : Int) = true ∧ coversP p0 p1 k (flHi p0 k) (flLo p1 k) ((k + 1 : Nat) : Int) = true ∧
    coversP p0 p1 ((k + 1 : Nat) : Int) (flHi p0 k) (flLo p1 k) ((k + 1 : Nat) : Int) = false ∧ coversP (flHi p0 k) (flLo p1 k) ((k + 1 : Nat) : Int) p0 p1 ((k + 1 : Nat) : Int) = false ∧
    pBit p0 p1 k = 0 ∧ pBit (flHi p0 k) (flLo p1 k) k = 1 := by
  have hz := ((rightP_iff _ _ _ h0 h1).1 hr).2 k (Nat.le_refl _) hk
  obtain ⟨f0, f1⟩ := fl_bd p0 p1 k hk h0 h1 hz
  have rm := right_more p0 p1 k hk h0 h1 hr
  have rf := right_flip p0 p1 k hk h0 h1 hr
  have fb := fun i (hi : i < 128) => fl_bits p0 p1 k i hk hi h0 h1 hz
  have s1 : hasP p0 p1 k p0 p1 = true := (hasP_iff _ _ _ _ _ h0 h1 h0 h1).2 ⟨hr, fun _ _ => rfl⟩
  have s2 : hasP p0 p1 k (flHi p0 k) (flLo p1 k) = true := (hasP_iff _ _ _ _ _ h0 h1 f0 f1).2 ⟨hr, fun i hi => by rw [fb i (by omega), if_neg (by omega)]⟩
  have s3 : hasP p0 p1 ((k + 1 : Nat) : Int) (flHi p0 k) (flLo p1 k) = false := by
    cases h : hasP p0 p1 ((k + 1 : Nat) : Int) (flHi p0 k) (flLo p1 k) with
    | false => rfl
    | true =>
      have := ((hasP_iff _ _ _ _ _ h0 h1 f0 f1).1 h).2 k (by omega)
      rw [fb k hk, if_pos rfl] at this
      omega
  have s4 : hasP (flHi p0 k) (flLo p1 k) ((k + 1 : Nat) : Int) p0 p1 = false := by
    cases h : hasP (flHi p0 k) (flLo p1 k) ((k + 1 : Nat) : Int) p0 p1 with
    | false => rfl
    | true =>
      have := ((hasP_iff _ _ _ _ _ f0 f1 h0 h1).1 h).2 k (by omega)
      rw [fb k hk, if_pos rfl] at this
      omega
  refine ⟨?_, ?_, ?_, ?_, hz, by rw [fb k hk, if_pos rfl]⟩
  · rw [coversP, hr, rm, s1, decide_eq_true (by omega)]; rfl
  · rw [coversP, hr, rf, s2, decide_eq_true (by omega)]; rfl
  · rw [coversP, s3, Bool.and_false, Bool.and_false, Bool.and_false]
  · rw [coversP, s4, Bool.and_false, Bool.and_false, Bool.and_false]
end Go.Proofs.YtplehdcnnaamkaaGreatDoor

/- What AddrTells leans on: Must, its panics; the document's order; walked. -/
namespace Go.Proofs.YtplehdcnnaamkaaGreatDoor
open Go.RowKit Go.Proofs.YtplehdcnnaamkaaGreatDoorW.PrintWords Go.Proofs.YtplehdcnnaamkaaGreatDoorW.PrintMore

set_option maxRecDepth 100000 in
theorem FourA4 (n : Int) (w : World) : Calls Tryz.prog 64 #[.iface 111 (.int .u32 n)] w fun e w' => e = .returned (.tuple #[.int .u32 n, .bool true]) ∧ w' = w := by
  have q := ta_44
  go_enter Tryz.func64, Tryz.ntmps64
  go_wp2_with fail
  go_ret2
  exact ⟨rfl, rfl⟩
set_option maxRecDepth 100000 in
theorem FourA6 (hi lo : Int) (w : World) : Calls Tryz.prog 64 #[.iface 34 (.agg #[.int .u64 hi, .int .u64 lo])] w fun e w' => e = .returned (.tuple #[.int .u32 0, .bool false]) ∧ w' = w := by
  have q := ta_64
  go_enter Tryz.func64, Tryz.ntmps64
  go_wp2_with fail
  go_ret2
  exact ⟨rfl, rfl⟩
end Go.Proofs.YtplehdcnnaamkaaGreatDoor

/- Equal lists of numbers, as the library tells it; walked. -/
namespace Go.Proofs.YtplehdcnnaamkaaGreatDoor
open Go.RowKit Go.Proofs.YtplehdcnnaamkaaGreatDoorW.PrintWords Go.Proofs.YtplehdcnnaamkaaGreatDoorW.PrintMore

theorem C_kget {k : IntKind} {w : World} {A : Option Addr} {xs : List Int} (h : Kd.C (Kd.int k) w A xs.length xs) (j : Nat) (hj : j < xs.length) : ∃ ad, A = some ad ∧ w.cell? (ad.add j) = some (.int k (xs.getD j 0)) := by
  obtain ⟨ad, rfl⟩ := C_some h (by omega)
  refine ⟨ad, rfl, ?_⟩
  rw [C_int_at h j hj, List.getD_eq_getElem?_getD, List.getElem?_eq_getElem hj]
  rfl
theorem take_eq_next (xs ys : List Int) (j : Nat) (hx : j < xs.length) (hy : j < ys.length) (h : xs.take j = ys.take j) (he : xs.getD j 0 = ys.getD j 0) : xs.take (j + 1) = ys.take (j + 1) := by
  rw [List.getD_eq_getElem?_getD, List.getD_eq_getElem?_getD, List.getElem?_eq_getElem hx, List.getElem?_eq_getElem hy] at he
  rw [List.take_succ_eq_append_getElem hx, List.take_succ_eq_append_getElem hy, h, show xs[j] = ys[j] from he]
theorem take_ne (xs ys : List Int) (j : Nat) (he : xs.getD j 0 ≠ ys.getD j 0) : xs ≠ ys := fun h => he (by rw [h])
set_option maxHeartbeats 2000000 in
theorem EqualF_calls (xs ys : List Int) (n m : Nat) (hn : n = xs.length) (hm : m = ys.length) (A B : Option Addr) (c c' : Nat) (w : World) (hnm : n ≤ 1000000) (hA : ∀ j, j < xs.length → ∃ ad, A = some ad ∧ w.cell? (ad.add j) = some (.int .u32 (xs.getD j 0))) (hB : ∀ j, j < ys.length → ∃ ad, B = some ad ∧ w.cell? (ad.add j) = some (.int .u32 (ys.getD j 0))) :
    Calls Tryz.prog 140 #[.slice A n c, .slice B m c'] w fun e w' => e = .returned (.bool (decide (xs = ys))) ∧ Below w.heap.size w w' := by
  have HA := Aside0.mk hA
  have HB := Aside0.mk hB
  have HN := Lib.hid hn
  have HM := Lib.hid hm
  by_cases hd : n = m
  · subst hd
    clear hA hB hn hm
    go_enter Tryz.func140, Tryz.ntmps140
    go_wp2_with fail
    go_loopw [13] (fun i wr => ∃ j : Nat, i = .int .i64 j ∧ j ≤ n ∧ Aside0 (xs.take j = ys.take j) ∧ Aside0 (Below w.heap.size w wr)) (fun i _ => n - (intOf i).toNat)
    case atStart => exact ⟨0, rfl, by omega, ⟨rfl⟩, ⟨Below.refl _ _⟩⟩
    case round =>
      obtain ⟨j, rfl, hj, ht, hbw⟩ := hrel
      by_cases hlt : j < n
      · have hjx : j < xs.length := by rw [← HN.out]; exact hlt
        have hjy : j < ys.length := by rw [← HM.out]; exact hlt
        obtain ⟨ad, rfl, cx0⟩ := HA.out j hjx
        obtain ⟨bd, rfl, cy0⟩ := HB.out j hjy
        have cx := (hbw.out.cell (cell_blk cx0)).trans cx0
        have cy := (hbw.out.cell (cell_blk cy0)).trans cy0
        have hj0 : (0 : Int) ≤ (j : Int) := by omega
        have hji : (j : Int) < (n : Int) := by omega
        by_cases he : xs.getD j 0 = ys.getD j 0
        · have HT := Lib.hid (take_eq_next xs ys j hjx hjy ht.out he)
          rw [he] at cx
          clear he cx0 cy0 hjx hjy
          generalize ys.getD j 0 = y at cx cy
          go_wp2_with fail
          go_region
          all_goals
            go_wp2_with fail
            exact ⟨⟨j + 1, by go_num, by omega, ⟨HT.out⟩, ⟨hbw.out.drew⟩⟩, by simp [intOf]; omega⟩
        · have HF := Lib.hid (show false = decide (xs = ys) from (decide_eq_false (take_ne xs ys j he)).symm)
          have hb : (xs.getD j 0 == ys.getD j 0) = false := by simpa using he
          have hb' : (xs.getD j 0 != ys.getD j 0) = true := by simpa using he
          clear cx0 cy0 hjx hjy
          generalize ys.getD j 0 = y at cx cy hb hb' he
          generalize xs.getD j 0 = x at cx hb hb' he
          go_wp2_with fail
          go_region
          all_goals
            go_wp2_with fail
            go_ret
            exact ⟨ret_bool HF.out, hbw.out.drew⟩
      · have HF := Lib.hid (show true = decide (xs = ys) by
          have := ht.out
          rw [List.take_of_length_le (by rw [← HN.out]; omega), List.take_of_length_le (by rw [← HM.out]; omega)] at this
          exact (decide_eq_true this).symm)
        go_wp2_with fail
        go_ret
        exact ⟨ret_bool HF.out, hbw.out⟩
  · have HF := Lib.hid (show false = decide (xs = ys) from (decide_eq_false (fun h => hd (by rw [hn, hm, h]))).symm)
    clear hA hB hn hm
    go_enter Tryz.func140, Tryz.ntmps140
    go_wp2_with fail
    go_ret
    exact ⟨ret_bool HF.out, Below.refl _ _⟩
end Go.Proofs.YtplehdcnnaamkaaGreatDoor

/- What an address embeds, walked. -/
namespace Go.Proofs.YtplehdcnnaamkaaGreatDoor
open Go.RowKit Go.Proofs.YtplehdcnnaamkaaGreatDoorW.PrintWords Go.Proofs.YtplehdcnnaamkaaGreatDoorW.PrintMore

def in1 (hi lo : Int) : Bool := decide ((hi = 0 ∧ lo / 4294967296 = 65535) ∨ (hi = 0 ∧ lo / 4294967296 = 0 ∧ 1 < lo % 4294967296) ∨ (hi = 28428538856079360 ∧ lo / 4294967296 = 0))
def in2 (hi : Int) : Bool := decide (hi / 281474976710656 = 8194)
def in3 (hi : Int) : Bool := decide (hi / 4294967296 = 536936448)
def in4 (lo : Int) : Bool := decide (lo / 4294967296 = 24318 ∨ lo / 4294967296 = 33578750)
def inL1 (hi lo : Int) : List Int := bif in1 hi lo then [lo % 4294967296] else []
def inL2 (hi lo : Int) : List Int := inL1 hi lo ++ (bif in2 hi then [hi / 65536 % 4294967296] else [])
def inL3 (hi lo : Int) : List Int := inL2 hi lo ++ (bif in3 hi then [hi % 4294967296, 4294967295 - lo % 4294967296] else [])
/-- What an address of eight pieces embeds. -/
def inL4 (hi lo : Int) : List Int := inL3 hi lo ++ (bif in4 lo then [lo % 4294967296] else [])
theorem info_four : (Tryz.prog.info? 111).map (fun i => (i.zero, i.size, i.bytes)) = some (some (.int .u32 0), 1, 4) := by kernel_rfl

theorem inL1_len (hi lo : Int) : (inL1 hi lo).length ≤ 1 := by
  rw [inL1]
  cases in1 hi lo <;> simp
theorem inL2_len (hi lo : Int) : (inL2 hi lo).length ≤ 2 := by
  have := inL1_len hi lo
  rw [inL2, List.length_append]
  cases in2 hi <;> simp <;> omega
theorem inL3_len (hi lo : Int) : (inL3 hi lo).length ≤ 4 := by
  have := inL2_len hi lo
  rw [inL3, List.length_append]
  cases in3 hi <;> simp <;> omega
set_option maxHeartbeats 8000000 in
set_option maxRecDepth 100000 in
theorem Inner6_calls (hi lo : Int) (_h0 : 0 ≤ hi ∧ hi < 18446744073709551616) (h1 : 0 ≤ lo ∧ lo < 18446744073709551616) (w : World) :
    Calls Tryz.prog 141 #[.iface 34 (.agg #[.int .u64 hi, .int .u64 lo])] w fun e w' => ∃ v, e = .returned v ∧ Kd.R (Kd.int .u32) 111 w' w.heap.size (fun _ => True) v (inL4 hi lo) ∧ Below w.heap.size w w' := by
  have q6 := ta_66
  go_enter Tryz.func141, Tryz.ntmps141
  go_upto_region 5 with (fail)
  obtain ⟨W1, hW1⟩ : ∃ W1, W1 = w.alloc (.cells #[.int .u64 hi, .int .u64 lo] 34) := ⟨_, rfl⟩
  rw [← hW1]
  have hg : W1.heap[w.heap.size]? = some (.cells #[.int .u64 hi, .int .u64 lo] 34 (0, 0)) := by rw [hW1]; exact heap_alloc_new' _ _ _ rfl
  have hlt : w.heap.size < W1.heap.size := by rw [hW1]; simp
  have B1 : Aside0 (Below w.heap.size w W1) := ⟨by rw [hW1]; exact (Below.refl _ _).alloc (Nat.le_refl _) _⟩
  obtain ⟨g, hgs⟩ : ∃ g, g = w.heap.size := ⟨_, rfl⟩
  rw [← hgs] at hg hlt ⊢
  have HGS := Lib.hid hgs
  have HG := Aside0.mk hg
  obtain ⟨c0, _⟩ := heap_cell (j := 0) hg rfl
  obtain ⟨c1, _⟩ := heap_cell (j := 1) hg rfl
  clear hg hgs hW1
  go_region
  obtain ⟨w1, hw1⟩ : ∃ w1, w1 = W1.drew := ⟨_, rfl⟩
  rw [← hw1]
  have hg2 : w1.heap[g]? = some (.cells #[.int .u64 hi, .int .u64 lo] 34 (0, 0)) := by rw [hw1]; exact HG.out
  have B2 : Aside0 (Below w.heap.size w w1) := ⟨by rw [hw1]; exact B1.out.drew⟩
  have hlt2 : g < w1.heap.size := by rw [hw1]; exact hlt
  have HG2 := Aside0.mk hg2
  clear hw1 HG B1 hlt c0 c1
  obtain ⟨c0, _⟩ := heap_cell (j := 0) hg2 rfl
  obtain ⟨c1, _⟩ := heap_cell (j := 1) hg2 rfl
  clear hg2
  have hlow : 0 ≤ lo % 4294967296 ∧ lo % 4294967296 < 4294967296 := by omega
  have htop : 0 ≤ lo / 4294967296 ∧ lo / 4294967296 < 4294967296 := by omega
  obtain ⟨low, hlw⟩ : ∃ l, l = lo % 4294967296 := ⟨_, rfl⟩
  obtain ⟨top, htp⟩ : ∃ l, l = lo / 4294967296 := ⟨_, rfl⟩
  rw [← hlw] at hlow ⊢
  rw [← htp] at htop ⊢
  have HLW := Lib.hid hlw
  have HTP := Lib.hid htp
  clear hlw htp
  go_upto_region 6 with (fail)
  go_cut [49] from 8 (fun s wx => ∃ c, s = .bool c ∧ Aside0 (c = in1 hi lo) ∧ w1 = wx)
  case first =>
    by_cases a1 : hi = 0
    · have b1 : (hi == 0) = true := by simpa using a1
      have b5 : (hi == 28428538856079360) = false := by rw [beq_eq_false_iff_ne]; omega
      have A1 := Lib.hid a1
      clear a1
      by_cases a2 : top = 65535
      · have b2 : (top == 65535) = true := by simpa using a2
        have A1 := Lib.hid (And.intro A1.out a2)
        clear a2
        have HI := Lib.hid (show in1 hi lo = true from decide_eq_true (by have := HLW.out; have := HTP.out; have := A1.out; omega))
        go_wp2_with fail
        go_meet
        case rel => exact ⟨_, rfl, ⟨HI.out.symm⟩, rfl⟩
      · have b2 : (top == 65535) = false := by simpa using a2
        by_cases a3 : top = 0
        · have b3 : (top == 0) = true := by simpa using a3
          have A1 := Lib.hid (And.intro A1.out (And.intro a2 a3))
          clear a2 a3
          by_cases a4 : 1 < low
          · have A1 := Lib.hid (And.intro A1.out a4)
            have HI := Lib.hid (show in1 hi lo = true from decide_eq_true (by have := HLW.out; have := HTP.out; have := A1.out; omega))
            go_wp2_with fail
            go_meet
            case rel => exact ⟨_, rfl, ⟨HI.out.symm⟩, rfl⟩
          · have A1 := Lib.hid (And.intro A1.out a4)
            have HI := Lib.hid (show in1 hi lo = false from decide_eq_false (by have := HLW.out; have := HTP.out; have := A1.out; omega))
            go_wp2_with fail
            go_meet
            case rel => exact ⟨_, rfl, ⟨HI.out.symm⟩, rfl⟩
        · have b3 : (top == 0) = false := by simpa using a3
          have A1 := Lib.hid (And.intro A1.out (And.intro a2 a3))
          clear a2 a3
          have HI := Lib.hid (show in1 hi lo = false from decide_eq_false (by have := HLW.out; have := HTP.out; have := A1.out; omega))
          go_wp2_with fail
          go_meet
          case rel => exact ⟨_, rfl, ⟨HI.out.symm⟩, rfl⟩
    · have b1 : (hi == 0) = false := by simpa using a1
      by_cases a5 : hi = 28428538856079360
      · have b5 : (hi == 28428538856079360) = true := by simpa using a5
        have A0 := Lib.hid (And.intro a1 a5)
        clear a1 a5
        by_cases a3 : top = 0
        · have b3 : (top == 0) = true := by simpa using a3
          have A1 := Lib.hid (And.intro A0.out a3)
          clear a3
          have HI := Lib.hid (show in1 hi lo = true from decide_eq_true (by have := HLW.out; have := HTP.out; have := A1.out; omega))
          go_wp2_with fail
          go_meet
          case rel => exact ⟨_, rfl, ⟨HI.out.symm⟩, rfl⟩
        · have b3 : (top == 0) = false := by simpa using a3
          have A1 := Lib.hid (And.intro A0.out a3)
          clear a3
          have HI := Lib.hid (show in1 hi lo = false from decide_eq_false (by have := HLW.out; have := HTP.out; have := A1.out; omega))
          go_wp2_with fail
          go_meet
          case rel => exact ⟨_, rfl, ⟨HI.out.symm⟩, rfl⟩
      · have b5 : (hi == 28428538856079360) = false := by simpa using a5
        have A1 := Lib.hid (And.intro a1 a5)
        clear a1 a5
        have HI := Lib.hid (show in1 hi lo = false from decide_eq_false (by have := HLW.out; have := HTP.out; have := A1.out; omega))
        go_wp2_with fail
        go_meet
        case rel => exact ⟨_, rfl, ⟨HI.out.symm⟩, rfl⟩
  case rest =>
  obtain ⟨c, rfl, hc, rfl⟩ := hcut
  go_upto_if 49 with (fail)
  go_cut [5] from 8 (fun s wx => Kd.R (Kd.int .u32) 111 wx w1.heap.size (fun _ => True) s (inL1 hi lo) ∧ Below w1.heap.size w1 wx)
  case first =>
    cases c
    · have HL := Lib.hid (show ([] : List Int) = inL1 hi lo by rw [inL1, ← hc.out]; rfl)
      go_wp2_with fail
      go_meet
      case rel => exact ⟨by rw [← HL.out]; exact Kd.R_nil _ _ _ _ _, Below.refl _ _⟩
    · have HL := Lib.hid (show [] ++ [low] = inL1 hi lo by rw [inL1, ← hc.out, HLW.out]; rfl)
      go_wp2_with ((with_reducible refine gate_builtin (b := .append) (xs := #[.tmp 50, .tmp 52]) rfl ?_); at_builtin; refine Kd.R_append (Kd.int .u32) (w0 := w1) w1.heap.size rfl (.tmp 50) (.tmp 52) 208 111 (.int .u32 0) 4 rfl Tryz.underlying208 info_four rfl (by decide) (by omega) (.slice none 0 0) [] low [.int .u32 low] (fun _ => True) (fun _ => False) rfl rfl ?aP (fun _ hk => hk.elim) ?aF ?aO ?aB ?aS ?aL ?_; (case aP => exact rfl); (case aF => exact fun _ _ => trivial); (case aO => exact (Kd.R_nil _ _ _ _ _)); (case aB => exact (Below.refl _ _)); (case aS => omega); (case aL => (simp)); intro v1 w4 ho hb hg _)
      go_meet
      case rel => exact ⟨by rw [← HL.out]; exact ho, hb⟩
  case rest =>
  obtain ⟨hO, hb⟩ := hcut
  have hs : w1.heap.size ≤ wc.heap.size := hb.size
  have hgc := (hb.block g hlt2).trans HG2.out
  clear c0 c1
  obtain ⟨c0, _⟩ := heap_cell (j := 0) hgc rfl
  obtain ⟨c1, _⟩ := heap_cell (j := 1) hgc rfl
  have HO := Aside0.mk hO
  have HB := Aside0.mk hb
  clear hO hb hgc
  go_upto_if 57 with (fail)
  go_cut [5] from 8 (fun s wx => Kd.R (Kd.int .u32) 111 wx w1.heap.size (fun _ => True) s (inL2 hi lo) ∧ Below w1.heap.size w1 wx)
  case first =>
    rcases h : (hi / 281474976710656 == 8194) with _ | _
    · have HL := Lib.hid (show inL1 hi lo = inL2 hi lo by rw [inL2, show in2 hi = false from h]; simp)
      go_wp2_with fail
      go_meet
      case rel => exact ⟨by rw [← HL.out]; exact HO.out, HB.out⟩
    · have HL := Lib.hid (show inL1 hi lo ++ [hi / 65536 % 4294967296] = inL2 hi lo by rw [inL2, show in2 hi = true from h]; simp)
      have hln := inL1_len hi lo
      go_wp2_with ((with_reducible refine gate_builtin (b := .append) (xs := #[.tmp 58, .tmp 63]) rfl ?_); at_builtin; refine Kd.R_append (Kd.int .u32) (w0 := w1) w1.heap.size rfl (.tmp 58) (.tmp 63) 208 111 (.int .u32 0) 4 rfl Tryz.underlying208 info_four rfl (by decide) (by omega) u5 (inL1 hi lo) (hi / 65536 % 4294967296) [.int .u32 (hi / 65536 % 4294967296)] (fun _ => True) (fun _ => False) rfl rfl ?aP (fun _ hk => hk.elim) ?aF ?aO ?aB ?aS ?aL ?_; (case aP => exact rfl); (case aF => exact fun _ _ => trivial); (case aO => exact HO.out); (case aB => exact HB.out); (case aS => omega); (case aL => omega); intro v1 w4 ho hb hg _)
      go_meet
      case rel => exact ⟨by rw [← HL.out]; exact ho, hb⟩
  case rest =>
  obtain ⟨hO, hb⟩ := hcut
  have hs : w1.heap.size ≤ wc.heap.size := hb.size
  have hgc := (hb.block g hlt2).trans HG2.out
  obtain ⟨c0, _⟩ := heap_cell (j := 0) hgc rfl
  obtain ⟨c1, _⟩ := heap_cell (j := 1) hgc rfl
  have HO := Aside0.mk hO
  have HB := Aside0.mk hb
  clear hO hb hgc
  have HX := Lib.hid (show (bits BinOp.xor IntKind.u32 (if IntKind.u32.signed = true then -1 else IntKind.u32.max) low) = 4294967295 - low from xor_max32 low hlow.1 hlow.2)
  go_upto_if 68 with (fail)
  go_cut [5] from 8 (fun s wx => Kd.R (Kd.int .u32) 111 wx w1.heap.size (fun _ => True) s (inL3 hi lo) ∧ Below w1.heap.size w1 wx)
  case first =>
    rcases h : (hi / 4294967296 == 536936448) with _ | _
    · have HL := Lib.hid (show inL2 hi lo = inL3 hi lo by rw [inL3, show in3 hi = false from h]; simp)
      go_wp2_with fail
      go_meet
      case rel => exact ⟨by rw [← HL.out]; exact HO.out, HB.out⟩
    · have HL := Lib.hid (show inL2 hi lo ++ [hi % 4294967296, (bits BinOp.xor IntKind.u32 (if IntKind.u32.signed = true then -1 else IntKind.u32.max) low)] = inL3 hi lo by rw [inL3, show in3 hi = true from h, HX.out, HLW.out]; simp)
      have hln := inL2_len hi lo
      go_wp2_with ((with_reducible refine gate_builtin (b := .append) (xs := #[.tmp 69, .tmp 75]) rfl ?_); at_builtin; go_loud (refine Kd.R_append_rows (Kd.int .u32) (w0 := w1) w1.heap.size rfl (.tmp 69) (.tmp 75) 208 111 (.int .u32 0) 4 rfl Tryz.underlying208 info_four rfl (by decide) (by omega) u5 (inL2 hi lo) [hi % 4294967296, (bits BinOp.xor IntKind.u32 (if IntKind.u32.signed = true then -1 else IntKind.u32.max) low)] _ _ _ (fun _ => True) (fun _ => False) rfl rfl ?aO ?aR (fun _ _ h => h) (fun _ h => h.elim) ?aF ?aB ?aS ?aL ?_); go_loud (case aO => exact (Kd.R_below HO.out ((Below.refl _ _).alloc (Nat.le_refl _) _))); go_loud (case aR => exact (C_new .u32 wc [hi % 4294967296, (bits BinOp.xor IntKind.u32 (if IntKind.u32.signed = true then -1 else IntKind.u32.max) low)] _ (show 2 ≤ 9223372036854775807 by omega))); (case aF => exact fun _ _ => trivial); go_loud (case aB => exact (HB.out.alloc (by omega) _)); go_loud (case aS => (simp; omega)); go_loud (case aL => omega); intro v1 w4 ho hb hg _)
      go_meet
      case rel => exact ⟨by rw [← HL.out]; exact ho, hb⟩
  case rest =>
  obtain ⟨hO, hb⟩ := hcut
  have hs : w1.heap.size ≤ wc.heap.size := hb.size
  have hgc := (hb.block g hlt2).trans HG2.out
  obtain ⟨c0, _⟩ := heap_cell (j := 0) hgc rfl
  obtain ⟨c1, _⟩ := heap_cell (j := 1) hgc rfl
  have HO := Aside0.mk hO
  have HB := Aside0.mk hb
  clear hO hb hgc
  obtain ⟨tv, htv⟩ : ∃ tv, tv = top - (if top / 33554432 % 2 = 1 then 33554432 else 0) := ⟨_, rfl⟩
  have hAN := strike_25 top htop.1 htop.2
  rw [← htv] at hAN
  have HI4 := Lib.hid (show in4 lo = (tv == 24318) by
    rw [in4, ← HTP.out]
    have e : (top = 24318 ∨ top = 33578750) ↔ tv = 24318 := by
      rw [htv]
      split <;> omega
    by_cases h : tv = 24318
    · rw [decide_eq_true (e.2 h), h]
      rfl
    · rw [decide_eq_false (fun hh => h (e.1 hh)), beq_eq_false_iff_ne.2 h])
  clear htv
  go_upto_if 79 with (fail)
  go_cut [5] from 8 (fun s wx => Kd.R (Kd.int .u32) 111 wx w1.heap.size (fun _ => True) s (inL4 hi lo) ∧ Below w1.heap.size w1 wx)
  case first =>
    rcases h : (tv == 24318) with _ | _
    · have HL := Lib.hid (show inL3 hi lo = inL4 hi lo by rw [inL4, HI4.out, h]; simp)
      go_wp2_with fail
      go_meet
      case rel => exact ⟨by rw [← HL.out]; exact HO.out, HB.out⟩
    · have HL := Lib.hid (show inL3 hi lo ++ [low] = inL4 hi lo by rw [inL4, HI4.out, h, HLW.out]; simp)
      have hln := inL3_len hi lo
      go_wp2_with ((with_reducible refine gate_builtin (b := .append) (xs := #[.tmp 80, .tmp 82]) rfl ?_); at_builtin; refine Kd.R_append (Kd.int .u32) (w0 := w1) w1.heap.size rfl (.tmp 80) (.tmp 82) 208 111 (.int .u32 0) 4 rfl Tryz.underlying208 info_four rfl (by decide) (by omega) u5 (inL3 hi lo) low [.int .u32 low] (fun _ => True) (fun _ => False) rfl rfl ?aP (fun _ hk => hk.elim) ?aF ?aO ?aB ?aS ?aL ?_; (case aP => exact rfl); (case aF => exact fun _ _ => trivial); (case aO => exact HO.out); (case aB => exact HB.out); (case aS => omega); (case aL => omega); intro v1 w4 ho hb hg _)
      go_meet
      case rel => exact ⟨by rw [← HL.out]; exact ho, hb⟩
  case rest =>
  obtain ⟨hO, hb⟩ := hcut
  go_wp2_with fail
  go_ret
  exact ⟨_, rfl, Kd.R_lower hO B2.out.size, below_then B2.out B2.out.size hb⟩
end Go.Proofs.YtplehdcnnaamkaaGreatDoor

/- Tries: prefixes as paths, lists of prefixes with verdicts; plain Lean. -/
namespace Go.Proofs.YtplehdcnnaamkaaGreatDoor

/-- A prefix: its halves and its length. -/
abbrev P3 := Int × Int × Int
def okP (p : P3) : Prop := (0 ≤ p.1 ∧ p.1 < 18446744073709551616) ∧ 0 ≤ p.2.1 ∧ p.2.1 < 18446744073709551616
def rP (p : P3) : Bool := rightP p.1 p.2.1 p.2.2
def bitB (hi lo : Int) (i : Nat) : Bool := pBit hi lo i == 1
/-- The way that the first bits tell. -/
def pathN (hi lo : Int) (n : Nat) : List Bool := (List.range n).map (bitB hi lo)
def pathP (p : P3) : List Bool := pathN p.1 p.2.1 p.2.2.toNat
/-- Does a prefix stand ahead of another one? -/
def befB (a b : P3) : Bool := if a.1 ≠ b.1 then decide (a.1 < b.1) else if a.2.1 ≠ b.2.1 then decide (a.2.1 < b.2.1) else decide (a.2.2 < b.2.2)
theorem befB_iff (a b : P3) : befB a b = true ↔ a.1 < b.1 ∨ (a.1 = b.1 ∧ (a.2.1 < b.2.1 ∨ (a.2.1 = b.2.1 ∧ a.2.2 < b.2.2))) := by
  rw [befB]
  split
  · rw [decide_eq_true_iff]; omega
  · split
    · rw [decide_eq_true_iff]; omega
    · rw [decide_eq_true_iff]; omega
theorem befB_trans {a b c : P3} (h : befB a b = true) (h' : befB b c = true) : befB a c = true := by
  rw [befB_iff] at h h' ⊢
  omega
theorem befB_total (a b : P3) (h : befB a b = false) : a = b ∨ befB b a = true := by
  have h' : ¬ befB a b = true := by rw [h]; exact Bool.false_ne_true
  rw [befB_iff] at h'
  rw [befB_iff]
  obtain ⟨a1, a2, a3⟩ := a
  obtain ⟨b1, b2, b3⟩ := b
  simp only [Prod.mk.injEq] at *
  omega
theorem pathN_len (hi lo : Int) (n : Nat) : (pathN hi lo n).length = n := by simp [pathN]
theorem pathN_eq (hi lo a b : Int) (n m : Nat) : pathN hi lo n = pathN a b m ↔ n = m ∧ ∀ i, i < n → bitB hi lo i = bitB a b i := by
  constructor
  · intro h
    have hl := congrArg List.length h
    rw [pathN_len, pathN_len] at hl
    refine ⟨hl, fun i hi => ?_⟩
    have := congrArg (·[i]?) h
    simpa [pathN, hi, show i < m by omega] using this
  · rintro ⟨rfl, h⟩
    apply List.map_congr_left
    intro i hi
    exact h i (List.mem_range.1 hi)
theorem bitB_pBit (hi lo a b : Int) (i : Nat) : bitB hi lo i = bitB a b i ↔ pBit hi lo i = pBit a b i := by
  rw [bitB, bitB]
  rcases pBit_01 hi lo i with h | h <;> rcases pBit_01 a b i with h' | h' <;> rw [h, h'] <;> decide
theorem rP_len (p : P3) (h : rP p = true) : 0 ≤ p.2.2 ∧ p.2.2 ≤ 128 := rightP_bd _ _ _ h
theorem rP_zero (p : P3) (ho : okP p) (h : rP p = true) (i : Nat) (h1 : p.2.2.toNat ≤ i) (h2 : i < 128) : pBit p.1 p.2.1 i = 0 := by
  have hl := rP_len p h
  have e : p.2.2 = ((p.2.2.toNat : Nat) : Int) := by omega
  rw [rP, e] at h
  exact ((rightP_iff _ _ _ ho.1 ho.2).1 h).2 i h1 h2
theorem pathP_inj (p q : P3) (hp : okP p) (hq : okP q) (rp : rP p = true) (rq : rP q = true) (h : pathP p = pathP q) : p = q := by
  have lp := rP_len p rp
  have lq := rP_len q rq
  obtain ⟨hn, hb⟩ := (pathN_eq _ _ _ _ _ _).1 h
  have := pBit_ext p.1 p.2.1 q.1 q.2.1 hp.1 hp.2 hq.1 hq.2 fun i hi => by
    by_cases hin : i < p.2.2.toNat
    · exact (bitB_pBit _ _ _ _ _).1 (hb i hin)
    · rw [rP_zero p hp rp i (by omega) hi, rP_zero q hq rq i (by omega) hi]
  obtain ⟨p1, p2, p3⟩ := p
  obtain ⟨q1, q2, q3⟩ := q
  simp only [Prod.mk.injEq] at *
  omega
/-- The document's lists. -/
abbrev E4 := P3 × Int
def dropL (l : List E4) (p : P3) : List E4 := l.filter fun x => decide (x.1 ≠ p)
def insL (p : P3) (v : Int) : List E4 → List E4
  | [] => [(p, v)]
  | x :: l => if befB p x.1 = true then (p, v) :: x :: l else x :: insL p v l
def putL (l : List E4) (p : P3) (v : Int) : List E4 := insL p v (dropL l p)

/-- What a trie's nodes tell: at a way a verdict and its prefix. -/
structure Inv (I : List Bool → Option (Int × P3)) (L : List E4) : Prop where
  node : ∀ π v p, I π = some (v, p) → okP p ∧ rP p = true ∧ pathP p = π ∧ (p, v) ∈ L
  entry : ∀ e ∈ L, okP e.1 ∧ rP e.1 = true ∧ I (pathP e.1) = some (e.2, e.1)
  sorted : L.Pairwise fun x y => befB x.1 y.1 = true
theorem Inv.nil : Inv (fun _ => none) [] := ⟨fun _ _ _ h => by (cases h), fun _ h => by (cases h), List.Pairwise.nil⟩
theorem mem_dropL (l : List E4) (p : P3) (x : E4) : x ∈ dropL l p ↔ x ∈ l ∧ x.1 ≠ p := by simp [dropL]
theorem mem_insL (p : P3) (v : Int) : ∀ (l : List E4) (x : E4), x ∈ insL p v l ↔ x = (p, v) ∨ x ∈ l
  | [], x => by simp [insL]
  | y :: l, x => by
    rw [insL]
    split
    · simp
    · rw [List.mem_cons, mem_insL p v l x, List.mem_cons]
      constructor
      · rintro (h | h | h)
        · exact .inr (.inl h)
        · exact .inl h
        · exact .inr (.inr h)
      · rintro (h | h | h)
        · exact .inr (.inl h)
        · exact .inl h
        · exact .inr (.inr h)
theorem insL_sorted (p : P3) (v : Int) : ∀ l : List E4, (l.Pairwise fun x y => befB x.1 y.1 = true) → (∀ x ∈ l, x.1 ≠ p) → (insL p v l).Pairwise fun x y => befB x.1 y.1 = true
  | [], _, _ => by simp [insL]
  | y :: l, h, hn => by
    rw [List.pairwise_cons] at h
    rw [insL]
    split
    · rename_i hb
      rw [List.pairwise_cons, List.pairwise_cons]
      refine ⟨fun z hz => ?_, h⟩
      rcases List.mem_cons.1 hz with e | e
      · rw [e]; exact hb
      · exact befB_trans hb (h.1 z e)
    · rename_i hb
      rw [List.pairwise_cons]
      refine ⟨fun z hz => ?_, insL_sorted p v l h.2 fun x hx => hn x (List.mem_cons_of_mem _ hx)⟩
      rcases (mem_insL p v l z).1 hz with e | e
      · rw [e]
        rcases befB_total p y.1 (by simpa using hb) with e' | e'
        · exact absurd e'.symm (hn y (List.mem_cons_self ..))
        · exact e'
      · exact h.1 z e
theorem Inv.drop {I : List Bool → Option (Int × P3)} {L : List E4} (h : Inv I L) (p : P3) (hp : okP p) (rp : rP p = true) {I' : List Bool → Option (Int × P3)} (h1 : I' (pathP p) = none) (h2 : ∀ π, π ≠ pathP p → I' π = I π) : Inv I' (dropL L p) := by
  refine ⟨fun π v q hq => ?_, fun e he => ?_, h.sorted.filter _⟩
  · by_cases e : π = pathP p
    · rw [e, h1] at hq; cases hq
    · rw [h2 π e] at hq
      obtain ⟨a, b, c, d⟩ := h.node _ _ _ hq
      refine ⟨a, b, c, (mem_dropL _ _ _).2 ⟨d, fun e' => e ?_⟩⟩
      rw [← c, show q = p from e']
  · obtain ⟨m, ne⟩ := (mem_dropL _ _ _).1 he
    obtain ⟨a, b, c⟩ := h.entry e m
    refine ⟨a, b, ?_⟩
    rw [h2 _ fun e' => ne (pathP_inj _ _ a hp b rp e')]
    exact c
theorem Inv.put {I : List Bool → Option (Int × P3)} {L : List E4} (h : Inv I L) (p : P3) (v : Int) (hp : okP p) (rp : rP p = true) {I' : List Bool → Option (Int × P3)} (h1 : I' (pathP p) = some (v, p)) (h2 : ∀ π, π ≠ pathP p → I' π = I π) : Inv I' (putL L p v) := by
  refine ⟨fun π u q hq => ?_, fun e he => ?_, insL_sorted p v _ (h.sorted.filter _) fun x hx => ((mem_dropL _ _ _).1 hx).2⟩
  · by_cases e : π = pathP p
    · rw [e, h1] at hq
      obtain ⟨rfl, rfl⟩ : v = u ∧ p = q := by simpa using hq
      exact ⟨hp, rp, e.symm, (mem_insL _ _ _ _).2 (.inl rfl)⟩
    · rw [h2 π e] at hq
      obtain ⟨a, b, c, d⟩ := h.node _ _ _ hq
      refine ⟨a, b, c, (mem_insL _ _ _ _).2 (.inr ((mem_dropL _ _ _).2 ⟨d, fun e' => e ?_⟩))⟩
      rw [← c, show q = p from e']
  · rcases (mem_insL _ _ _ _).1 he with e' | e'
    · subst e'
      exact ⟨hp, rp, h1⟩
    · obtain ⟨m, ne⟩ := (mem_dropL _ _ _).1 e'
      obtain ⟨a, b, c⟩ := h.entry e m
      refine ⟨a, b, ?_⟩
      rw [h2 _ fun e' => ne (pathP_inj _ _ a hp b rp e')]
      exact c

/-- What is told of the longest one of a list that has an address. -/
def Best (a b : Int) (l : List E4) (o : Option E4) : Prop :=
  match o with
  | none => ∀ e ∈ l, hasP e.1.1 e.1.2.1 e.1.2.2 a b = false
  | some e => e ∈ l ∧ hasP e.1.1 e.1.2.1 e.1.2.2 a b = true ∧ ∀ x ∈ l, hasP x.1.1 x.1.2.1 x.1.2.2 a b = true → x.1.2.2 ≤ e.1.2.2
/-- One more is asked. -/
def bestS (a b : Int) (best : Option E4) (x : E4) : Option E4 :=
  if hasP x.1.1 x.1.2.1 x.1.2.2 a b = true then (match best with | none => some x | some y => if y.1.2.2 < x.1.2.2 then some x else some y) else best
theorem Best.step {a b : Int} {l : List E4} {o : Option E4} (h : Best a b l o) (x : E4) : Best a b (l ++ [x]) (bestS a b o x) := by
  unfold bestS
  by_cases hx : hasP x.1.1 x.1.2.1 x.1.2.2 a b = true
  · rw [if_pos hx]
    cases o with
    | none =>
      refine ⟨by simp, hx, fun y hy hh => ?_⟩
      rcases List.mem_append.1 hy with e | e
      · rw [h y e] at hh; cases hh
      · obtain rfl : y = x := by simpa using e
        exact Int.le_refl _
    | some e =>
      obtain ⟨h1, h2, h3⟩ := h
      by_cases hlt : e.1.2.2 < x.1.2.2
      · simp only [if_pos hlt]
        refine ⟨by simp, hx, fun y hy hh => ?_⟩
        rcases List.mem_append.1 hy with e' | e'
        · have := h3 y e' hh; omega
        · obtain rfl : y = x := by simpa using e'
          exact Int.le_refl _
      · simp only [if_neg hlt]
        refine ⟨by simp [h1], h2, fun y hy hh => ?_⟩
        rcases List.mem_append.1 hy with e' | e'
        · exact h3 y e' hh
        · obtain rfl : y = x := by simpa using e'
          omega
  · rw [if_neg hx]
    cases o with
    | none =>
      intro y hy
      rcases List.mem_append.1 hy with e | e
      · exact h y e
      · obtain rfl : y = x := by simpa using e
        simpa using hx
    | some e =>
      obtain ⟨h1, h2, h3⟩ := h
      refine ⟨by simp [h1], h2, fun y hy hh => ?_⟩
      rcases List.mem_append.1 hy with e' | e'
      · exact h3 y e' hh
      · obtain rfl : y = x := by simpa using e'
        exact absurd hh hx
end Go.Proofs.YtplehdcnnaamkaaGreatDoor

/- Prefixes, read and written: plain Lean. -/
namespace Go.Proofs.YtplehdcnnaamkaaGreatDoor
open Go.RowKit Go.Proofs.YtplehdcnnaamkaaGreatDoorW.PrintWords

/-- What is added to the length that is written behind an address. -/
def addOf : Bool × Int × Int → Int
  | (true, _, _) => 0
  | (false, _, _) => 96
/-- The prefix of an address's text and a length's. -/
def pfMk (o : Option (Bool × Int × Int)) (tail : List UInt8) : Option P3 := match o with
  | none => none
  | some a => if decOk tail (128 - addOf a) = true then if rightP (adHi a) (adLo a) (decN tail (128 - addOf a) + addOf a) = true then some (adHi a, adLo a, decN tail (128 - addOf a) + addOf a) else none else none
/-- The prefix that a text is. -/
def pfOf (l : List UInt8) : Option P3 := pfMk (adOf (Lib.cut l [47]).1) (Lib.cut l [47]).2.1
def pfV : Option P3 → Value
  | none => .agg #[.int .u64 0, .int .u64 0, .int .i64 0]
  | some p => .agg #[.int .u64 p.1, .int .u64 p.2.1, .int .i64 p.2.2]
theorem dec_bounds (l : List UInt8) (m : Int) (h : decOk l m = true) : 0 ≤ decN l m ∧ decN l m ≤ m := by
  have hp : plainD l = true := by
    rw [decOk, Bool.and_eq_true] at h
    exact h.1
  have hm : decV l ≤ m := by
    rw [decOk, Bool.and_eq_true, decide_eq_true_iff] at h
    exact h.2
  have hd : digitsL l = true := by
    rw [plainD, Bool.and_eq_true] at hp
    exact hp.1
  rw [decN, if_pos h]
  exact ⟨decV_nonneg l hd, hm⟩
theorem pfMk_some (a : Bool × Int × Int) (t : List UInt8) (k : Int) (h1 : decOk t (128 - addOf a) = true) (h2 : decN t (128 - addOf a) = k) (h3 : rightP (adHi a) (adLo a) (k + addOf a) = true) : pfMk (some a) t = some (adHi a, adLo a, k + addOf a) := by
  subst h2
  rw [pfMk]
  simp only [if_pos h1, if_pos h3]
end Go.Proofs.YtplehdcnnaamkaaGreatDoor

/- Prefixes, read; walked. -/
namespace Go.Proofs.YtplehdcnnaamkaaGreatDoor
open Go.RowKit Go.Proofs.YtplehdcnnaamkaaGreatDoorW.PrintWords Go.Proofs.YtplehdcnnaamkaaGreatDoorW.PrintMore

theorem ret_pf {a b : Value} {c d : Bool} (h : b = a) (h' : d = c) : Ending.returned (.tuple #[a, .bool c]) = .returned (.tuple #[b, .bool d]) := by rw [h, h']
theorem pfMk_none2 (a : Bool × Int × Int) (t : List UInt8) (h : decOk t (128 - addOf a) = false) : pfMk (some a) t = none := by
  rw [pfMk, h]; rfl
theorem pfMk_none3 (a : Bool × Int × Int) (t : List UInt8) (h1 : decOk t (128 - addOf a) = true) (h3 : rightP (adHi a) (adLo a) (decN t (128 - addOf a) + addOf a) = false) : pfMk (some a) t = none := by
  rw [pfMk]
  simp only [if_pos h1, h3]
  rfl
set_option maxHeartbeats 8000000 in
set_option maxRecDepth 100000 in
theorem PfParse_calls (s : ByteArray) (w : World) (hs : s.size ≤ 900000) (hE : Aside0 (Errs w)) (hM : Aside0 (Mx w)) :
    Calls Tryz.prog 16 #[.string s] w fun e w' => e = .returned (.tuple #[pfV (pfOf s.data.toList), .bool (pfOf s.data.toList).isSome]) ∧ Below w.heap.size w w' := by
  have q4 := mw_4
  have q6 := mw_6
  obtain ⟨W0, hW0⟩ : ∃ W0, W0 = w.alloc (.cells #[.int .u64 0, .int .u64 0, .int .i64 0] 25) := ⟨_, rfl⟩
  obtain ⟨hg, hl, hb⟩ := box3 hW0
  have B0 := Aside0.mk hb
  have HW := Lib.hid hW0
  have HG := Aside0.mk hg
  clear hg hW0 hb
  obtain ⟨mx, hmx⟩ := hM.out
  have HMX := Aside0.mk hmx
  have hcl := cut_le s.data.toList [47]
  rw [show s.data.toList.length = s.size by simp] at hcl
  obtain ⟨r, hr⟩ : ∃ r, r = pfOf s.data.toList := ⟨_, rfl⟩
  rw [← hr]
  have HR := Lib.hid (hr.trans (show pfOf s.data.toList = pfMk (adOf (Lib.cut s.data.toList [47]).1) (Lib.cut s.data.toList [47]).2.1 from rfl))
  clear hr hmx
  go_enter Tryz.func16, Tryz.ntmps16
  go_wp2_with fail
  rw [← HW.out]
  refine (Tryz.strings_Cut s _ mx _ (by omega) (by rw [← HMX.out]; exact B0.out.cell (cell_of_lt HMX.out))).mono ?_
  rintro e w1 ⟨rfl, n1, hw1⟩
  rw [show (ByteArray.mk #[47]).data.toList = [47] from rfl]
  have hb1 : Below W0.heap.size W0 w1 := by rw [hw1]; exact pw_below_drewN (Below.refl _ _) n1
  have HG1 := Aside0.mk ((hb1.block _ hl).trans HG.out)
  have hl1 := Nat.lt_of_lt_of_le hl hb1.size
  have B1 := Aside0.mk (below_then B0.out B0.out.size hb1)
  clear hw1 hb1
  generalize Lib.cut s.data.toList [47] = C at HR hcl ⊢
  obtain ⟨wl, rl, more⟩ := C
  simp only [] at HR hcl ⊢
  obtain ⟨word, hword⟩ : ∃ word : ByteArray, word = ⟨wl.toArray⟩ := ⟨_, rfl⟩
  obtain ⟨rst, hrst⟩ : ∃ rst : ByteArray, rst = ⟨rl.toArray⟩ := ⟨_, rfl⟩
  have hwz : word.size ≤ 900000 := by rw [hword, mk_size]; omega
  have hrz : rst.size ≤ 900000 := by rw [hrst, mk_size]; omega
  have hwl : word.data.toList = wl := by rw [hword]
  have hrl : rst.data.toList = rl := by rw [hrst]
  rw [← hword, ← hrst]
  have HWL := Lib.hid hwl
  have HRL := Lib.hid hrl
  clear hword hrst hwl hrl hcl
  go_wp2_with fail
  refine (AdParse_calls word _ hwz ⟨hE.out.stays B1.out⟩ ⟨hM.out.stays B1.out⟩).mono ?_
  rw [HWL.out]
  have hok := adOf_ok wl
  generalize adOf wl = o at HR hok ⊢
  rintro e w2 ⟨rfl, b2⟩
  have HG2 := Aside0.mk ((b2.block _ hl1).trans HG1.out)
  have hl2 := Nat.lt_of_lt_of_le hl1 b2.size
  have B2 := Aside0.mk (below_then B1.out B1.out.size b2)
  have hg2 := HG2.out
  obtain ⟨k0, f0⟩ := heap_cell (j := 0) hg2 rfl
  obtain ⟨k1, f1⟩ := heap_cell (j := 1) hg2 rfl
  obtain ⟨k2, f2⟩ := heap_cell (j := 2) hg2 rfl
  clear hg2 b2
  rcases o with _ | a
  · simp only [adVo, Option.isSome]
    go_wp2_with fail
    refine bodyPost_ret (results_cell_bool rfl _ _ w.heap.size 25 #[.int .u64 0, .int .u64 0, .int .i64 0] (0, 0) _ rfl (heap_set3 _ _ _ HG2.out) Tryz.underlying25 rfl (by kernel_rfl)) rfl ?_
    exact ⟨ret_pf (by rw [HR.out]; rfl) (by rw [HR.out]; rfl), below_set3 B2.out (Nat.le_refl _) _ _ _⟩
  · have HA := hok a rfl
    have hbd := ad_bd a HA
    clear hok
    have N1 := Aside0.mk (pfMk_none2 a rl)
    have N2 := Aside0.mk (pfMk_none3 a rl)
    have N3 := Aside0.mk (pfMk_some a rl)
    have hdb := dec_bounds rl (128 - addOf a)
    have RI := Aside0.mk (Right_calls (adHi a) (adLo a) (decN rl (128 - addOf a) + addOf a) hbd.1 hbd.2)
    obtain ⟨sx, hi, lo⟩ := a
    cases sx
    · simp only [adVo, adV, Option.isSome]
      have hw : (128 : Int) - addOf (false, hi, lo) = 32 := rfl
      have hadd : addOf (false, hi, lo) = 96 := rfl
      rw [hw] at N1 N2 N3 hdb RI
      rw [hadd] at N2 N3 RI
      clear hw hadd
      simp only [adHi, adLo] at N1 N2 N3 RI
      go_wp2_with fail
      refine (FourA4 lo _).mono ?_
      rintro e w3 ⟨rfl, rfl⟩
      go_wp2_with fail
      refine (Decimal_calls rst (by omega) _ (by omega) _ ⟨hE.out.stays B2.out⟩).mono ?_
      rw [HRL.out]
      rintro e w4 ⟨rfl, b4⟩
      have HG4 := Aside0.mk ((b4.block _ hl2).trans HG2.out)
      have hl4 := Nat.lt_of_lt_of_le hl2 b4.size
      have B4 := Aside0.mk (below_then B2.out B2.out.size b4)
      clear k0 f0 k1 f1 k2 f2
      have hg4 := HG4.out
      obtain ⟨k0, f0⟩ := heap_cell (j := 0) hg4 rfl
      obtain ⟨k1, f1⟩ := heap_cell (j := 1) hg4 rfl
      obtain ⟨k2, f2⟩ := heap_cell (j := 2) hg4 rfl
      clear hg4 b4
      cases hd : decOk rl 32
      · have HN := Lib.hid (N1.out hd)
        generalize decN rl 32 = n
        clear hd hdb
        go_wp2_with fail
        refine bodyPost_ret (results_cell_bool rfl _ _ w.heap.size 25 #[.int .u64 0, .int .u64 0, .int .i64 0] (0, 0) _ rfl (heap_set3 _ _ _ HG4.out) Tryz.underlying25 rfl (by kernel_rfl)) rfl ?_
        exact ⟨ret_pf (by rw [HR.out, HN.out]; rfl) (by rw [HR.out, HN.out]; rfl), below_set3 B4.out (Nat.le_refl _) _ _ _⟩
      · have hn := hdb hd
        have N4 := Aside0.mk (N2.out hd)
        have N5 := Aside0.mk (N3.out (decN rl 32) hd rfl)
        clear N1 N2 N3 hdb hd
        generalize decN rl 32 = n at hn N4 N5 RI
        go_wp2_with fail
        refine (Wide4_calls lo HA.2.1 HA.2.2 _).mono ?_
        rintro e w5 ⟨rfl, b5⟩
        have HG5 := Aside0.mk ((b5.block _ hl4).trans HG4.out)
        have hl5 := Nat.lt_of_lt_of_le hl4 b5.size
        have B5 := Aside0.mk (below_then B4.out B4.out.size b5)
        clear k0 f0 k1 f1 k2 f2 b5
        obtain ⟨W6, hW6⟩ : ∃ W6, W6 = w5.alloc (.cells #[.int .u64 0, .int .u64 (281470681743360 + lo), .int .i64 (n + 96)] 25) := ⟨_, rfl⟩
        obtain ⟨hg6, hl6, hb6⟩ := box3 hW6
        have HW6 := Lib.hid hW6
        have HG6 := Aside0.mk hg6
        have B6 := Aside0.mk (below_then B5.out B5.out.size hb6)
        have HG7 := Aside0.mk ((hb6.block _ hl5).trans HG5.out)
        have hl7 := Nat.lt_of_lt_of_le hl5 hb6.size
        clear hg6 hb6 hW6
        go_wp2_with fail
        try rw [← HW6.out]
        refine (RI.out _).mono ?_
        rintro e w7 ⟨rfl, b7⟩
        have HG8 := Aside0.mk ((b7.block _ hl7).trans HG7.out)
        have HG9 := Aside0.mk ((b7.block _ hl6).trans HG6.out)
        have B7 := Aside0.mk (below_then B6.out B6.out.size b7)
        have hg8 := HG8.out
        have hg9 := HG9.out
        obtain ⟨k0, f0⟩ := heap_cell (j := 0) hg8 rfl
        obtain ⟨k1, f1⟩ := heap_cell (j := 1) hg8 rfl
        obtain ⟨k2, f2⟩ := heap_cell (j := 2) hg8 rfl
        obtain ⟨m0, _⟩ := heap_cell (j := 0) hg9 rfl
        obtain ⟨m1, _⟩ := heap_cell (j := 1) hg9 rfl
        obtain ⟨m2, _⟩ := heap_cell (j := 2) hg9 rfl
        clear hg8 hg9 b7
        cases hr : rightP 0 (281470681743360 + lo) (n + 96)
        · have HN := Lib.hid (N4.out hr)
          clear hr
          go_wp2_with fail
          refine bodyPost_ret (results_cell_bool rfl _ _ w.heap.size 25 #[.int .u64 0, .int .u64 0, .int .i64 0] (0, 0) _ rfl (heap_set3 _ _ _ HG8.out) Tryz.underlying25 rfl (by kernel_rfl)) rfl ?_
          exact ⟨ret_pf (by rw [HR.out, HN.out]; rfl) (by rw [HR.out, HN.out]; rfl), below_set3 B7.out (Nat.le_refl _) _ _ _⟩
        · have HN := Lib.hid (N5.out hr)
          clear hr
          go_wp2_with fail
          refine bodyPost_ret (results_cell_bool rfl _ _ w.heap.size 25 #[.int .u64 0, .int .u64 (281470681743360 + lo), .int .i64 (n + 96)] (0, 0) _ rfl (heap_set3 _ _ _ HG8.out) Tryz.underlying25 rfl (by kernel_rfl)) rfl ?_
          exact ⟨ret_pf (by rw [HR.out, HN.out]; rfl) (by rw [HR.out, HN.out]; rfl), below_set3 B7.out (Nat.le_refl _) _ _ _⟩
    · simp only [adVo, adV, Option.isSome]
      have hw : (128 : Int) - addOf (true, hi, lo) = 128 := rfl
      have hadd : addOf (true, hi, lo) = 0 := rfl
      rw [hw] at N1 N2 N3 hdb RI
      rw [hadd] at N2 N3 RI
      simp only [Int.add_zero] at N2 N3 RI
      clear hw hadd
      simp only [adHi, adLo] at N1 N2 N3 RI
      go_wp2_with fail
      refine (FourA6 hi lo _).mono ?_
      rintro e w3 ⟨rfl, rfl⟩
      go_wp2_with fail
      refine (Decimal_calls rst (by omega) _ (by omega) _ ⟨hE.out.stays B2.out⟩).mono ?_
      rw [HRL.out]
      rintro e w4 ⟨rfl, b4⟩
      have HG4 := Aside0.mk ((b4.block _ hl2).trans HG2.out)
      have hl4 := Nat.lt_of_lt_of_le hl2 b4.size
      have B4 := Aside0.mk (below_then B2.out B2.out.size b4)
      clear k0 f0 k1 f1 k2 f2
      have hg4 := HG4.out
      obtain ⟨k0, f0⟩ := heap_cell (j := 0) hg4 rfl
      obtain ⟨k1, f1⟩ := heap_cell (j := 1) hg4 rfl
      obtain ⟨k2, f2⟩ := heap_cell (j := 2) hg4 rfl
      clear hg4 b4
      cases hd : decOk rl 128
      · have HN := Lib.hid (N1.out hd)
        generalize decN rl 128 = n
        clear hd hdb
        go_wp2_with fail
        refine bodyPost_ret (results_cell_bool rfl _ _ w.heap.size 25 #[.int .u64 0, .int .u64 0, .int .i64 0] (0, 0) _ rfl (heap_set3 _ _ _ HG4.out) Tryz.underlying25 rfl (by kernel_rfl)) rfl ?_
        exact ⟨ret_pf (by rw [HR.out, HN.out]; rfl) (by rw [HR.out, HN.out]; rfl), below_set3 B4.out (Nat.le_refl _) _ _ _⟩
      · have hn := hdb hd
        have N4 := Aside0.mk (N2.out hd)
        have N5 := Aside0.mk (N3.out (decN rl 128) hd rfl)
        clear N1 N2 N3 hdb hd
        generalize decN rl 128 = n at hn N4 N5 RI
        go_wp2_with fail
        refine (Wide6_calls hi lo _).mono ?_
        rintro e w5 ⟨rfl, b5⟩
        have HG5 := Aside0.mk ((b5.block _ hl4).trans HG4.out)
        have hl5 := Nat.lt_of_lt_of_le hl4 b5.size
        have B5 := Aside0.mk (below_then B4.out B4.out.size b5)
        clear k0 f0 k1 f1 k2 f2 b5
        obtain ⟨W6, hW6⟩ : ∃ W6, W6 = w5.alloc (.cells #[.int .u64 hi, .int .u64 lo, .int .i64 n] 25) := ⟨_, rfl⟩
        obtain ⟨hg6, hl6, hb6⟩ := box3 hW6
        have HW6 := Lib.hid hW6
        have HG6 := Aside0.mk hg6
        have B6 := Aside0.mk (below_then B5.out B5.out.size hb6)
        have HG7 := Aside0.mk ((hb6.block _ hl5).trans HG5.out)
        have hl7 := Nat.lt_of_lt_of_le hl5 hb6.size
        clear hg6 hb6 hW6
        go_wp2_with fail
        try rw [← HW6.out]
        refine (RI.out _).mono ?_
        rintro e w7 ⟨rfl, b7⟩
        have HG8 := Aside0.mk ((b7.block _ hl7).trans HG7.out)
        have HG9 := Aside0.mk ((b7.block _ hl6).trans HG6.out)
        have B7 := Aside0.mk (below_then B6.out B6.out.size b7)
        have hg8 := HG8.out
        have hg9 := HG9.out
        obtain ⟨k0, f0⟩ := heap_cell (j := 0) hg8 rfl
        obtain ⟨k1, f1⟩ := heap_cell (j := 1) hg8 rfl
        obtain ⟨k2, f2⟩ := heap_cell (j := 2) hg8 rfl
        obtain ⟨m0, _⟩ := heap_cell (j := 0) hg9 rfl
        obtain ⟨m1, _⟩ := heap_cell (j := 1) hg9 rfl
        obtain ⟨m2, _⟩ := heap_cell (j := 2) hg9 rfl
        clear hg8 hg9 b7
        cases hr : rightP hi lo n
        · have HN := Lib.hid (N4.out hr)
          clear hr
          go_wp2_with fail
          refine bodyPost_ret (results_cell_bool rfl _ _ w.heap.size 25 #[.int .u64 0, .int .u64 0, .int .i64 0] (0, 0) _ rfl (heap_set3 _ _ _ HG8.out) Tryz.underlying25 rfl (by kernel_rfl)) rfl ?_
          exact ⟨ret_pf (by rw [HR.out, HN.out]; rfl) (by rw [HR.out, HN.out]; rfl), below_set3 B7.out (Nat.le_refl _) _ _ _⟩
        · have HN := Lib.hid (N5.out hr)
          clear hr
          go_wp2_with fail
          refine bodyPost_ret (results_cell_bool rfl _ _ w.heap.size 25 #[.int .u64 hi, .int .u64 lo, .int .i64 n] (0, 0) _ rfl (heap_set3 _ _ _ HG8.out) Tryz.underlying25 rfl (by kernel_rfl)) rfl ?_
          exact ⟨ret_pf (by rw [HR.out, HN.out]; rfl) (by rw [HR.out, HN.out]; rfl), below_set3 B7.out (Nat.le_refl _) _ _ _⟩
end Go.Proofs.YtplehdcnnaamkaaGreatDoor

/- The chapter's examples of layer 5: plain Lean. -/
namespace Go.Proofs.YtplehdcnnaamkaaGreatDoor
open Go.RowKit Go.Proofs.YtplehdcnnaamkaaGreatDoorW.PrintWords

theorem six_x1 : sixL [58, 58, 102, 102, 102, 102, 58, 49, 46, 50, 46, 51, 46, 52] = some [0, 0, 0, 0, 0, 65535, 258, 772] := by decide +kernel
theorem six_x2 : sixL [49, 58, 50, 58, 51, 58, 52, 58, 53, 58, 54, 58, 55] = none := by decide +kernel
theorem text_x1 : textL6 [0, 0, 0, 0, 0, 65535, 258, 772] = [58, 58, 102, 102, 102, 102, 58, 49, 48, 50, 58, 51, 48, 52] := by decide +kernel
theorem text_x2 : textL6 [1, 0, 0, 2, 0, 0, 0, 0] = [49, 58, 48, 58, 48, 58, 50, 58, 58] := by decide +kernel
end Go.Proofs.YtplehdcnnaamkaaGreatDoor

/- The chapter's examples of layer 4, walked. -/
namespace Go.Proofs.YtplehdcnnaamkaaGreatDoor
open Go.RowKit Go.Proofs.YtplehdcnnaamkaaGreatDoorW.PrintWords Go.Proofs.YtplehdcnnaamkaaGreatDoorW.PrintMore

theorem four_x1 : fourN [48, 120, 55, 102, 46, 49] = 2130706433 ∧ fourOk [48, 120, 55, 102, 46, 49] = true := by decide +kernel
theorem four_x2 : fourOk [49, 46, 50, 46, 51, 46, 50, 53, 54] = false := by decide +kernel
theorem four_x3 : fourN [50, 53, 54] = 256 ∧ fourOk [50, 53, 54] = true := by decide +kernel
theorem AwakeL3_calls (w : World) : Calls Tryz.prog 153 #[] w fun e w' => e = .returned (.bool true) ∧ Below w.heap.size w w' := by
  go_enter Tryz.func153, Tryz.ntmps153
  go_wp2_with fail
  refine (awake3_calls _).mono ?_
  rintro e w1 ⟨rfl, hb⟩
  go_wp2
  go_ret
  exact ⟨rfl, hb⟩
set_option maxHeartbeats 1000000 in
theorem awake4_calls (w : World) : Calls Tryz.prog 122 #[] w fun e w' => e = .returned (.bool true) ∧ Below w.heap.size w w' := by
  go_enter Tryz.func122, Tryz.ntmps122
  go_wp2_with fail
  refine (Four_calls _ _ (by decide)).mono ?_
  rintro e w1 ⟨rfl, b1⟩
  rw [show (ByteArray.mk #[48, 120, 55, 102, 46, 49]).data.toList = [48, 120, 55, 102, 46, 49] from rfl, four_x1.1, four_x1.2]
  go_wp2_with fail
  refine (Four_calls _ _ (by decide)).mono ?_
  rintro e w2 ⟨rfl, b2⟩
  rw [show (ByteArray.mk #[49, 46, 50, 46, 51, 46, 50, 53, 54]).data.toList = [49, 46, 50, 46, 51, 46, 50, 53, 54] from rfl, four_x2]
  go_wp2_with fail
  refine (Four_calls _ _ (by decide)).mono ?_
  rintro e w3 ⟨rfl, b3⟩
  rw [show (ByteArray.mk #[50, 53, 54]).data.toList = [50, 53, 54] from rfl, four_x3.1, four_x3.2]
  go_wp2_with fail
  refine (AwakeL3_calls _).mono ?_
  rintro e w4 ⟨rfl, b4⟩
  have B2 := Aside0.mk (below_then b1 b1.size b2)
  have B3 := Aside0.mk (below_then B2.out B2.out.size b3)
  have B4 := Aside0.mk (below_then B3.out B3.out.size b4)
  clear b1 b2 b3 b4
  go_wp2_with fail
  refine (Of_calls 127 0 0 1 (by omega) (by omega) (by omega) (by omega) _).mono ?_
  rintro e w5 ⟨rfl, rfl⟩
  simp only [Int.reduceMul, Int.reduceAdd]
  go_wp2_with fail
  refine (Of_calls 0 0 1 0 (by omega) (by omega) (by omega) (by omega) _).mono ?_
  rintro e w6 ⟨rfl, rfl⟩
  simp only [Int.reduceMul, Int.reduceAdd]
  go_wp2_with fail
  go_ret
  exact ⟨rfl, B4.out⟩
end Go.Proofs.YtplehdcnnaamkaaGreatDoor

/- The chapter's examples of layer 5, walked. -/
namespace Go.Proofs.YtplehdcnnaamkaaGreatDoor
open Go.RowKit Go.Proofs.YtplehdcnnaamkaaGreatDoorW.PrintWords Go.Proofs.YtplehdcnnaamkaaGreatDoorW.PrintMore

theorem six_v1 : sixHi [58, 58, 102, 102, 102, 102, 58, 49, 46, 50, 46, 51, 46, 52] = 0 ∧ sixLo [58, 58, 102, 102, 102, 102, 58, 49, 46, 50, 46, 51, 46, 52] = 281470698652420 ∧ sixOk [58, 58, 102, 102, 102, 102, 58, 49, 46, 50, 46, 51, 46, 52] = true := by
  have h := six_some six_x1
  exact ⟨h.1.trans (by decide), h.2.1.trans (by decide), h.2.2⟩
theorem six_v2 : sixHi [49, 58, 50, 58, 51, 58, 52, 58, 53, 58, 54, 58, 55] = 0 ∧ sixLo [49, 58, 50, 58, 51, 58, 52, 58, 53, 58, 54, 58, 55] = 0 ∧ sixOk [49, 58, 50, 58, 51, 58, 52, 58, 53, 58, 54, 58, 55] = false := six_none six_x2
theorem AwakeL4_calls (w : World) : Calls Tryz.prog 89 #[] w fun e w' => e = .returned (.bool true) ∧ Below w.heap.size w w' := by
  go_enter Tryz.func89, Tryz.ntmps89
  go_wp2_with fail
  refine (awake4_calls _).mono ?_
  rintro e w1 ⟨rfl, hb⟩
  go_wp2
  go_ret
  exact ⟨rfl, hb⟩
theorem half_x : half ((eight [1, 0, 0, 2]).take 4) = 281474976710658 ∧ half ((eight [1, 0, 0, 2]).drop 4) = 0 := by decide
theorem pcs_x1 : piecesOf 0 281470698652420 = [0, 0, 0, 0, 0, 65535, 258, 772] := by decide
theorem pcs_x2 : piecesOf 281474976710658 0 = [1, 0, 0, 2, 0, 0, 0, 0] := by decide

set_option maxHeartbeats 2000000 in
set_option maxRecDepth 100000 in
theorem awake5_calls (w : World) (hE : Aside0 (Errs w)) (hM : Aside0 (Mx w)) (hP : Aside0 (Pows w)) (hT : Aside0 (Debr w)) : Calls Tryz.prog 53 #[] w fun e w' => e = .returned (.bool true) ∧ Below w.heap.size w w' := by
  go_enter Tryz.func53, Tryz.ntmps53
  go_wp2_with fail
  refine (SixParse_calls _ _ (by decide) hE hM).mono ?_
  rintro e w1 ⟨rfl, b1⟩
  rw [show (ByteArray.mk #[58, 58, 102, 102, 102, 102, 58, 49, 46, 50, 46, 51, 46, 52]).data.toList = [58, 58, 102, 102, 102, 102, 58, 49, 46, 50, 46, 51, 46, 52] from rfl, six_v1.1, six_v1.2.1, six_v1.2.2]
  have B1 := Aside0.mk b1
  clear b1
  go_wp2_with fail
  obtain ⟨W1, hW1⟩ : ∃ W1, W1 = w1.alloc (.cells #[.int .u64 0, .int .u64 281470698652420] 34) := ⟨_, rfl⟩
  rw [← hW1]
  have hg : W1.heap[w1.heap.size]? = some (.cells #[.int .u64 0, .int .u64 281470698652420] 34 (0, 0)) := by rw [hW1]; exact heap_alloc_new' _ _ _ rfl
  have hlt : w1.heap.size < W1.heap.size := by rw [hW1]; simp
  have BW1 : Aside0 (Below w.heap.size w W1) := ⟨by rw [hW1]; exact B1.out.alloc B1.out.size _⟩
  have HG := Aside0.mk hg
  clear hW1 hg
  generalize w1.heap.size = g at *
  refine (SixParse_calls _ _ (by decide) ⟨hE.out.stays BW1.out⟩ ⟨hM.out.stays BW1.out⟩).mono ?_
  rintro e w2 ⟨rfl, b2⟩
  rw [show (ByteArray.mk #[49, 58, 50, 58, 51, 58, 52, 58, 53, 58, 54, 58, 55]).data.toList = [49, 58, 50, 58, 51, 58, 52, 58, 53, 58, 54, 58, 55] from rfl, six_v2.1, six_v2.2.1, six_v2.2.2]
  have hg2 := (b2.block g hlt).trans HG.out
  have B2 := Aside0.mk (below_then BW1.out BW1.out.size b2)
  have hlt2 : g < w2.heap.size := Nat.lt_of_lt_of_le hlt b2.size
  clear b2
  go_wp2_with fail
  obtain ⟨W2, hW2⟩ : ∃ W2, W2 = w2.alloc (.cells #[.int .u64 0, .int .u64 0] 34) := ⟨_, rfl⟩
  rw [← hW2]
  have hg3 : W2.heap[g]? = some (.cells #[.int .u64 0, .int .u64 281470698652420] 34 (0, 0)) := by rw [hW2, heap_alloc_old' _ _ _ hlt2]; exact hg2
  have BW2 : Aside0 (Below w.heap.size w W2) := ⟨by rw [hW2]; exact B2.out.alloc B2.out.size _⟩
  have hlt3 : g < W2.heap.size := by rw [hW2]; simp; omega
  have HG3 := Aside0.mk hg3
  clear hW2 hg2 hg3
  refine (AwakeL4_calls _).mono ?_
  rintro e w3 ⟨rfl, b3⟩
  have hg4 := (b3.block g hlt3).trans HG3.out
  have B3 := Aside0.mk (below_then BW2.out BW2.out.size b3)
  obtain ⟨c0, _⟩ := heap_cell (j := 0) hg4 rfl
  obtain ⟨c1, _⟩ := heap_cell (j := 1) hg4 rfl
  clear b3 hg4
  go_wp2_with fail
  refine (Text6_calls 0 281470698652420 (by omega) (by omega) _ ⟨hP.out.stays B3.out⟩ ⟨hT.out.stays B3.out⟩).mono ?_
  rintro e w4 ⟨rfl, b4⟩
  have B4 := Aside0.mk (below_then B3.out B3.out.size b4)
  rw [pcs_x1, text_x1]
  clear b4 c0 c1
  go_wp2_with fail
  have hs := SixOf_calls (some ⟨w4.heap.size, 0, none⟩) 4 [1, 0, 0, 2] (w4.alloc (.cells #[.int .u16 1, .int .u16 0, .int .u16 0, .int .u16 2] 102)) (by decide) (by decide) (fun _ => ⟨_, rfl, fun j v hv => by
    rw [Go.Proofs.YtplehdcnnaamkaaGreatDoorW.PrintWords.add_plain, World.cell?_alloc_new]
    exact (by simpa [u16s] using hv)⟩)
  rw [half_x.1, half_x.2, show ([1, 0, 0, 2] : List Int).length = 4 from rfl] at hs
  refine hs.mono ?_
  rintro e w5 ⟨rfl, b5⟩
  have B5 : Aside0 (Below w.heap.size w w5) := ⟨below_then (B4.out.alloc B4.out.size _) (by have := B4.out.size; simp; omega) b5⟩
  clear b5 hs
  go_wp2_with fail
  refine (Text6_calls 281474976710658 0 (by omega) (by omega) _ ⟨hP.out.stays B5.out⟩ ⟨hT.out.stays B5.out⟩).mono ?_
  rintro e w6 ⟨rfl, b6⟩
  have B6 := Aside0.mk (below_then B5.out B5.out.size b6)
  rw [pcs_x2, text_x2]
  clear b6
  go_wp2_with fail
  go_ret
  exact ⟨by simp, B6.out⟩
end Go.Proofs.YtplehdcnnaamkaaGreatDoor

/- Layer 6 is awake. -/
namespace Go.Proofs.YtplehdcnnaamkaaGreatDoor
open Go.RowKit Go.Proofs.YtplehdcnnaamkaaGreatDoorW.PrintWords Go.Proofs.YtplehdcnnaamkaaGreatDoorW.PrintMore

theorem ad_x1 : adOf [58, 58, 102, 102, 102, 102, 58, 55, 102, 48, 48, 58, 49] = some (true, 0, 281472812449793) := by decide +kernel
theorem ad_x2 : adOf [50, 48, 48, 50, 58, 55, 102, 48, 48, 58, 49, 58, 58] = some (true, 2306545597143908352, 0) := by decide +kernel
theorem in_x1 : inL4 0 281472812449793 = [2130706433] := by decide
theorem in_x2 : inL4 2306545597143908352 0 = [2130706433] := by decide
theorem AwakeL5_calls (w : World) (hE : Aside0 (Errs w)) (hM : Aside0 (Mx w)) (hP : Aside0 (Pows w)) (hT : Aside0 (Debr w)) : Calls Tryz.prog 139 #[] w fun e w' => e = .returned (.bool true) ∧ Below w.heap.size w w' := by
  go_enter Tryz.func139, Tryz.ntmps139
  go_wp2_with fail
  refine (awake5_calls _ hE hM hP hT).mono ?_
  rintro e w1 ⟨rfl, b1⟩
  go_wp2_with fail
  go_ret
  exact ⟨rfl, b1⟩
set_option maxHeartbeats 4000000 in
set_option maxRecDepth 100000 in
theorem awake6_calls (w : World) (hE : Aside0 (Errs w)) (hM : Aside0 (Mx w)) (hP : Aside0 (Pows w)) (hT : Aside0 (Debr w)) : Calls Tryz.prog 107 #[] w fun e w' => e = .returned (.bool true) ∧ Below w.heap.size w w' := by
  go_enter Tryz.func107, Tryz.ntmps107
  go_wp2_with fail
  refine (AdParse_calls _ _ (by decide) hE hM).mono ?_
  rw [show (ByteArray.mk #[58, 58, 102, 102, 102, 102, 58, 55, 102, 48, 48, 58, 49]).data.toList = [58, 58, 102, 102, 102, 102, 58, 55, 102, 48, 48, 58, 49] from rfl, ad_x1]
  simp only [adVo, adV, Option.isSome]
  rintro e w1 ⟨rfl, b1⟩
  have B1 := Aside0.mk b1
  clear b1
  go_wp2_with fail
  refine (AdParse_calls _ _ (by decide) ⟨hE.out.stays B1.out⟩ ⟨hM.out.stays B1.out⟩).mono ?_
  rw [show (ByteArray.mk #[50, 48, 48, 50, 58, 55, 102, 48, 48, 58, 49, 58, 58]).data.toList = [50, 48, 48, 50, 58, 55, 102, 48, 48, 58, 49, 58, 58] from rfl, ad_x2]
  simp only [adVo, adV, Option.isSome]
  rintro e w2 ⟨rfl, b2⟩
  have B2 := Aside0.mk (below_then B1.out B1.out.size b2)
  clear b2
  go_wp2_with fail
  refine (AwakeL5_calls _ ⟨hE.out.stays B2.out⟩ ⟨hM.out.stays B2.out⟩ ⟨hP.out.stays B2.out⟩ ⟨hT.out.stays B2.out⟩).mono ?_
  rintro e w3 ⟨rfl, b3⟩
  have B3 := Aside0.mk (below_then B2.out B2.out.size b3)
  clear b3
  go_wp2_with fail
  refine (Inner6_calls 0 281472812449793 (by omega) (by omega) _).mono ?_
  rw [in_x1]
  rintro e w4 ⟨v, rfl, hR, b4⟩
  have B4 := Aside0.mk (below_then B3.out B3.out.size b4)
  obtain ⟨A, c, rfl, hcap, hC⟩ := Kd.R_reads hR
  simp only [List.length_cons, List.length_nil, Nat.zero_add]
  have HC := Aside0.mk hC
  clear hR hC b4
  go_wp2_with fail
  refine (EqualF_calls [2130706433] [2130706433] 1 1 rfl rfl A (some ⟨w4.heap.size, 0, none⟩) c 1 _ (by omega) (fun j hj => C_kget (Kd.C_alloc HC.out _) j hj) (fun j hj => C_kget (C_new .u32 w4 [2130706433] _ (by decide)) j hj)).mono ?_
  rw [show decide (([2130706433] : List Int) = [2130706433]) = true from rfl]
  rintro e w5 ⟨rfl, b5⟩
  have B5 : Aside0 (Below w.heap.size w w5) := ⟨below_then (B4.out.alloc B4.out.size _) (by have := B4.out.size; simp; omega) b5⟩
  clear b5 HC hcap
  go_wp2_with fail
  refine (Inner6_calls 2306545597143908352 0 (by omega) (by omega) _).mono ?_
  rw [in_x2]
  rintro e w6 ⟨v, rfl, hR, b6⟩
  have B6 := Aside0.mk (below_then B5.out B5.out.size b6)
  obtain ⟨A2, c2, rfl, hcap, hC⟩ := Kd.R_reads hR
  simp only [List.length_cons, List.length_nil, Nat.zero_add]
  have HC := Aside0.mk hC
  clear hR hC b6
  go_wp2_with fail
  refine (EqualF_calls [2130706433] [2130706433] 1 1 rfl rfl A2 (some ⟨w6.heap.size, 0, none⟩) c2 1 _ (by omega) (fun j hj => C_kget (Kd.C_alloc HC.out _) j hj) (fun j hj => C_kget (C_new .u32 w6 [2130706433] _ (by decide)) j hj)).mono ?_
  rw [show decide (([2130706433] : List Int) = [2130706433]) = true from rfl]
  rintro e w7 ⟨rfl, b7⟩
  have B7 : Aside0 (Below w.heap.size w w7) := ⟨below_then (B6.out.alloc B6.out.size _) (by have := B6.out.size; simp; omega) b7⟩
  clear b7
  go_wp2_with fail
  go_ret
  exact ⟨rfl, B7.out⟩
end Go.Proofs.YtplehdcnnaamkaaGreatDoor

/- Layer 7 is awake. -/
namespace Go.Proofs.YtplehdcnnaamkaaGreatDoor
open Go.RowKit Go.Proofs.YtplehdcnnaamkaaGreatDoorW.PrintWords Go.Proofs.YtplehdcnnaamkaaGreatDoorW.PrintMore

theorem pf_x1 : pfOf [49, 48, 46, 48, 46, 48, 46, 48, 47, 56] = some (0, 281470849515520, 104) := by decide +kernel
theorem ad_x3 : adOf [49, 48, 46, 49, 46, 50, 46, 51] = some (false, 0, 167838211) := by decide +kernel
theorem ad_x4 : adOf [58, 58, 102, 102, 102, 102, 58, 49, 48, 46, 49, 46, 50, 46, 51] = some (true, 0, 281470849581571) := by decide +kernel
theorem ad_x5 : adOf [49, 49, 46, 49, 46, 50, 46, 51] = some (false, 0, 184615427) := by decide +kernel
theorem has_x1 : hasO 0 281470849515520 104 (some (false, 0, 167838211)) = true := by decide +kernel
theorem has_x2 : hasO 0 281470849515520 104 (some (true, 0, 281470849581571)) = true := by decide +kernel
theorem has_x3 : hasO 0 281470849515520 104 (some (false, 0, 184615427)) = false := by decide +kernel
theorem AwakeL6_calls (w : World) (hE : Aside0 (Errs w)) (hM : Aside0 (Mx w)) (hP : Aside0 (Pows w)) (hT : Aside0 (Debr w)) : Calls Tryz.prog 62 #[] w fun e w' => e = .returned (.bool true) ∧ Below w.heap.size w w' := by
  go_enter Tryz.func62, Tryz.ntmps62
  go_wp2_with fail
  refine (awake6_calls _ hE hM hP hT).mono ?_
  rintro e w1 ⟨rfl, b1⟩
  go_wp2_with fail
  go_ret
  exact ⟨rfl, b1⟩
theorem ok_some (a : Bool × Int × Int) (h : adOk a) : ∀ b, some a = some b → adOk b := fun b e => by rw [← Option.some.inj e]; exact h
set_option maxHeartbeats 4000000 in
set_option maxRecDepth 100000 in
theorem awake7_calls (w : World) (hE : Aside0 (Errs w)) (hM : Aside0 (Mx w)) (hP : Aside0 (Pows w)) (hT : Aside0 (Debr w)) : Calls Tryz.prog 15 #[] w fun e w' => e = .returned (.bool true) ∧ Below w.heap.size w w' := by
  go_enter Tryz.func15, Tryz.ntmps15
  go_wp2_with fail
  refine (PfParse_calls _ _ (by decide) hE hM).mono ?_
  rw [show (ByteArray.mk #[49, 48, 46, 48, 46, 48, 46, 48, 47, 56]).data.toList = [49, 48, 46, 48, 46, 48, 46, 48, 47, 56] from rfl, pf_x1]
  simp only [pfV, Option.isSome]
  rintro e w1 ⟨rfl, b1⟩
  obtain ⟨W1, hW1⟩ : ∃ W1, W1 = w1.alloc (.cells #[.int .u64 0, .int .u64 281470849515520, .int .i64 104] 25) := ⟨_, rfl⟩
  obtain ⟨hg1, hl1, hb1⟩ := box3 hW1
  have HW1 := Lib.hid hW1
  have HG1 := Aside0.mk hg1
  have B1 := Aside0.mk (below_then b1 b1.size hb1)
  clear hW1 hg1 b1 hb1
  go_wp2_with fail
  rw [← HW1.out]
  refine (AdParse_calls _ _ (by decide) ⟨hE.out.stays B1.out⟩ ⟨hM.out.stays B1.out⟩).mono ?_
  rw [show (ByteArray.mk #[49, 48, 46, 49, 46, 50, 46, 51]).data.toList = [49, 48, 46, 49, 46, 50, 46, 51] from rfl, ad_x3]
  simp only [adVo, adV, Option.isSome]
  rintro e w2 ⟨rfl, b2⟩
  have HG2 := Aside0.mk ((b2.block _ hl1).trans HG1.out)
  have hl2 := Nat.lt_of_lt_of_le hl1 b2.size
  have B2 := Aside0.mk (below_then B1.out B1.out.size b2)
  clear b2
  go_wp2_with fail
  refine (AdParse_calls _ _ (by decide) ⟨hE.out.stays B2.out⟩ ⟨hM.out.stays B2.out⟩).mono ?_
  rw [show (ByteArray.mk #[58, 58, 102, 102, 102, 102, 58, 49, 48, 46, 49, 46, 50, 46, 51]).data.toList = [58, 58, 102, 102, 102, 102, 58, 49, 48, 46, 49, 46, 50, 46, 51] from rfl, ad_x4]
  simp only [adVo, adV, Option.isSome]
  rintro e w3 ⟨rfl, b3⟩
  have HG3 := Aside0.mk ((b3.block _ hl2).trans HG2.out)
  have hl3 := Nat.lt_of_lt_of_le hl2 b3.size
  have B3 := Aside0.mk (below_then B2.out B2.out.size b3)
  clear b3
  go_wp2_with fail
  refine (AdParse_calls _ _ (by decide) ⟨hE.out.stays B3.out⟩ ⟨hM.out.stays B3.out⟩).mono ?_
  rw [show (ByteArray.mk #[49, 49, 46, 49, 46, 50, 46, 51]).data.toList = [49, 49, 46, 49, 46, 50, 46, 51] from rfl, ad_x5]
  simp only [adVo, adV, Option.isSome]
  rintro e w4 ⟨rfl, b4⟩
  have HG4 := Aside0.mk ((b4.block _ hl3).trans HG3.out)
  have hl4 := Nat.lt_of_lt_of_le hl3 b4.size
  have B4 := Aside0.mk (below_then B3.out B3.out.size b4)
  clear b4
  go_wp2_with fail
  refine (AwakeL6_calls _ ⟨hE.out.stays B4.out⟩ ⟨hM.out.stays B4.out⟩ ⟨hP.out.stays B4.out⟩ ⟨hT.out.stays B4.out⟩).mono ?_
  rintro e w5 ⟨rfl, b5⟩
  have HG5 := Aside0.mk ((b5.block _ hl4).trans HG4.out)
  have hl5 := Nat.lt_of_lt_of_le hl4 b5.size
  have B5 := Aside0.mk (below_then B4.out B4.out.size b5)
  have hg5 := HG5.out
  obtain ⟨k0, _⟩ := heap_cell (j := 0) hg5 rfl
  obtain ⟨k1, _⟩ := heap_cell (j := 1) hg5 rfl
  obtain ⟨k2, _⟩ := heap_cell (j := 2) hg5 rfl
  clear b5 hg5
  go_wp2_with fail
  refine (PfHas_calls 0 281470849515520 104 (some (false, 0, 167838211)) (ok_some _ ⟨rfl, by omega, by omega⟩) (by omega) (by omega) _).mono ?_
  rw [has_x1]
  rintro e w6 ⟨rfl, b6⟩
  have HG6 := Aside0.mk ((b6.block _ hl5).trans HG5.out)
  have hl6 := Nat.lt_of_lt_of_le hl5 b6.size
  have B6 := Aside0.mk (below_then B5.out B5.out.size b6)
  have hg6 := HG6.out
  clear k0 k1 k2
  obtain ⟨k0, _⟩ := heap_cell (j := 0) hg6 rfl
  obtain ⟨k1, _⟩ := heap_cell (j := 1) hg6 rfl
  obtain ⟨k2, _⟩ := heap_cell (j := 2) hg6 rfl
  clear b6 hg6
  go_wp2_with fail
  refine (PfHas_calls 0 281470849515520 104 (some (true, 0, 281470849581571)) (ok_some _ ⟨by omega, by omega⟩) (by omega) (by omega) _).mono ?_
  rw [has_x2]
  rintro e w7 ⟨rfl, b7⟩
  have HG7 := Aside0.mk ((b7.block _ hl6).trans HG6.out)
  have B7 := Aside0.mk (below_then B6.out B6.out.size b7)
  have hg7 := HG7.out
  clear k0 k1 k2
  obtain ⟨k0, _⟩ := heap_cell (j := 0) hg7 rfl
  obtain ⟨k1, _⟩ := heap_cell (j := 1) hg7 rfl
  obtain ⟨k2, _⟩ := heap_cell (j := 2) hg7 rfl
  clear b7 hg7
  go_wp2_with fail
  refine (PfHas_calls 0 281470849515520 104 (some (false, 0, 184615427)) (ok_some _ ⟨rfl, by omega, by omega⟩) (by omega) (by omega) _).mono ?_
  rw [has_x3]
  rintro e w8 ⟨rfl, b8⟩
  have B8 := Aside0.mk (below_then B7.out B7.out.size b8)
  clear b8
  go_wp2_with fail
  go_ret
  exact ⟨rfl, B8.out⟩
end Go.Proofs.YtplehdcnnaamkaaGreatDoor

/- The law PrefixNests, walked. -/
namespace Go.Proofs.YtplehdcnnaamkaaGreatDoor
open Go.RowKit Go.Proofs.YtplehdcnnaamkaaGreatDoorW.PrintWords Go.Proofs.YtplehdcnnaamkaaGreatDoorW.PrintMore

theorem ofP_some (a : Bool × Int × Int) (n : Nat) (h : n ≤ 128) : ofP (some a) n = .agg #[.int .u64 (mHi (adHi a) n), .int .u64 (mLo (adLo a) n), .int .i64 n] ∧ ofPok (some a) n = true := by
  refine ⟨?_, decide_eq_true (by omega)⟩
  rw [ofP, ofV, if_pos (by omega), Int.toNat_natCast]
end Go.Proofs.YtplehdcnnaamkaaGreatDoor

/- The law PrefixHalves, walked. -/
namespace Go.Proofs.YtplehdcnnaamkaaGreatDoor
open Go.RowKit Go.Proofs.YtplehdcnnaamkaaGreatDoorW.PrintWords Go.Proofs.YtplehdcnnaamkaaGreatDoorW.PrintMore

theorem heap_lt {w : World} {g : Nat} {o : Obj} (h : w.heap[g]? = some o) : g < w.heap.size := (Array.getElem?_eq_some_iff.1 h).1
theorem or_flHi (x : Int) (k : Nat) (h : k < 64) (hx : 0 ≤ x ∧ x < 18446744073709551616) (y : Int) (hz : pBit x y k = 0) : bits .or .u64 x (IntKind.u64.wrap (2 ^ (63 - k))) = flHi x k ∧ flLo y k = y := by
  rw [pBit, if_pos h] at hz
  have hp : (2 : Int) ^ (63 - k) < 18446744073709551616 := by
    have : 2 ^ (63 - k) < 2 ^ 64 := Nat.pow_lt_pow_right (by omega) (by omega)
    have h2 : ((2 ^ (63 - k) : Nat) : Int) = (2 : Int) ^ (63 - k) := by rw [Int.natCast_pow]; rfl
    omega
  have := pow64 (63 - k)
  rw [show ∀ n, IntKind.u64.wrap n = n % 18446744073709551616 from fun n => by simp [IntKind.wrap, IntKind.signed, IntKind.bits], Int.emod_eq_of_lt (by omega) hp, (or_bit x (63 - k) (by omega) hx hz).1, flHi, if_pos h, flLo, if_pos h]
  exact ⟨rfl, rfl⟩
theorem or_flLo (y : Int) (k : Nat) (h : ¬ k < 64) (hk : k < 128) (hy : 0 ≤ y ∧ y < 18446744073709551616) (x : Int) (hz : pBit x y k = 0) : bits .or .u64 y (IntKind.u64.wrap (2 ^ (127 - k))) = flLo y k ∧ flHi x k = x := by
  rw [pBit, if_neg h] at hz
  have hp : (2 : Int) ^ (127 - k) < 18446744073709551616 := by
    have : 2 ^ (127 - k) < 2 ^ 64 := Nat.pow_lt_pow_right (by omega) (by omega)
    have h2 : ((2 ^ (127 - k) : Nat) : Int) = (2 : Int) ^ (127 - k) := by rw [Int.natCast_pow]; rfl
    omega
  have := pow64 (127 - k)
  rw [show ∀ n, IntKind.u64.wrap n = n % 18446744073709551616 from fun n => by simp [IntKind.wrap, IntKind.signed, IntKind.bits], Int.emod_eq_of_lt (by omega) hp, (or_bit y (127 - k) (by omega) hy hz).1, flLo, if_neg h, flHi, if_neg h]
  exact ⟨rfl, rfl⟩
set_option maxHeartbeats 32000000 in
set_option maxRecDepth 100000 in
theorem PrefixHalves_law (hi lo other low : Int) (n : Nat) (hn : n < 256) (h0 : 0 ≤ hi ∧ hi < 18446744073709551616) (h1 : 0 ≤ lo ∧ lo < 18446744073709551616) (h2 : 0 ≤ other ∧ other < 18446744073709551616) (h3 : 0 ≤ low ∧ low < 18446744073709551616)
    (w : World) (hP : Aside0 (Pows w)) (hT : Aside0 (Debr w)) (hE : Aside0 (Errs w)) (hM : Aside0 (Mx w)) :
    Calls Tryz.prog 4 #[.int .u64 hi, .int .u64 lo, .int .u64 other, .int .u64 low, .int .u8 n] w fun e w' => e = .returned (.bool true) ∧ Below w.heap.size w w' := by
  obtain ⟨k, hk_⟩ : ∃ k : Nat, k = n % 128 := ⟨_, rfl⟩
  have hk8 : k < 128 := by omega
  have t1 : (n : Int).tmod 128 = (k : Int) := by rw [Int.tmod_eq_emod_of_nonneg (by omega)]; omega
  have t3 : (n : Int) % 128 = (k : Int) := by omega
  clear hk_
  have OA := Aside0.mk (PfOf_calls (some (true, hi, lo)) (ok_some _ ⟨h0, h1⟩) k)
  rw [(ofP_some _ k (by omega)).1, (ofP_some _ k (by omega)).2] at OA
  simp only [adVo, adV, adHi, adLo] at OA
  have bp0 := mHi_bd hi k h0
  have bp1 := mLo_bd lo k h1
  have hr := right_mask hi lo k (by omega) h0 h1
  generalize mHi hi k = p0 at OA bp0 hr
  generalize mLo lo k = p1 at OA bp1 hr
  have hz := ((rightP_iff _ _ _ bp0 bp1).1 hr).2 k (Nat.le_refl _) hk8
  obtain ⟨bf0, bf1⟩ := fl_bd p0 p1 k hk8 bp0 bp1 hz
  have OQ := Aside0.mk (PfOf_calls (some (true, p0, p1)) (ok_some _ ⟨bp0, bp1⟩) ((k + 1 : Nat) : Int))
  have OS := Aside0.mk (PfOf_calls (some (true, flHi p0 k, flLo p1 k)) (ok_some _ ⟨bf0, bf1⟩) ((k + 1 : Nat) : Int))
  rw [(ofP_some _ (k + 1) (by omega)).1, (ofP_some _ (k + 1) (by omega)).2] at OQ OS
  simp only [adVo, adV, adHi, adLo] at OQ OS
  obtain ⟨m0, m1⟩ := right_masks _ _ _ (right_more p0 p1 k hk8 bp0 bp1 hr)
  obtain ⟨m2, m3⟩ := right_masks _ _ _ (right_flip p0 p1 k hk8 bp0 bp1 hr)
  rw [m0, m1] at OQ
  rw [m2, m3] at OS
  clear m0 m1 m2 m3
  obtain ⟨c1, c2, c3, c4, c5, c6⟩ := halves_cover p0 p1 k hk8 bp0 bp1 hr
  have C1 := Aside0.mk (PfCovers_calls p0 p1 k p0 p1 ((k + 1 : Nat) : Int) bp0 bp1 bp0 bp1)
  have C2 := Aside0.mk (PfCovers_calls p0 p1 k (flHi p0 k) (flLo p1 k) ((k + 1 : Nat) : Int) bp0 bp1 bf0 bf1)
  have C3 := Aside0.mk (PfCovers_calls p0 p1 ((k + 1 : Nat) : Int) (flHi p0 k) (flLo p1 k) ((k + 1 : Nat) : Int) bp0 bp1 bf0 bf1)
  have C4 := Aside0.mk (PfCovers_calls (flHi p0 k) (flLo p1 k) ((k + 1 : Nat) : Int) p0 p1 ((k + 1 : Nat) : Int) bf0 bf1 bp0 bp1)
  have D1 := Aside0.mk (Bit_calls p0 p1 ((k + 1 : Nat) : Int) k hk8 bp0 bp1)
  have D2 := Aside0.mk (Bit_calls (flHi p0 k) (flLo p1 k) ((k + 1 : Nat) : Int) k hk8 bf0 bf1)
  rw [c1] at C1
  rw [c2] at C2
  rw [c3] at C3
  rw [c4] at C4
  rw [c5] at D1
  rw [c6] at D2
  clear c1 c2 c3 c4 c5 c6
  have HX : Aside0 (∀ c d : Int, 0 ≤ c ∧ c < 18446744073709551616 → 0 ≤ d ∧ d < 18446744073709551616 → ∃ a b : Bool, (a && b) = false ∧
      (∀ W : World, Calls Tryz.prog 21 #[.agg #[.int .u64 p0, .int .u64 p1, .int .i64 k], .iface 34 (.agg #[.int .u64 c, .int .u64 d])] W fun e w' => e = .returned (.bool (a || b)) ∧ Below W.heap.size W w') ∧
      (∀ W : World, Calls Tryz.prog 21 #[.agg #[.int .u64 p0, .int .u64 p1, .int .i64 ((k : Int) + 1)], .iface 34 (.agg #[.int .u64 c, .int .u64 d])] W fun e w' => e = .returned (.bool a) ∧ Below W.heap.size W w') ∧
      (∀ W : World, Calls Tryz.prog 21 #[.agg #[.int .u64 (flHi p0 k), .int .u64 (flLo p1 k), .int .i64 ((k : Int) + 1)], .iface 34 (.agg #[.int .u64 c, .int .u64 d])] W fun e w' => e = .returned (.bool b) ∧ Below W.heap.size W w')) := ⟨fun c d hc hd => by
    obtain ⟨e1, e2⟩ := halves_has p0 p1 c d k hk8 bp0 bp1 hc hd hr
    refine ⟨_, _, e2, fun W => ?_, PfHas_calls p0 p1 ((k + 1 : Nat) : Int) (some (true, c, d)) (ok_some _ ⟨hc, hd⟩) bp0 bp1, PfHas_calls (flHi p0 k) (flLo p1 k) ((k + 1 : Nat) : Int) (some (true, c, d)) (ok_some _ ⟨hc, hd⟩) bf0 bf1⟩
    have := PfHas_calls p0 p1 k (some (true, c, d)) (ok_some _ ⟨hc, hd⟩) bp0 bp1 W
    rw [← e1]
    exact this⟩
  have ek : ((k + 1 : Nat) : Int) = (k : Int) + 1 := rfl
  rw [ek] at OQ OS C1 C2 C3 C4 D1 D2
  clear ek
  have OR : Aside0 ((k < 64 → bits .or .u64 p0 (IntKind.u64.wrap (2 ^ (63 - k))) = flHi p0 k ∧ flLo p1 k = p1) ∧ (¬ k < 64 → bits .or .u64 p1 (IntKind.u64.wrap (2 ^ (127 - k))) = flLo p1 k ∧ flHi p0 k = p0)) := ⟨fun h => or_flHi p0 k h bp0 p1 hz, fun h => or_flLo p1 k h hk8 bp1 p0 hz⟩
  clear hr hz
  generalize flHi p0 k = f0 at OS C2 C3 C4 D2 HX OR bf0
  generalize flLo p1 k = f1 at OS C2 C3 C4 D2 HX OR bf1
  have B0 := Aside0.mk (Below.refl w.heap.size w)
  go_enter Tryz.func4, Tryz.ntmps4
  go_wp2_with fail
  refine (awake7_calls _ hE hM hP hT).mono ?_
  rintro e w_1 ⟨rfl, hb_1⟩
  have BB_2 := Aside0.mk (below_then B0.out B0.out.size hb_1)
  clear hb_1
  go_wp2_with fail
  refine (OA.out _).mono ?_
  rintro e w_3 ⟨rfl, hb_3⟩
  have BB_4 := Aside0.mk (below_then BB_2.out BB_2.out.size hb_3)
  clear BB_2 hb_3
  have BBZ := Aside0.mk BB_4.out
  obtain ⟨W_5, hW_5⟩ : ∃ W_5, W_5 = w_3.alloc (.cells #[.int .u64 p0, .int .u64 p1, .int .i64 k] 25) := ⟨_, rfl⟩
  obtain ⟨hg_5, hl_5, hb_5⟩ := boxN hW_5
  obtain ⟨gp, hgg_5⟩ : ∃ gp, gp = w_3.heap.size := ⟨_, rfl⟩
  rw [← hgg_5] at hg_5 hl_5
  have HAp := Aside0.mk hg_5
  have LAp := hl_5
  have HGG_5 := Lib.hid hgg_5
  have HWW_5 := Lib.hid hW_5
  clear hW_5 hgg_5 hg_5 hl_5
  have BB_6 := Aside0.mk (below_then BB_4.out BB_4.out.size hb_5)
  clear BB_4 hb_5
  obtain ⟨W_7, hW_7⟩ : ∃ W_7, W_7 = W_5.alloc (.cells #[.int .u64 p0, .int .u64 p1] 34) := ⟨_, rfl⟩
  obtain ⟨hg_7, hl_7, hb_7⟩ := boxN hW_7
  obtain ⟨gz, hgg_7⟩ : ∃ gz, gz = w_3.heap.size + 1 := ⟨_, rfl⟩
  rw [show W_5.heap.size = w_3.heap.size + 1 by rw [HWW_5.out]; simp] at hg_7 hl_7
  rw [← hgg_7] at hg_7 hl_7
  have HAz := Aside0.mk hg_7
  have LAz := hl_7
  have HGG_7 := Lib.hid hgg_7
  have HWW_7 := Lib.hid hW_7
  clear hW_7 hgg_7 hg_7 hl_7
  have Hp_8 := Aside0.mk ((hb_7.block _ LAp).trans HAp.out)
  have lp_8 := Nat.lt_of_lt_of_le LAp hb_7.size
  have BB_8 := Aside0.mk (below_then BB_6.out BB_6.out.size hb_7)
  clear HAp LAp BB_6 hb_7
  have HGZ := HGG_7
  have hxp := Hp_8.out
  obtain ⟨kp0, fp0⟩ := heap_cell (j := 0) hxp rfl
  obtain ⟨kp1, fp1⟩ := heap_cell (j := 1) hxp rfl
  obtain ⟨kp2, fp2⟩ := heap_cell (j := 2) hxp rfl
  clear hxp
  have hxz := HAz.out
  obtain ⟨kz0, fz0⟩ := heap_cell (j := 0) hxz rfl
  obtain ⟨kz1, fz1⟩ := heap_cell (j := 1) hxz rfl
  clear hxz
  rw [HWW_7.out, HWW_5.out] at kp0 fp0 kp1 fp1 kp2 fp2 kz0 fz0 kz1 fz1
  go_upto_if 41 with (fail)
  try rw [← HWW_5.out]
  try rw [← HWW_7.out]
  try rw [← HGG_7.out]
  try rw [← HGG_5.out]
  clear kp0 fp0 kp1 fp1 kp2 fp2 kz0 fz0 kz1 fz1
  have NZ1 : gp ≠ gz := fun e => by
    have h1 := Hp_8.out
    rw [e, HAz.out] at h1
    cases h1
  have NZ : Aside0 (gp ≠ gz ∧ w.heap.size ≤ gz) := ⟨And.intro NZ1 (by rw [HGZ.out]; have := BBZ.out.size; omega)⟩
  clear NZ1
  go_cut [] from 42 (fun wx => Aside0 (wx.heap[gp]? = some (.cells #[.int .u64 p0, .int .u64 p1, .int .i64 k] 25 (0, 0))) ∧ Aside0 (wx.heap[gz]? = some (.cells #[.int .u64 f0, .int .u64 f1] 34 (0, 0))) ∧ Aside0 (Below w.heap.size w wx))
  case first =>
    by_cases h6 : k < 64
    · obtain ⟨o1, o2⟩ := OR.out.1 h6
      have O2 := Lib.hid o2
      clear o2
      have hxz := HAz.out
      obtain ⟨kz0, fz0⟩ := heap_cell (j := 0) hxz rfl
      obtain ⟨kz1, fz1⟩ := heap_cell (j := 1) hxz rfl
      clear hxz
      go_wp2_with fail
      go_region
      all_goals
        go_wp2_with fail
        go_meet
        case rel => exact ⟨⟨(Below.heap_setCell _ _ _ _ NZ.out.1).trans Hp_8.out⟩, ⟨by rw [O2.out]; exact heap_setN _ HAz.out⟩, ⟨(BB_8.out.setCell NZ.out.2 _).drew⟩⟩
    · obtain ⟨o1, o2⟩ := OR.out.2 h6
      have O2 := Lib.hid o2
      clear o2
      have hxz := HAz.out
      obtain ⟨kz0, fz0⟩ := heap_cell (j := 0) hxz rfl
      obtain ⟨kz1, fz1⟩ := heap_cell (j := 1) hxz rfl
      clear hxz
      go_wp2_with fail
      go_region
      all_goals
        go_wp2_with fail
        go_meet
        case rel => exact ⟨⟨(Below.heap_setCell _ _ _ _ NZ.out.1).trans Hp_8.out⟩, ⟨by rw [O2.out]; exact heap_setN _ HAz.out⟩, ⟨(BB_8.out.setCell NZ.out.2 _).drew⟩⟩
  case rest =>
    obtain ⟨HPc, HZc, HBc⟩ := hcut
    have lpc := heap_lt HPc.out
    have lzc := heap_lt HZc.out
    clear Hp_8 lp_8 HAz LAz
    have hxp := HPc.out
    obtain ⟨kp0, fp0⟩ := heap_cell (j := 0) hxp rfl
    obtain ⟨kp1, fp1⟩ := heap_cell (j := 1) hxp rfl
    obtain ⟨kp2, fp2⟩ := heap_cell (j := 2) hxp rfl
    clear hxp
    go_wp2_with fail
    clear kp0 fp0 kp1 fp1 kp2 fp2
    refine (OQ.out _).mono ?_
    rintro e w_9 ⟨rfl, hb_9⟩
    have Hp_10 := Aside0.mk ((hb_9.block _ lpc).trans HPc.out)
    have lp_10 := Nat.lt_of_lt_of_le lpc hb_9.size
    have Hz_10 := Aside0.mk ((hb_9.block _ lzc).trans HZc.out)
    have lz_10 := Nat.lt_of_lt_of_le lzc hb_9.size
    have BB_10 := Aside0.mk (below_then HBc.out HBc.out.size hb_9)
    clear HPc lpc HZc lzc HBc hb_9
    obtain ⟨W_11, hW_11⟩ : ∃ W_11, W_11 = w_9.alloc (.cells #[.int .u64 p0, .int .u64 p1, .int .i64 ((k : Int) + 1)] 25) := ⟨_, rfl⟩
    obtain ⟨hg_11, hl_11, hb_11⟩ := boxN hW_11
    obtain ⟨gq, hgg_11⟩ : ∃ gq, gq = w_9.heap.size := ⟨_, rfl⟩
    rw [← hgg_11] at hg_11 hl_11
    have HAq := Aside0.mk hg_11
    have LAq := hl_11
    have HGG_11 := Lib.hid hgg_11
    have HWW_11 := Lib.hid hW_11
    clear hW_11 hgg_11 hg_11 hl_11
    have Hp_12 := Aside0.mk ((hb_11.block _ lp_10).trans Hp_10.out)
    have lp_12 := Nat.lt_of_lt_of_le lp_10 hb_11.size
    have Hz_12 := Aside0.mk ((hb_11.block _ lz_10).trans Hz_10.out)
    have lz_12 := Nat.lt_of_lt_of_le lz_10 hb_11.size
    have BB_12 := Aside0.mk (below_then BB_10.out BB_10.out.size hb_11)
    clear Hp_10 lp_10 Hz_10 lz_10 BB_10 hb_11
    have hxz := Hz_12.out
    obtain ⟨kz0, fz0⟩ := heap_cell (j := 0) hxz rfl
    obtain ⟨kz1, fz1⟩ := heap_cell (j := 1) hxz rfl
    clear hxz
    rw [HWW_11.out] at kz0 fz0 kz1 fz1
    go_wp2_with fail
    try rw [← HWW_11.out]
    try rw [← HGG_11.out]
    clear kz0 fz0 kz1 fz1
    refine (OS.out _).mono ?_
    rintro e w_13 ⟨rfl, hb_13⟩
    have Hp_14 := Aside0.mk ((hb_13.block _ lp_12).trans Hp_12.out)
    have lp_14 := Nat.lt_of_lt_of_le lp_12 hb_13.size
    have Hz_14 := Aside0.mk ((hb_13.block _ lz_12).trans Hz_12.out)
    have lz_14 := Nat.lt_of_lt_of_le lz_12 hb_13.size
    have Hq_14 := Aside0.mk ((hb_13.block _ LAq).trans HAq.out)
    have lq_14 := Nat.lt_of_lt_of_le LAq hb_13.size
    have BB_14 := Aside0.mk (below_then BB_12.out BB_12.out.size hb_13)
    clear Hp_12 lp_12 Hz_12 lz_12 HAq LAq BB_12 hb_13
    obtain ⟨W_15, hW_15⟩ : ∃ W_15, W_15 = w_13.alloc (.cells #[.int .u64 f0, .int .u64 f1, .int .i64 ((k : Int) + 1)] 25) := ⟨_, rfl⟩
    obtain ⟨hg_15, hl_15, hb_15⟩ := boxN hW_15
    obtain ⟨gr, hgg_15⟩ : ∃ gr, gr = w_13.heap.size := ⟨_, rfl⟩
    rw [← hgg_15] at hg_15 hl_15
    have HAr := Aside0.mk hg_15
    have LAr := hl_15
    have HGG_15 := Lib.hid hgg_15
    have HWW_15 := Lib.hid hW_15
    clear hW_15 hgg_15 hg_15 hl_15
    have Hp_16 := Aside0.mk ((hb_15.block _ lp_14).trans Hp_14.out)
    have lp_16 := Nat.lt_of_lt_of_le lp_14 hb_15.size
    have Hz_16 := Aside0.mk ((hb_15.block _ lz_14).trans Hz_14.out)
    have lz_16 := Nat.lt_of_lt_of_le lz_14 hb_15.size
    have Hq_16 := Aside0.mk ((hb_15.block _ lq_14).trans Hq_14.out)
    have lq_16 := Nat.lt_of_lt_of_le lq_14 hb_15.size
    have BB_16 := Aside0.mk (below_then BB_14.out BB_14.out.size hb_15)
    clear Hp_14 lp_14 Hz_14 lz_14 Hq_14 lq_14 BB_14 hb_15
    have hxp := Hp_16.out
    obtain ⟨kp0, fp0⟩ := heap_cell (j := 0) hxp rfl
    obtain ⟨kp1, fp1⟩ := heap_cell (j := 1) hxp rfl
    obtain ⟨kp2, fp2⟩ := heap_cell (j := 2) hxp rfl
    clear hxp
    have hxq := Hq_16.out
    obtain ⟨kq0, fq0⟩ := heap_cell (j := 0) hxq rfl
    obtain ⟨kq1, fq1⟩ := heap_cell (j := 1) hxq rfl
    obtain ⟨kq2, fq2⟩ := heap_cell (j := 2) hxq rfl
    clear hxq
    rw [HWW_15.out] at kp0 fp0 kp1 fp1 kp2 fp2 kq0 fq0 kq1 fq1 kq2 fq2
    go_wp2_with fail
    try rw [← HWW_15.out]
    try rw [← HGG_15.out]
    clear kp0 fp0 kp1 fp1 kp2 fp2 kq0 fq0 kq1 fq1 kq2 fq2
    refine (C1.out _).mono ?_
    rintro e w_17 ⟨rfl, hb_17⟩
    have Hp_18 := Aside0.mk ((hb_17.block _ lp_16).trans Hp_16.out)
    have lp_18 := Nat.lt_of_lt_of_le lp_16 hb_17.size
    have Hz_18 := Aside0.mk ((hb_17.block _ lz_16).trans Hz_16.out)
    have lz_18 := Nat.lt_of_lt_of_le lz_16 hb_17.size
    have Hq_18 := Aside0.mk ((hb_17.block _ lq_16).trans Hq_16.out)
    have lq_18 := Nat.lt_of_lt_of_le lq_16 hb_17.size
    have Hr_18 := Aside0.mk ((hb_17.block _ LAr).trans HAr.out)
    have lr_18 := Nat.lt_of_lt_of_le LAr hb_17.size
    have BB_18 := Aside0.mk (below_then BB_16.out BB_16.out.size hb_17)
    clear Hp_16 lp_16 Hz_16 lz_16 Hq_16 lq_16 HAr LAr BB_16 hb_17
    have hxp := Hp_18.out
    obtain ⟨kp0, fp0⟩ := heap_cell (j := 0) hxp rfl
    obtain ⟨kp1, fp1⟩ := heap_cell (j := 1) hxp rfl
    obtain ⟨kp2, fp2⟩ := heap_cell (j := 2) hxp rfl
    clear hxp
    have hxr := Hr_18.out
    obtain ⟨kr0, fr0⟩ := heap_cell (j := 0) hxr rfl
    obtain ⟨kr1, fr1⟩ := heap_cell (j := 1) hxr rfl
    obtain ⟨kr2, fr2⟩ := heap_cell (j := 2) hxr rfl
    clear hxr
    go_wp2_with fail
    clear kp0 fp0 kp1 fp1 kp2 fp2 kr0 fr0 kr1 fr1 kr2 fr2
    refine (C2.out _).mono ?_
    rintro e w_19 ⟨rfl, hb_19⟩
    have Hp_20 := Aside0.mk ((hb_19.block _ lp_18).trans Hp_18.out)
    have lp_20 := Nat.lt_of_lt_of_le lp_18 hb_19.size
    have Hz_20 := Aside0.mk ((hb_19.block _ lz_18).trans Hz_18.out)
    have lz_20 := Nat.lt_of_lt_of_le lz_18 hb_19.size
    have Hq_20 := Aside0.mk ((hb_19.block _ lq_18).trans Hq_18.out)
    have lq_20 := Nat.lt_of_lt_of_le lq_18 hb_19.size
    have Hr_20 := Aside0.mk ((hb_19.block _ lr_18).trans Hr_18.out)
    have lr_20 := Nat.lt_of_lt_of_le lr_18 hb_19.size
    have BB_20 := Aside0.mk (below_then BB_18.out BB_18.out.size hb_19)
    clear Hp_18 lp_18 Hz_18 lz_18 Hq_18 lq_18 Hr_18 lr_18 BB_18 hb_19
    have hxq := Hq_20.out
    obtain ⟨kq0, fq0⟩ := heap_cell (j := 0) hxq rfl
    obtain ⟨kq1, fq1⟩ := heap_cell (j := 1) hxq rfl
    obtain ⟨kq2, fq2⟩ := heap_cell (j := 2) hxq rfl
    clear hxq
    have hxr := Hr_20.out
    obtain ⟨kr0, fr0⟩ := heap_cell (j := 0) hxr rfl
    obtain ⟨kr1, fr1⟩ := heap_cell (j := 1) hxr rfl
    obtain ⟨kr2, fr2⟩ := heap_cell (j := 2) hxr rfl
    clear hxr
    go_wp2_with fail
    clear kq0 fq0 kq1 fq1 kq2 fq2 kr0 fr0 kr1 fr1 kr2 fr2
    refine (C3.out _).mono ?_
    rintro e w_21 ⟨rfl, hb_21⟩
    have Hp_22 := Aside0.mk ((hb_21.block _ lp_20).trans Hp_20.out)
    have lp_22 := Nat.lt_of_lt_of_le lp_20 hb_21.size
    have Hz_22 := Aside0.mk ((hb_21.block _ lz_20).trans Hz_20.out)
    have lz_22 := Nat.lt_of_lt_of_le lz_20 hb_21.size
    have Hq_22 := Aside0.mk ((hb_21.block _ lq_20).trans Hq_20.out)
    have lq_22 := Nat.lt_of_lt_of_le lq_20 hb_21.size
    have Hr_22 := Aside0.mk ((hb_21.block _ lr_20).trans Hr_20.out)
    have lr_22 := Nat.lt_of_lt_of_le lr_20 hb_21.size
    have BB_22 := Aside0.mk (below_then BB_20.out BB_20.out.size hb_21)
    clear Hp_20 lp_20 Hz_20 lz_20 Hq_20 lq_20 Hr_20 lr_20 BB_20 hb_21
    have hxq := Hq_22.out
    obtain ⟨kq0, fq0⟩ := heap_cell (j := 0) hxq rfl
    obtain ⟨kq1, fq1⟩ := heap_cell (j := 1) hxq rfl
    obtain ⟨kq2, fq2⟩ := heap_cell (j := 2) hxq rfl
    clear hxq
    have hxr := Hr_22.out
    obtain ⟨kr0, fr0⟩ := heap_cell (j := 0) hxr rfl
    obtain ⟨kr1, fr1⟩ := heap_cell (j := 1) hxr rfl
    obtain ⟨kr2, fr2⟩ := heap_cell (j := 2) hxr rfl
    clear hxr
    go_wp2_with fail
    clear kq0 fq0 kq1 fq1 kq2 fq2 kr0 fr0 kr1 fr1 kr2 fr2
    refine (C4.out _).mono ?_
    rintro e w_23 ⟨rfl, hb_23⟩
    have Hp_24 := Aside0.mk ((hb_23.block _ lp_22).trans Hp_22.out)
    have lp_24 := Nat.lt_of_lt_of_le lp_22 hb_23.size
    have Hz_24 := Aside0.mk ((hb_23.block _ lz_22).trans Hz_22.out)
    have lz_24 := Nat.lt_of_lt_of_le lz_22 hb_23.size
    have Hq_24 := Aside0.mk ((hb_23.block _ lq_22).trans Hq_22.out)
    have lq_24 := Nat.lt_of_lt_of_le lq_22 hb_23.size
    have Hr_24 := Aside0.mk ((hb_23.block _ lr_22).trans Hr_22.out)
    have lr_24 := Nat.lt_of_lt_of_le lr_22 hb_23.size
    have BB_24 := Aside0.mk (below_then BB_22.out BB_22.out.size hb_23)
    clear Hp_22 lp_22 Hz_22 lz_22 Hq_22 lq_22 Hr_22 lr_22 BB_22 hb_23
    have hxq := Hq_24.out
    obtain ⟨kq0, fq0⟩ := heap_cell (j := 0) hxq rfl
    obtain ⟨kq1, fq1⟩ := heap_cell (j := 1) hxq rfl
    obtain ⟨kq2, fq2⟩ := heap_cell (j := 2) hxq rfl
    clear hxq
    go_wp2_with fail
    clear kq0 fq0 kq1 fq1 kq2 fq2
    refine (D1.out _).mono ?_
    rintro e w_25 ⟨rfl, hb_25⟩
    have Hp_26 := Aside0.mk ((hb_25.block _ lp_24).trans Hp_24.out)
    have lp_26 := Nat.lt_of_lt_of_le lp_24 hb_25.size
    have Hz_26 := Aside0.mk ((hb_25.block _ lz_24).trans Hz_24.out)
    have lz_26 := Nat.lt_of_lt_of_le lz_24 hb_25.size
    have Hq_26 := Aside0.mk ((hb_25.block _ lq_24).trans Hq_24.out)
    have lq_26 := Nat.lt_of_lt_of_le lq_24 hb_25.size
    have Hr_26 := Aside0.mk ((hb_25.block _ lr_24).trans Hr_24.out)
    have lr_26 := Nat.lt_of_lt_of_le lr_24 hb_25.size
    have BB_26 := Aside0.mk (below_then BB_24.out BB_24.out.size hb_25)
    clear Hp_24 lp_24 Hz_24 lz_24 Hq_24 lq_24 Hr_24 lr_24 BB_24 hb_25
    have hxr := Hr_26.out
    obtain ⟨kr0, fr0⟩ := heap_cell (j := 0) hxr rfl
    obtain ⟨kr1, fr1⟩ := heap_cell (j := 1) hxr rfl
    obtain ⟨kr2, fr2⟩ := heap_cell (j := 2) hxr rfl
    clear hxr
    go_wp2_with fail
    clear kr0 fr0 kr1 fr1 kr2 fr2
    refine (D2.out _).mono ?_
    rintro e w_27 ⟨rfl, hb_27⟩
    have Hp_28 := Aside0.mk ((hb_27.block _ lp_26).trans Hp_26.out)
    have lp_28 := Nat.lt_of_lt_of_le lp_26 hb_27.size
    have Hz_28 := Aside0.mk ((hb_27.block _ lz_26).trans Hz_26.out)
    have lz_28 := Nat.lt_of_lt_of_le lz_26 hb_27.size
    have Hq_28 := Aside0.mk ((hb_27.block _ lq_26).trans Hq_26.out)
    have lq_28 := Nat.lt_of_lt_of_le lq_26 hb_27.size
    have Hr_28 := Aside0.mk ((hb_27.block _ lr_26).trans Hr_26.out)
    have lr_28 := Nat.lt_of_lt_of_le lr_26 hb_27.size
    have BB_28 := Aside0.mk (below_then BB_26.out BB_26.out.size hb_27)
    clear Hp_26 lp_26 Hz_26 lz_26 Hq_26 lq_26 Hr_26 lr_26 BB_26 hb_27
    have hxz := Hz_28.out
    obtain ⟨kz0, fz0⟩ := heap_cell (j := 0) hxz rfl
    obtain ⟨kz1, fz1⟩ := heap_cell (j := 1) hxz rfl
    clear hxz
    obtain ⟨W_29, hW_29⟩ : ∃ W_29, W_29 = w_27.alloc (.cells #[.int .u64 hi, .int .u64 lo, .int .u64 other, .int .u64 low, .int .u64 f0, .int .u64 f1] 34) := ⟨_, rfl⟩
    obtain ⟨hg_29, hl_29, hb_29⟩ := boxN hW_29
    obtain ⟨gs, hgg_29⟩ : ∃ gs, gs = w_27.heap.size := ⟨_, rfl⟩
    rw [← hgg_29] at hg_29 hl_29
    have HAs := Aside0.mk hg_29
    have LAs := hl_29
    have HGG_29 := Lib.hid hgg_29
    have HWW_29 := Lib.hid hW_29
    clear hW_29 hgg_29 hg_29 hl_29
    have Hp_30 := Aside0.mk ((hb_29.block _ lp_28).trans Hp_28.out)
    have lp_30 := Nat.lt_of_lt_of_le lp_28 hb_29.size
    have Hz_30 := Aside0.mk ((hb_29.block _ lz_28).trans Hz_28.out)
    have lz_30 := Nat.lt_of_lt_of_le lz_28 hb_29.size
    have Hq_30 := Aside0.mk ((hb_29.block _ lq_28).trans Hq_28.out)
    have lq_30 := Nat.lt_of_lt_of_le lq_28 hb_29.size
    have Hr_30 := Aside0.mk ((hb_29.block _ lr_28).trans Hr_28.out)
    have lr_30 := Nat.lt_of_lt_of_le lr_28 hb_29.size
    have BB_30 := Aside0.mk (below_then BB_28.out BB_28.out.size hb_29)
    clear Hp_28 lp_28 Hz_28 lz_28 Hq_28 lq_28 Hr_28 lr_28 BB_28 hb_29
    go_wp2_with fail
    try rw [← HWW_29.out]
    try rw [← HGG_29.out]
    clear kz0 fz0 kz1 fz1
    go_loopw [129] (fun x wr => ∃ j : Nat, x = .int .i64 j ∧ j ≤ 3 ∧ Aside0 (wr.heap[gp]? = some (.cells #[.int .u64 p0, .int .u64 p1, .int .i64 k] 25 (0, 0))) ∧ Aside0 (wr.heap[gq]? = some (.cells #[.int .u64 p0, .int .u64 p1, .int .i64 ((k : Int) + 1)] 25 (0, 0))) ∧ Aside0 (wr.heap[gr]? = some (.cells #[.int .u64 f0, .int .u64 f1, .int .i64 ((k : Int) + 1)] 25 (0, 0))) ∧ Aside0 (wr.heap[gs]? = some (.cells #[.int .u64 hi, .int .u64 lo, .int .u64 other, .int .u64 low, .int .u64 f0, .int .u64 f1] 34 (0, 0))) ∧ Aside0 (Below w.heap.size w wr)) (fun x _ => 3 - (intOf x).toNat)
    case atStart => exact ⟨0, rfl, by omega, Hp_30, Hq_30, Hr_30, HAs, BB_30⟩
    case round =>
      obtain ⟨j, rfl, hj, HPr, HQr, HRr, HSr, HBr⟩ := hrel
      by_cases hlt : j < 3
      · have lp := heap_lt HPr.out
        have lq := heap_lt HQr.out
        have lr := heap_lt HRr.out
        have ls := heap_lt HSr.out
        obtain ⟨c, d, hc, hd, e0, e1⟩ : ∃ c d : Int, (0 ≤ c ∧ c < 18446744073709551616) ∧ (0 ≤ d ∧ d < 18446744073709551616) ∧ wr.cell? ⟨gs, j * 2, none⟩ = some (.int .u64 c) ∧ wr.cell? ⟨gs, j * 2 + 1, none⟩ = some (.int .u64 d) := by
          have hs := HSr.out
          have hj3 : j = 0 ∨ j = 1 ∨ j = 2 := by omega
          rcases hj3 with rfl | rfl | rfl
          · exact ⟨hi, lo, h0, h1, (heap_cell (j := 0) hs rfl).1, (heap_cell (j := 1) hs rfl).1⟩
          · exact ⟨other, low, h2, h3, (heap_cell (j := 2) hs rfl).1, (heap_cell (j := 3) hs rfl).1⟩
          · exact ⟨f0, f1, bf0, bf1, (heap_cell (j := 4) hs rfl).1, (heap_cell (j := 5) hs rfl).1⟩
        obtain ⟨a, b, hab, X1, X2, X3⟩ := HX.out c d hc hd
        have Y1 := Aside0.mk X1
        have Y2 := Aside0.mk X2
        have Y3 := Aside0.mk X3
        clear X1 X2 X3
        have HE0 := Aside0.mk e0
        obtain ⟨W_101, hW_101⟩ : ∃ W_101, W_101 = wr.alloc (.cells #[.int .u64 c, .int .u64 d] 34) := ⟨_, rfl⟩
        obtain ⟨hg_101, hl_101, hb_101⟩ := boxN hW_101
        obtain ⟨gt, hgg_101⟩ : ∃ gt, gt = wr.heap.size := ⟨_, rfl⟩
        rw [← hgg_101] at hg_101 hl_101
        have HAt := Aside0.mk hg_101
        have LAt := hl_101
        have HGG_101 := Lib.hid hgg_101
        have HWW_101 := Lib.hid hW_101
        clear hW_101 hgg_101 hg_101 hl_101
        have Hp_102 := Aside0.mk ((hb_101.block _ lp).trans HPr.out)
        have lp_102 := Nat.lt_of_lt_of_le lp hb_101.size
        have Hq_102 := Aside0.mk ((hb_101.block _ lq).trans HQr.out)
        have lq_102 := Nat.lt_of_lt_of_le lq hb_101.size
        have Hr_102 := Aside0.mk ((hb_101.block _ lr).trans HRr.out)
        have lr_102 := Nat.lt_of_lt_of_le lr hb_101.size
        have Hs_102 := Aside0.mk ((hb_101.block _ ls).trans HSr.out)
        have ls_102 := Nat.lt_of_lt_of_le ls hb_101.size
        have BB_102 := Aside0.mk (below_then HBr.out HBr.out.size hb_101)
        clear HPr lp HQr lq HRr lr HSr ls hb_101
        go_upto_region 16 with (fail)
        try rw [← HWW_101.out]
        try rw [← HGG_101.out]
        have hp := Hp_102.out
        have hq := Hq_102.out
        have hr := Hr_102.out
        have ht := HAt.out
        have KS0 : Aside0 (Below W_101.heap.size W_101 W_101.drew ∧ W_101.drew.cell? ⟨gp, 0, none⟩ = some (.int .u64 p0) ∧ W_101.drew.cell? ⟨gp, 1, none⟩ = some (.int .u64 p1) ∧ W_101.drew.cell? ⟨gp, 2, none⟩ = some (.int .i64 (k : Int)) ∧ W_101.drew.cell? ⟨gq, 0, none⟩ = some (.int .u64 p0) ∧ W_101.drew.cell? ⟨gq, 1, none⟩ = some (.int .u64 p1) ∧ W_101.drew.cell? ⟨gq, 2, none⟩ = some (.int .i64 ((k : Int) + 1)) ∧ W_101.drew.cell? ⟨gr, 0, none⟩ = some (.int .u64 f0) ∧ W_101.drew.cell? ⟨gr, 1, none⟩ = some (.int .u64 f1) ∧ W_101.drew.cell? ⟨gr, 2, none⟩ = some (.int .i64 ((k : Int) + 1)) ∧ W_101.drew.cell? ⟨gt, 0, none⟩ = some (.int .u64 c) ∧ W_101.drew.cell? ⟨gt, 1, none⟩ = some (.int .u64 d)) := ⟨⟨(Below.refl _ _).drew, (heap_cell (j := 0) hp rfl).1, (heap_cell (j := 1) hp rfl).1, (heap_cell (j := 2) hp rfl).1, (heap_cell (j := 0) hq rfl).1, (heap_cell (j := 1) hq rfl).1, (heap_cell (j := 2) hq rfl).1, (heap_cell (j := 0) hr rfl).1, (heap_cell (j := 1) hr rfl).1, (heap_cell (j := 2) hr rfl).1, (heap_cell (j := 0) ht rfl).1, (heap_cell (j := 1) ht rfl).1⟩⟩
        have KS : Aside0 (∀ W W' : World, (Below W_101.heap.size W_101 W ∧ W.cell? ⟨gp, 0, none⟩ = some (.int .u64 p0) ∧ W.cell? ⟨gp, 1, none⟩ = some (.int .u64 p1) ∧ W.cell? ⟨gp, 2, none⟩ = some (.int .i64 (k : Int)) ∧ W.cell? ⟨gq, 0, none⟩ = some (.int .u64 p0) ∧ W.cell? ⟨gq, 1, none⟩ = some (.int .u64 p1) ∧ W.cell? ⟨gq, 2, none⟩ = some (.int .i64 ((k : Int) + 1)) ∧ W.cell? ⟨gr, 0, none⟩ = some (.int .u64 f0) ∧ W.cell? ⟨gr, 1, none⟩ = some (.int .u64 f1) ∧ W.cell? ⟨gr, 2, none⟩ = some (.int .i64 ((k : Int) + 1)) ∧ W.cell? ⟨gt, 0, none⟩ = some (.int .u64 c) ∧ W.cell? ⟨gt, 1, none⟩ = some (.int .u64 d)) → Below W.heap.size W W' → (Below W_101.heap.size W_101 W' ∧ W'.cell? ⟨gp, 0, none⟩ = some (.int .u64 p0) ∧ W'.cell? ⟨gp, 1, none⟩ = some (.int .u64 p1) ∧ W'.cell? ⟨gp, 2, none⟩ = some (.int .i64 (k : Int)) ∧ W'.cell? ⟨gq, 0, none⟩ = some (.int .u64 p0) ∧ W'.cell? ⟨gq, 1, none⟩ = some (.int .u64 p1) ∧ W'.cell? ⟨gq, 2, none⟩ = some (.int .i64 ((k : Int) + 1)) ∧ W'.cell? ⟨gr, 0, none⟩ = some (.int .u64 f0) ∧ W'.cell? ⟨gr, 1, none⟩ = some (.int .u64 f1) ∧ W'.cell? ⟨gr, 2, none⟩ = some (.int .i64 ((k : Int) + 1)) ∧ W'.cell? ⟨gt, 0, none⟩ = some (.int .u64 c) ∧ W'.cell? ⟨gt, 1, none⟩ = some (.int .u64 d))) := ⟨fun W W' ⟨h, l0, l1, l2, l3, l4, l5, l6, l7, l8, l9, l10⟩ hb => ⟨below_then h h.size hb, (hb.cell (cell_of_lt l0)).trans l0, (hb.cell (cell_of_lt l1)).trans l1, (hb.cell (cell_of_lt l2)).trans l2, (hb.cell (cell_of_lt l3)).trans l3, (hb.cell (cell_of_lt l4)).trans l4, (hb.cell (cell_of_lt l5)).trans l5, (hb.cell (cell_of_lt l6)).trans l6, (hb.cell (cell_of_lt l7)).trans l7, (hb.cell (cell_of_lt l8)).trans l8, (hb.cell (cell_of_lt l9)).trans l9, (hb.cell (cell_of_lt l10)).trans l10⟩⟩
        have FIN : Aside0 (∀ W, Below W_101.heap.size W_101 W → Aside0 (W.heap[gp]? = some (.cells #[.int .u64 p0, .int .u64 p1, .int .i64 k] 25 (0, 0))) ∧ Aside0 (W.heap[gq]? = some (.cells #[.int .u64 p0, .int .u64 p1, .int .i64 ((k : Int) + 1)] 25 (0, 0))) ∧ Aside0 (W.heap[gr]? = some (.cells #[.int .u64 f0, .int .u64 f1, .int .i64 ((k : Int) + 1)] 25 (0, 0))) ∧ Aside0 (W.heap[gs]? = some (.cells #[.int .u64 hi, .int .u64 lo, .int .u64 other, .int .u64 low, .int .u64 f0, .int .u64 f1] 34 (0, 0))) ∧ Aside0 (Below w.heap.size w W)) := ⟨fun W h => ⟨⟨(h.block _ lp_102).trans hp⟩, ⟨(h.block _ lq_102).trans hq⟩, ⟨(h.block _ lr_102).trans hr⟩, ⟨(h.block _ ls_102).trans Hs_102.out⟩, ⟨below_then BB_102.out BB_102.out.size h⟩⟩⟩
        clear hp hq hr ht
        cases a <;> cases b
        · refine wp_region_noPanic ?_
          refine wp_region_held_drew (S := fun W => (Below W_101.heap.size W_101 W ∧ W.cell? ⟨gp, 0, none⟩ = some (.int .u64 p0) ∧ W.cell? ⟨gp, 1, none⟩ = some (.int .u64 p1) ∧ W.cell? ⟨gp, 2, none⟩ = some (.int .i64 (k : Int)) ∧ W.cell? ⟨gq, 0, none⟩ = some (.int .u64 p0) ∧ W.cell? ⟨gq, 1, none⟩ = some (.int .u64 p1) ∧ W.cell? ⟨gq, 2, none⟩ = some (.int .i64 ((k : Int) + 1)) ∧ W.cell? ⟨gr, 0, none⟩ = some (.int .u64 f0) ∧ W.cell? ⟨gr, 1, none⟩ = some (.int .u64 f1) ∧ W.cell? ⟨gr, 2, none⟩ = some (.int .i64 ((k : Int) + 1)) ∧ W.cell? ⟨gt, 0, none⟩ = some (.int .u64 c) ∧ W.cell? ⟨gt, 1, none⟩ = some (.int .u64 d))) (by kernel_rfl) KS0.out (fun _ => ?_)
          generalize W_101.drew = W_d at KS0 ⊢
          refine wpAnyH_take (i := 0) (v := ?_) (by simp only [List.getElem?_toArray, List.getElem?_cons_zero]; rfl) (by kernel_rfl) (by kernel_rfl) (by kernel_rfl) (fun _ _ _ h => h) (Or.inl ⟨by rfl, ?_⟩) KS0.out ?_
          rotate_left
          · intro W hW
            obtain ⟨_, l0, l1, l2, l3, l4, l5, l6, l7, l8, l9, l10⟩ := hW
            go_simp
            all_goals with_reducible rfl
          try simp only [Act.put, List.setIfInBounds_toArray, List.set_cons_zero, List.set_cons_succ]
          refine wpAnyH_take (i := 1) (v := ?_) (by simp only [List.getElem?_toArray, List.getElem?_cons_zero, List.getElem?_cons_succ]; rfl) (by kernel_rfl) (by kernel_rfl) (by kernel_rfl) (fun _ _ _ h => h) (Or.inl ⟨by rfl, ?_⟩) KS0.out ?_
          rotate_left
          · intro W hW
            obtain ⟨_, l0, l1, l2, l3, l4, l5, l6, l7, l8, l9, l10⟩ := hW
            go_simp
            all_goals with_reducible rfl
          try simp only [Act.put, List.setIfInBounds_toArray, List.set_cons_zero, List.set_cons_succ]
          refine wpAnyH_take (i := 2) (v := ?_) (by simp only [List.getElem?_toArray, List.getElem?_cons_zero, List.getElem?_cons_succ]; rfl) (by kernel_rfl) (by kernel_rfl) (by kernel_rfl) (fun _ _ _ h => h) (Or.inl ⟨by rfl, ?_⟩) KS0.out ?_
          rotate_left
          · intro W hW
            clear hW
            go_simp
            all_goals with_reducible rfl
          try simp only [Act.put, List.setIfInBounds_toArray, List.set_cons_zero, List.set_cons_succ]
          refine wpAnyH_take (i := 4) (v := ?_) (by simp only [List.getElem?_toArray, List.getElem?_cons_zero, List.getElem?_cons_succ]; rfl) (by kernel_rfl) (by kernel_rfl) (by kernel_rfl) (fun _ _ _ h => h) (Or.inl ⟨by rfl, ?_⟩) KS0.out ?_
          rotate_left
          · intro W hW
            obtain ⟨_, l0, l1, l2, l3, l4, l5, l6, l7, l8, l9, l10⟩ := hW
            go_simp
            all_goals with_reducible rfl
          try simp only [Act.put, List.setIfInBounds_toArray, List.set_cons_zero, List.set_cons_succ]
          refine wpAnyH_take (i := 5) (v := ?_) (by simp only [List.getElem?_toArray, List.getElem?_cons_zero, List.getElem?_cons_succ]; rfl) (by kernel_rfl) (by kernel_rfl) (by kernel_rfl) (fun _ _ _ h => h) (Or.inl ⟨by rfl, ?_⟩) KS0.out ?_
          rotate_left
          · intro W hW
            obtain ⟨_, l0, l1, l2, l3, l4, l5, l6, l7, l8, l9, l10⟩ := hW
            go_simp
            all_goals with_reducible rfl
          try simp only [Act.put, List.setIfInBounds_toArray, List.set_cons_zero, List.set_cons_succ]
          refine wpAnyH_take (i := 6) (v := ?_) (by simp only [List.getElem?_toArray, List.getElem?_cons_zero, List.getElem?_cons_succ]; rfl) (by kernel_rfl) (by kernel_rfl) (by kernel_rfl) (fun _ _ _ h => h) (Or.inl ⟨by rfl, ?_⟩) KS0.out ?_
          rotate_left
          · intro W hW
            clear hW
            go_simp
            all_goals with_reducible rfl
          try simp only [Act.put, List.setIfInBounds_toArray, List.set_cons_zero, List.set_cons_succ]
          refine wpAnyH_ready (rs := [3]) (by kernel_rfl) (by simp) ?_
          refine AllReadyH.cons (by simp only [List.getElem?_toArray, List.getElem?_cons_zero, List.getElem?_cons_succ]; rfl) (fun K hK => ?_) AllReadyH.nil
          go_simp
          refine (Y1.out _).mono ?_
          rintro e W1 ⟨rfl, hb⟩
          have KS1 := Aside0.mk (KS.out _ _ KS0.out hb)
          refine hK.out _ _ KS1.out (fun _ => ?_)
          clear hK K hb
          try simp only [Act.put, List.setIfInBounds_toArray, List.set_cons_zero, List.set_cons_succ]
          refine wpAnyH_ready (rs := [7]) (by kernel_rfl) (by simp) ?_
          refine AllReadyH.cons (by simp only [List.getElem?_toArray, List.getElem?_cons_zero, List.getElem?_cons_succ]; rfl) (fun K hK => ?_) AllReadyH.nil
          go_simp
          refine (Y2.out _).mono ?_
          rintro e W2 ⟨rfl, hb⟩
          have KS2 := Aside0.mk (KS.out _ _ KS1.out hb)
          refine hK.out _ _ KS2.out (fun _ => ?_)
          clear hK K hb
          try simp only [Act.put, List.setIfInBounds_toArray, List.set_cons_zero, List.set_cons_succ]
          refine wpAnyH_take (i := 8) (v := ?_) (by simp only [List.getElem?_toArray, List.getElem?_cons_zero, List.getElem?_cons_succ]; rfl) (by kernel_rfl) (by kernel_rfl) (by kernel_rfl) (fun _ _ _ h => h) (Or.inl ⟨by rfl, ?_⟩) KS2.out ?_
          rotate_left
          · intro W hW
            clear hW
            go_simp
            all_goals with_reducible rfl
          try simp only [Act.put, List.setIfInBounds_toArray, List.set_cons_zero, List.set_cons_succ]
          refine wpAnyH_take (i := 9) (v := ?_) (by simp only [List.getElem?_toArray, List.getElem?_cons_zero, List.getElem?_cons_succ]; rfl) (by kernel_rfl) (by kernel_rfl) (by kernel_rfl) (fun _ _ _ h => h) (Or.inl ⟨by rfl, ?_⟩) KS2.out ?_
          rotate_left
          · intro W hW
            obtain ⟨_, l0, l1, l2, l3, l4, l5, l6, l7, l8, l9, l10⟩ := hW
            go_simp
            all_goals with_reducible rfl
          try simp only [Act.put, List.setIfInBounds_toArray, List.set_cons_zero, List.set_cons_succ]
          refine wpAnyH_take (i := 10) (v := ?_) (by simp only [List.getElem?_toArray, List.getElem?_cons_zero, List.getElem?_cons_succ]; rfl) (by kernel_rfl) (by kernel_rfl) (by kernel_rfl) (fun _ _ _ h => h) (Or.inl ⟨by rfl, ?_⟩) KS2.out ?_
          rotate_left
          · intro W hW
            obtain ⟨_, l0, l1, l2, l3, l4, l5, l6, l7, l8, l9, l10⟩ := hW
            go_simp
            all_goals with_reducible rfl
          try simp only [Act.put, List.setIfInBounds_toArray, List.set_cons_zero, List.set_cons_succ]
          refine wpAnyH_take (i := 11) (v := ?_) (by simp only [List.getElem?_toArray, List.getElem?_cons_zero, List.getElem?_cons_succ]; rfl) (by kernel_rfl) (by kernel_rfl) (by kernel_rfl) (fun _ _ _ h => h) (Or.inl ⟨by rfl, ?_⟩) KS2.out ?_
          rotate_left
          · intro W hW
            clear hW
            go_simp
            all_goals with_reducible rfl
          try simp only [Act.put, List.setIfInBounds_toArray, List.set_cons_zero, List.set_cons_succ]
          refine wpAnyH_ready (rs := [12]) (by kernel_rfl) (by simp) ?_
          refine AllReadyH.cons (by simp only [List.getElem?_toArray, List.getElem?_cons_zero, List.getElem?_cons_succ]; rfl) (fun K hK => ?_) AllReadyH.nil
          go_simp
          refine (Y3.out _).mono ?_
          rintro e W3 ⟨rfl, hb⟩
          have KS3 := Aside0.mk (KS.out _ _ KS2.out hb)
          refine hK.out _ _ KS3.out (fun _ => ?_)
          clear hK K hb
          try simp only [Act.put, List.setIfInBounds_toArray, List.set_cons_zero, List.set_cons_succ]
          refine wpAnyH_take (i := 13) (v := ?_) (by simp only [List.getElem?_toArray, List.getElem?_cons_zero, List.getElem?_cons_succ]; rfl) (by kernel_rfl) (by kernel_rfl) (by kernel_rfl) (fun _ _ _ h => h) (Or.inl ⟨by rfl, ?_⟩) KS3.out ?_
          rotate_left
          · intro W hW
            clear hW
            go_simp
            all_goals with_reducible rfl
          try simp only [Act.put, List.setIfInBounds_toArray, List.set_cons_zero, List.set_cons_succ]
          refine wpAnyH_take (i := 14) (v := ?_) (by simp only [List.getElem?_toArray, List.getElem?_cons_zero, List.getElem?_cons_succ]; rfl) (by kernel_rfl) (by kernel_rfl) (by kernel_rfl) (fun _ _ _ h => h) (Or.inl ⟨by rfl, ?_⟩) KS3.out ?_
          rotate_left
          · intro W hW
            clear hW
            go_simp
            all_goals with_reducible rfl
          try simp only [Act.put, List.setIfInBounds_toArray, List.set_cons_zero, List.set_cons_succ]
          refine wpAnyH_take (i := 15) (v := ?_) (by simp only [List.getElem?_toArray, List.getElem?_cons_zero, List.getElem?_cons_succ]; rfl) (by kernel_rfl) (by kernel_rfl) (by kernel_rfl) (fun _ _ _ h => h) (Or.inl ⟨by rfl, ?_⟩) KS3.out ?_
          rotate_left
          · intro W hW
            clear hW
            go_simp
            all_goals with_reducible rfl
          try simp only [Act.put, List.setIfInBounds_toArray, List.set_cons_zero, List.set_cons_succ]
          refine wpAnyH_take (i := 16) (v := ?_) (by simp only [List.getElem?_toArray, List.getElem?_cons_zero, List.getElem?_cons_succ]; rfl) (by kernel_rfl) (by kernel_rfl) (by kernel_rfl) (fun _ _ _ h => h) (Or.inl ⟨by rfl, ?_⟩) KS3.out ?_
          rotate_left
          · intro W hW
            obtain ⟨_, l0, l1, l2, l3, l4, l5, l6, l7, l8, l9, l10⟩ := hW
            go_simp
            all_goals with_reducible rfl
          try simp only [Act.put, List.setIfInBounds_toArray, List.set_cons_zero, List.set_cons_succ]
          refine wpAnyH_take (i := 17) (v := ?_) (by simp only [List.getElem?_toArray, List.getElem?_cons_zero, List.getElem?_cons_succ]; rfl) (by kernel_rfl) (by kernel_rfl) (by kernel_rfl) (fun _ _ _ h => h) (Or.inl ⟨by rfl, ?_⟩) KS3.out ?_
          rotate_left
          · intro W hW
            obtain ⟨_, l0, l1, l2, l3, l4, l5, l6, l7, l8, l9, l10⟩ := hW
            go_simp
            all_goals with_reducible rfl
          try simp only [Act.put, List.setIfInBounds_toArray, List.set_cons_zero, List.set_cons_succ]
          refine wpAnyH_take (i := 18) (v := ?_) (by simp only [List.getElem?_toArray, List.getElem?_cons_zero, List.getElem?_cons_succ]; rfl) (by kernel_rfl) (by kernel_rfl) (by kernel_rfl) (fun _ _ _ h => h) (Or.inl ⟨by rfl, ?_⟩) KS3.out ?_
          rotate_left
          · intro W hW
            clear hW
            go_simp
            all_goals with_reducible rfl
          try simp only [Act.put, List.setIfInBounds_toArray, List.set_cons_zero, List.set_cons_succ]
          refine wpAnyH_ready (rs := [19]) (by kernel_rfl) (by simp) ?_
          refine AllReadyH.cons (by simp only [List.getElem?_toArray, List.getElem?_cons_zero, List.getElem?_cons_succ]; rfl) (fun K hK => ?_) AllReadyH.nil
          go_simp
          refine (Y2.out _).mono ?_
          rintro e W4 ⟨rfl, hb⟩
          have KS4 := Aside0.mk (KS.out _ _ KS3.out hb)
          refine hK.out _ _ KS4.out (fun _ => ?_)
          clear hK K hb
          try simp only [Act.put, List.setIfInBounds_toArray, List.set_cons_zero, List.set_cons_succ]
          refine wpAnyH_take (i := 20) (v := ?_) (by simp only [List.getElem?_toArray, List.getElem?_cons_zero, List.getElem?_cons_succ]; rfl) (by kernel_rfl) (by kernel_rfl) (by kernel_rfl) (fun _ _ _ h => h) (Or.inl ⟨by rfl, ?_⟩) KS4.out ?_
          rotate_left
          · intro W hW
            clear hW
            go_simp
            all_goals with_reducible rfl
          try simp only [Act.put, List.setIfInBounds_toArray, List.set_cons_zero, List.set_cons_succ]
          refine wpAnyH_take (i := 21) (v := undef) (by simp only [List.getElem?_toArray, List.getElem?_cons_zero, List.getElem?_cons_succ]; rfl) (by kernel_rfl) (by kernel_rfl) (by kernel_rfl) (fun _ _ _ h => h) (Or.inr ⟨by rfl, rfl⟩) KS4.out ?_
          try simp only [Act.put, List.setIfInBounds_toArray, List.set_cons_zero, List.set_cons_succ]
          refine wpAnyH_take (i := 22) (v := undef) (by simp only [List.getElem?_toArray, List.getElem?_cons_zero, List.getElem?_cons_succ]; rfl) (by kernel_rfl) (by kernel_rfl) (by kernel_rfl) (fun _ _ _ h => h) (Or.inr ⟨by rfl, rfl⟩) KS4.out ?_
          try simp only [Act.put, List.setIfInBounds_toArray, List.set_cons_zero, List.set_cons_succ]
          refine wpAnyH_take (i := 23) (v := undef) (by simp only [List.getElem?_toArray, List.getElem?_cons_zero, List.getElem?_cons_succ]; rfl) (by kernel_rfl) (by kernel_rfl) (by kernel_rfl) (fun _ _ _ h => h) (Or.inr ⟨by rfl, rfl⟩) KS4.out ?_
          try simp only [Act.put, List.setIfInBounds_toArray, List.set_cons_zero, List.set_cons_succ]
          refine wpAnyH_take (i := 24) (v := undef) (by simp only [List.getElem?_toArray, List.getElem?_cons_zero, List.getElem?_cons_succ]; rfl) (by kernel_rfl) (by kernel_rfl) (by kernel_rfl) (fun _ _ _ h => h) (Or.inr ⟨by rfl, rfl⟩) KS4.out ?_
          try simp only [Act.put, List.setIfInBounds_toArray, List.set_cons_zero, List.set_cons_succ]
          refine wpAnyH_take (i := 25) (v := ?_) (by simp only [List.getElem?_toArray, List.getElem?_cons_zero, List.getElem?_cons_succ]; rfl) (by kernel_rfl) (by kernel_rfl) (by kernel_rfl) (fun _ _ _ h => h) (Or.inl ⟨by rfl, ?_⟩) KS4.out ?_
          rotate_left
          · intro W hW
            clear hW
            go_simp
            all_goals with_reducible rfl
          try simp only [Act.put, List.setIfInBounds_toArray, List.set_cons_zero, List.set_cons_succ]
          refine wpAnyH_take (i := 26) (v := ?_) (by simp only [List.getElem?_toArray, List.getElem?_cons_zero, List.getElem?_cons_succ]; rfl) (by kernel_rfl) (by kernel_rfl) (by kernel_rfl) (fun _ _ _ h => h) (Or.inl ⟨by rfl, ?_⟩) KS4.out ?_
          rotate_left
          · intro W hW
            clear hW
            go_simp
            all_goals with_reducible rfl
          try simp only [Act.put, List.setIfInBounds_toArray, List.set_cons_zero, List.set_cons_succ]
          refine wpAnyH_done (by kernel_rfl) ?_ _
          refine NoPanic.normal ?_
          obtain ⟨z1, z2, z3, z4, z5⟩ := FIN.out _ KS4.out.1
          go_wp2_with fail
          exact ⟨⟨j + 1, by go_num, by omega, z1, z2, z3, z4, z5⟩, by simp [intOf]; omega⟩
        · refine wp_region_noPanic ?_
          refine wp_region_held_drew (S := fun W => (Below W_101.heap.size W_101 W ∧ W.cell? ⟨gp, 0, none⟩ = some (.int .u64 p0) ∧ W.cell? ⟨gp, 1, none⟩ = some (.int .u64 p1) ∧ W.cell? ⟨gp, 2, none⟩ = some (.int .i64 (k : Int)) ∧ W.cell? ⟨gq, 0, none⟩ = some (.int .u64 p0) ∧ W.cell? ⟨gq, 1, none⟩ = some (.int .u64 p1) ∧ W.cell? ⟨gq, 2, none⟩ = some (.int .i64 ((k : Int) + 1)) ∧ W.cell? ⟨gr, 0, none⟩ = some (.int .u64 f0) ∧ W.cell? ⟨gr, 1, none⟩ = some (.int .u64 f1) ∧ W.cell? ⟨gr, 2, none⟩ = some (.int .i64 ((k : Int) + 1)) ∧ W.cell? ⟨gt, 0, none⟩ = some (.int .u64 c) ∧ W.cell? ⟨gt, 1, none⟩ = some (.int .u64 d))) (by kernel_rfl) KS0.out (fun _ => ?_)
          generalize W_101.drew = W_d at KS0 ⊢
          refine wpAnyH_take (i := 0) (v := ?_) (by simp only [List.getElem?_toArray, List.getElem?_cons_zero]; rfl) (by kernel_rfl) (by kernel_rfl) (by kernel_rfl) (fun _ _ _ h => h) (Or.inl ⟨by rfl, ?_⟩) KS0.out ?_
          rotate_left
          · intro W hW
            obtain ⟨_, l0, l1, l2, l3, l4, l5, l6, l7, l8, l9, l10⟩ := hW
            go_simp
            all_goals with_reducible rfl
          try simp only [Act.put, List.setIfInBounds_toArray, List.set_cons_zero, List.set_cons_succ]
          refine wpAnyH_take (i := 1) (v := ?_) (by simp only [List.getElem?_toArray, List.getElem?_cons_zero, List.getElem?_cons_succ]; rfl) (by kernel_rfl) (by kernel_rfl) (by kernel_rfl) (fun _ _ _ h => h) (Or.inl ⟨by rfl, ?_⟩) KS0.out ?_
          rotate_left
          · intro W hW
            obtain ⟨_, l0, l1, l2, l3, l4, l5, l6, l7, l8, l9, l10⟩ := hW
            go_simp
            all_goals with_reducible rfl
          try simp only [Act.put, List.setIfInBounds_toArray, List.set_cons_zero, List.set_cons_succ]
          refine wpAnyH_take (i := 2) (v := ?_) (by simp only [List.getElem?_toArray, List.getElem?_cons_zero, List.getElem?_cons_succ]; rfl) (by kernel_rfl) (by kernel_rfl) (by kernel_rfl) (fun _ _ _ h => h) (Or.inl ⟨by rfl, ?_⟩) KS0.out ?_
          rotate_left
          · intro W hW
            clear hW
            go_simp
            all_goals with_reducible rfl
          try simp only [Act.put, List.setIfInBounds_toArray, List.set_cons_zero, List.set_cons_succ]
          refine wpAnyH_take (i := 4) (v := ?_) (by simp only [List.getElem?_toArray, List.getElem?_cons_zero, List.getElem?_cons_succ]; rfl) (by kernel_rfl) (by kernel_rfl) (by kernel_rfl) (fun _ _ _ h => h) (Or.inl ⟨by rfl, ?_⟩) KS0.out ?_
          rotate_left
          · intro W hW
            obtain ⟨_, l0, l1, l2, l3, l4, l5, l6, l7, l8, l9, l10⟩ := hW
            go_simp
            all_goals with_reducible rfl
          try simp only [Act.put, List.setIfInBounds_toArray, List.set_cons_zero, List.set_cons_succ]
          refine wpAnyH_take (i := 5) (v := ?_) (by simp only [List.getElem?_toArray, List.getElem?_cons_zero, List.getElem?_cons_succ]; rfl) (by kernel_rfl) (by kernel_rfl) (by kernel_rfl) (fun _ _ _ h => h) (Or.inl ⟨by rfl, ?_⟩) KS0.out ?_
          rotate_left
          · intro W hW
            obtain ⟨_, l0, l1, l2, l3, l4, l5, l6, l7, l8, l9, l10⟩ := hW
            go_simp
            all_goals with_reducible rfl
          try simp only [Act.put, List.setIfInBounds_toArray, List.set_cons_zero, List.set_cons_succ]
          refine wpAnyH_take (i := 6) (v := ?_) (by simp only [List.getElem?_toArray, List.getElem?_cons_zero, List.getElem?_cons_succ]; rfl) (by kernel_rfl) (by kernel_rfl) (by kernel_rfl) (fun _ _ _ h => h) (Or.inl ⟨by rfl, ?_⟩) KS0.out ?_
          rotate_left
          · intro W hW
            clear hW
            go_simp
            all_goals with_reducible rfl
          try simp only [Act.put, List.setIfInBounds_toArray, List.set_cons_zero, List.set_cons_succ]
          refine wpAnyH_ready (rs := [3]) (by kernel_rfl) (by simp) ?_
          refine AllReadyH.cons (by simp only [List.getElem?_toArray, List.getElem?_cons_zero, List.getElem?_cons_succ]; rfl) (fun K hK => ?_) AllReadyH.nil
          go_simp
          refine (Y1.out _).mono ?_
          rintro e W1 ⟨rfl, hb⟩
          have KS1 := Aside0.mk (KS.out _ _ KS0.out hb)
          refine hK.out _ _ KS1.out (fun _ => ?_)
          clear hK K hb
          try simp only [Act.put, List.setIfInBounds_toArray, List.set_cons_zero, List.set_cons_succ]
          refine wpAnyH_ready (rs := [7]) (by kernel_rfl) (by simp) ?_
          refine AllReadyH.cons (by simp only [List.getElem?_toArray, List.getElem?_cons_zero, List.getElem?_cons_succ]; rfl) (fun K hK => ?_) AllReadyH.nil
          go_simp
          refine (Y2.out _).mono ?_
          rintro e W2 ⟨rfl, hb⟩
          have KS2 := Aside0.mk (KS.out _ _ KS1.out hb)
          refine hK.out _ _ KS2.out (fun _ => ?_)
          clear hK K hb
          try simp only [Act.put, List.setIfInBounds_toArray, List.set_cons_zero, List.set_cons_succ]
          refine wpAnyH_take (i := 8) (v := ?_) (by simp only [List.getElem?_toArray, List.getElem?_cons_zero, List.getElem?_cons_succ]; rfl) (by kernel_rfl) (by kernel_rfl) (by kernel_rfl) (fun _ _ _ h => h) (Or.inl ⟨by rfl, ?_⟩) KS2.out ?_
          rotate_left
          · intro W hW
            clear hW
            go_simp
            all_goals with_reducible rfl
          try simp only [Act.put, List.setIfInBounds_toArray, List.set_cons_zero, List.set_cons_succ]
          refine wpAnyH_take (i := 9) (v := ?_) (by simp only [List.getElem?_toArray, List.getElem?_cons_zero, List.getElem?_cons_succ]; rfl) (by kernel_rfl) (by kernel_rfl) (by kernel_rfl) (fun _ _ _ h => h) (Or.inl ⟨by rfl, ?_⟩) KS2.out ?_
          rotate_left
          · intro W hW
            obtain ⟨_, l0, l1, l2, l3, l4, l5, l6, l7, l8, l9, l10⟩ := hW
            go_simp
            all_goals with_reducible rfl
          try simp only [Act.put, List.setIfInBounds_toArray, List.set_cons_zero, List.set_cons_succ]
          refine wpAnyH_take (i := 10) (v := ?_) (by simp only [List.getElem?_toArray, List.getElem?_cons_zero, List.getElem?_cons_succ]; rfl) (by kernel_rfl) (by kernel_rfl) (by kernel_rfl) (fun _ _ _ h => h) (Or.inl ⟨by rfl, ?_⟩) KS2.out ?_
          rotate_left
          · intro W hW
            obtain ⟨_, l0, l1, l2, l3, l4, l5, l6, l7, l8, l9, l10⟩ := hW
            go_simp
            all_goals with_reducible rfl
          try simp only [Act.put, List.setIfInBounds_toArray, List.set_cons_zero, List.set_cons_succ]
          refine wpAnyH_take (i := 11) (v := ?_) (by simp only [List.getElem?_toArray, List.getElem?_cons_zero, List.getElem?_cons_succ]; rfl) (by kernel_rfl) (by kernel_rfl) (by kernel_rfl) (fun _ _ _ h => h) (Or.inl ⟨by rfl, ?_⟩) KS2.out ?_
          rotate_left
          · intro W hW
            clear hW
            go_simp
            all_goals with_reducible rfl
          try simp only [Act.put, List.setIfInBounds_toArray, List.set_cons_zero, List.set_cons_succ]
          refine wpAnyH_ready (rs := [12]) (by kernel_rfl) (by simp) ?_
          refine AllReadyH.cons (by simp only [List.getElem?_toArray, List.getElem?_cons_zero, List.getElem?_cons_succ]; rfl) (fun K hK => ?_) AllReadyH.nil
          go_simp
          refine (Y3.out _).mono ?_
          rintro e W3 ⟨rfl, hb⟩
          have KS3 := Aside0.mk (KS.out _ _ KS2.out hb)
          refine hK.out _ _ KS3.out (fun _ => ?_)
          clear hK K hb
          try simp only [Act.put, List.setIfInBounds_toArray, List.set_cons_zero, List.set_cons_succ]
          refine wpAnyH_take (i := 13) (v := ?_) (by simp only [List.getElem?_toArray, List.getElem?_cons_zero, List.getElem?_cons_succ]; rfl) (by kernel_rfl) (by kernel_rfl) (by kernel_rfl) (fun _ _ _ h => h) (Or.inl ⟨by rfl, ?_⟩) KS3.out ?_
          rotate_left
          · intro W hW
            clear hW
            go_simp
            all_goals with_reducible rfl
          try simp only [Act.put, List.setIfInBounds_toArray, List.set_cons_zero, List.set_cons_succ]
          refine wpAnyH_take (i := 14) (v := ?_) (by simp only [List.getElem?_toArray, List.getElem?_cons_zero, List.getElem?_cons_succ]; rfl) (by kernel_rfl) (by kernel_rfl) (by kernel_rfl) (fun _ _ _ h => h) (Or.inl ⟨by rfl, ?_⟩) KS3.out ?_
          rotate_left
          · intro W hW
            clear hW
            go_simp
            all_goals with_reducible rfl
          try simp only [Act.put, List.setIfInBounds_toArray, List.set_cons_zero, List.set_cons_succ]
          refine wpAnyH_take (i := 15) (v := ?_) (by simp only [List.getElem?_toArray, List.getElem?_cons_zero, List.getElem?_cons_succ]; rfl) (by kernel_rfl) (by kernel_rfl) (by kernel_rfl) (fun _ _ _ h => h) (Or.inl ⟨by rfl, ?_⟩) KS3.out ?_
          rotate_left
          · intro W hW
            clear hW
            go_simp
            all_goals with_reducible rfl
          try simp only [Act.put, List.setIfInBounds_toArray, List.set_cons_zero, List.set_cons_succ]
          refine wpAnyH_take (i := 16) (v := ?_) (by simp only [List.getElem?_toArray, List.getElem?_cons_zero, List.getElem?_cons_succ]; rfl) (by kernel_rfl) (by kernel_rfl) (by kernel_rfl) (fun _ _ _ h => h) (Or.inl ⟨by rfl, ?_⟩) KS3.out ?_
          rotate_left
          · intro W hW
            obtain ⟨_, l0, l1, l2, l3, l4, l5, l6, l7, l8, l9, l10⟩ := hW
            go_simp
            all_goals with_reducible rfl
          try simp only [Act.put, List.setIfInBounds_toArray, List.set_cons_zero, List.set_cons_succ]
          refine wpAnyH_take (i := 17) (v := ?_) (by simp only [List.getElem?_toArray, List.getElem?_cons_zero, List.getElem?_cons_succ]; rfl) (by kernel_rfl) (by kernel_rfl) (by kernel_rfl) (fun _ _ _ h => h) (Or.inl ⟨by rfl, ?_⟩) KS3.out ?_
          rotate_left
          · intro W hW
            obtain ⟨_, l0, l1, l2, l3, l4, l5, l6, l7, l8, l9, l10⟩ := hW
            go_simp
            all_goals with_reducible rfl
          try simp only [Act.put, List.setIfInBounds_toArray, List.set_cons_zero, List.set_cons_succ]
          refine wpAnyH_take (i := 18) (v := ?_) (by simp only [List.getElem?_toArray, List.getElem?_cons_zero, List.getElem?_cons_succ]; rfl) (by kernel_rfl) (by kernel_rfl) (by kernel_rfl) (fun _ _ _ h => h) (Or.inl ⟨by rfl, ?_⟩) KS3.out ?_
          rotate_left
          · intro W hW
            clear hW
            go_simp
            all_goals with_reducible rfl
          try simp only [Act.put, List.setIfInBounds_toArray, List.set_cons_zero, List.set_cons_succ]
          refine wpAnyH_ready (rs := [19]) (by kernel_rfl) (by simp) ?_
          refine AllReadyH.cons (by simp only [List.getElem?_toArray, List.getElem?_cons_zero, List.getElem?_cons_succ]; rfl) (fun K hK => ?_) AllReadyH.nil
          go_simp
          refine (Y2.out _).mono ?_
          rintro e W4 ⟨rfl, hb⟩
          have KS4 := Aside0.mk (KS.out _ _ KS3.out hb)
          refine hK.out _ _ KS4.out (fun _ => ?_)
          clear hK K hb
          try simp only [Act.put, List.setIfInBounds_toArray, List.set_cons_zero, List.set_cons_succ]
          refine wpAnyH_take (i := 20) (v := ?_) (by simp only [List.getElem?_toArray, List.getElem?_cons_zero, List.getElem?_cons_succ]; rfl) (by kernel_rfl) (by kernel_rfl) (by kernel_rfl) (fun _ _ _ h => h) (Or.inl ⟨by rfl, ?_⟩) KS4.out ?_
          rotate_left
          · intro W hW
            clear hW
            go_simp
            all_goals with_reducible rfl
          try simp only [Act.put, List.setIfInBounds_toArray, List.set_cons_zero, List.set_cons_succ]
          refine wpAnyH_take (i := 21) (v := undef) (by simp only [List.getElem?_toArray, List.getElem?_cons_zero, List.getElem?_cons_succ]; rfl) (by kernel_rfl) (by kernel_rfl) (by kernel_rfl) (fun _ _ _ h => h) (Or.inr ⟨by rfl, rfl⟩) KS4.out ?_
          try simp only [Act.put, List.setIfInBounds_toArray, List.set_cons_zero, List.set_cons_succ]
          refine wpAnyH_take (i := 22) (v := undef) (by simp only [List.getElem?_toArray, List.getElem?_cons_zero, List.getElem?_cons_succ]; rfl) (by kernel_rfl) (by kernel_rfl) (by kernel_rfl) (fun _ _ _ h => h) (Or.inr ⟨by rfl, rfl⟩) KS4.out ?_
          try simp only [Act.put, List.setIfInBounds_toArray, List.set_cons_zero, List.set_cons_succ]
          refine wpAnyH_take (i := 23) (v := undef) (by simp only [List.getElem?_toArray, List.getElem?_cons_zero, List.getElem?_cons_succ]; rfl) (by kernel_rfl) (by kernel_rfl) (by kernel_rfl) (fun _ _ _ h => h) (Or.inr ⟨by rfl, rfl⟩) KS4.out ?_
          try simp only [Act.put, List.setIfInBounds_toArray, List.set_cons_zero, List.set_cons_succ]
          refine wpAnyH_take (i := 24) (v := undef) (by simp only [List.getElem?_toArray, List.getElem?_cons_zero, List.getElem?_cons_succ]; rfl) (by kernel_rfl) (by kernel_rfl) (by kernel_rfl) (fun _ _ _ h => h) (Or.inr ⟨by rfl, rfl⟩) KS4.out ?_
          try simp only [Act.put, List.setIfInBounds_toArray, List.set_cons_zero, List.set_cons_succ]
          refine wpAnyH_take (i := 25) (v := ?_) (by simp only [List.getElem?_toArray, List.getElem?_cons_zero, List.getElem?_cons_succ]; rfl) (by kernel_rfl) (by kernel_rfl) (by kernel_rfl) (fun _ _ _ h => h) (Or.inl ⟨by rfl, ?_⟩) KS4.out ?_
          rotate_left
          · intro W hW
            clear hW
            go_simp
            all_goals with_reducible rfl
          try simp only [Act.put, List.setIfInBounds_toArray, List.set_cons_zero, List.set_cons_succ]
          refine wpAnyH_take (i := 26) (v := ?_) (by simp only [List.getElem?_toArray, List.getElem?_cons_zero, List.getElem?_cons_succ]; rfl) (by kernel_rfl) (by kernel_rfl) (by kernel_rfl) (fun _ _ _ h => h) (Or.inl ⟨by rfl, ?_⟩) KS4.out ?_
          rotate_left
          · intro W hW
            clear hW
            go_simp
            all_goals with_reducible rfl
          try simp only [Act.put, List.setIfInBounds_toArray, List.set_cons_zero, List.set_cons_succ]
          refine wpAnyH_done (by kernel_rfl) ?_ _
          refine NoPanic.normal ?_
          obtain ⟨z1, z2, z3, z4, z5⟩ := FIN.out _ KS4.out.1
          go_wp2_with fail
          exact ⟨⟨j + 1, by go_num, by omega, z1, z2, z3, z4, z5⟩, by simp [intOf]; omega⟩
        · refine wp_region_noPanic ?_
          refine wp_region_held_drew (S := fun W => (Below W_101.heap.size W_101 W ∧ W.cell? ⟨gp, 0, none⟩ = some (.int .u64 p0) ∧ W.cell? ⟨gp, 1, none⟩ = some (.int .u64 p1) ∧ W.cell? ⟨gp, 2, none⟩ = some (.int .i64 (k : Int)) ∧ W.cell? ⟨gq, 0, none⟩ = some (.int .u64 p0) ∧ W.cell? ⟨gq, 1, none⟩ = some (.int .u64 p1) ∧ W.cell? ⟨gq, 2, none⟩ = some (.int .i64 ((k : Int) + 1)) ∧ W.cell? ⟨gr, 0, none⟩ = some (.int .u64 f0) ∧ W.cell? ⟨gr, 1, none⟩ = some (.int .u64 f1) ∧ W.cell? ⟨gr, 2, none⟩ = some (.int .i64 ((k : Int) + 1)) ∧ W.cell? ⟨gt, 0, none⟩ = some (.int .u64 c) ∧ W.cell? ⟨gt, 1, none⟩ = some (.int .u64 d))) (by kernel_rfl) KS0.out (fun _ => ?_)
          generalize W_101.drew = W_d at KS0 ⊢
          refine wpAnyH_take (i := 0) (v := ?_) (by simp only [List.getElem?_toArray, List.getElem?_cons_zero]; rfl) (by kernel_rfl) (by kernel_rfl) (by kernel_rfl) (fun _ _ _ h => h) (Or.inl ⟨by rfl, ?_⟩) KS0.out ?_
          rotate_left
          · intro W hW
            obtain ⟨_, l0, l1, l2, l3, l4, l5, l6, l7, l8, l9, l10⟩ := hW
            go_simp
            all_goals with_reducible rfl
          try simp only [Act.put, List.setIfInBounds_toArray, List.set_cons_zero, List.set_cons_succ]
          refine wpAnyH_take (i := 1) (v := ?_) (by simp only [List.getElem?_toArray, List.getElem?_cons_zero, List.getElem?_cons_succ]; rfl) (by kernel_rfl) (by kernel_rfl) (by kernel_rfl) (fun _ _ _ h => h) (Or.inl ⟨by rfl, ?_⟩) KS0.out ?_
          rotate_left
          · intro W hW
            obtain ⟨_, l0, l1, l2, l3, l4, l5, l6, l7, l8, l9, l10⟩ := hW
            go_simp
            all_goals with_reducible rfl
          try simp only [Act.put, List.setIfInBounds_toArray, List.set_cons_zero, List.set_cons_succ]
          refine wpAnyH_take (i := 2) (v := ?_) (by simp only [List.getElem?_toArray, List.getElem?_cons_zero, List.getElem?_cons_succ]; rfl) (by kernel_rfl) (by kernel_rfl) (by kernel_rfl) (fun _ _ _ h => h) (Or.inl ⟨by rfl, ?_⟩) KS0.out ?_
          rotate_left
          · intro W hW
            clear hW
            go_simp
            all_goals with_reducible rfl
          try simp only [Act.put, List.setIfInBounds_toArray, List.set_cons_zero, List.set_cons_succ]
          refine wpAnyH_take (i := 4) (v := ?_) (by simp only [List.getElem?_toArray, List.getElem?_cons_zero, List.getElem?_cons_succ]; rfl) (by kernel_rfl) (by kernel_rfl) (by kernel_rfl) (fun _ _ _ h => h) (Or.inl ⟨by rfl, ?_⟩) KS0.out ?_
          rotate_left
          · intro W hW
            obtain ⟨_, l0, l1, l2, l3, l4, l5, l6, l7, l8, l9, l10⟩ := hW
            go_simp
            all_goals with_reducible rfl
          try simp only [Act.put, List.setIfInBounds_toArray, List.set_cons_zero, List.set_cons_succ]
          refine wpAnyH_take (i := 5) (v := ?_) (by simp only [List.getElem?_toArray, List.getElem?_cons_zero, List.getElem?_cons_succ]; rfl) (by kernel_rfl) (by kernel_rfl) (by kernel_rfl) (fun _ _ _ h => h) (Or.inl ⟨by rfl, ?_⟩) KS0.out ?_
          rotate_left
          · intro W hW
            obtain ⟨_, l0, l1, l2, l3, l4, l5, l6, l7, l8, l9, l10⟩ := hW
            go_simp
            all_goals with_reducible rfl
          try simp only [Act.put, List.setIfInBounds_toArray, List.set_cons_zero, List.set_cons_succ]
          refine wpAnyH_take (i := 6) (v := ?_) (by simp only [List.getElem?_toArray, List.getElem?_cons_zero, List.getElem?_cons_succ]; rfl) (by kernel_rfl) (by kernel_rfl) (by kernel_rfl) (fun _ _ _ h => h) (Or.inl ⟨by rfl, ?_⟩) KS0.out ?_
          rotate_left
          · intro W hW
            clear hW
            go_simp
            all_goals with_reducible rfl
          try simp only [Act.put, List.setIfInBounds_toArray, List.set_cons_zero, List.set_cons_succ]
          refine wpAnyH_ready (rs := [3]) (by kernel_rfl) (by simp) ?_
          refine AllReadyH.cons (by simp only [List.getElem?_toArray, List.getElem?_cons_zero, List.getElem?_cons_succ]; rfl) (fun K hK => ?_) AllReadyH.nil
          go_simp
          refine (Y1.out _).mono ?_
          rintro e W1 ⟨rfl, hb⟩
          have KS1 := Aside0.mk (KS.out _ _ KS0.out hb)
          refine hK.out _ _ KS1.out (fun _ => ?_)
          clear hK K hb
          try simp only [Act.put, List.setIfInBounds_toArray, List.set_cons_zero, List.set_cons_succ]
          refine wpAnyH_ready (rs := [7]) (by kernel_rfl) (by simp) ?_
          refine AllReadyH.cons (by simp only [List.getElem?_toArray, List.getElem?_cons_zero, List.getElem?_cons_succ]; rfl) (fun K hK => ?_) AllReadyH.nil
          go_simp
          refine (Y2.out _).mono ?_
          rintro e W2 ⟨rfl, hb⟩
          have KS2 := Aside0.mk (KS.out _ _ KS1.out hb)
          refine hK.out _ _ KS2.out (fun _ => ?_)
          clear hK K hb
          try simp only [Act.put, List.setIfInBounds_toArray, List.set_cons_zero, List.set_cons_succ]
          refine wpAnyH_take (i := 8) (v := ?_) (by simp only [List.getElem?_toArray, List.getElem?_cons_zero, List.getElem?_cons_succ]; rfl) (by kernel_rfl) (by kernel_rfl) (by kernel_rfl) (fun _ _ _ h => h) (Or.inl ⟨by rfl, ?_⟩) KS2.out ?_
          rotate_left
          · intro W hW
            clear hW
            go_simp
            all_goals with_reducible rfl
          try simp only [Act.put, List.setIfInBounds_toArray, List.set_cons_zero, List.set_cons_succ]
          refine wpAnyH_take (i := 9) (v := undef) (by simp only [List.getElem?_toArray, List.getElem?_cons_zero, List.getElem?_cons_succ]; rfl) (by kernel_rfl) (by kernel_rfl) (by kernel_rfl) (fun _ _ _ h => h) (Or.inr ⟨by rfl, rfl⟩) KS2.out ?_
          try simp only [Act.put, List.setIfInBounds_toArray, List.set_cons_zero, List.set_cons_succ]
          refine wpAnyH_take (i := 10) (v := undef) (by simp only [List.getElem?_toArray, List.getElem?_cons_zero, List.getElem?_cons_succ]; rfl) (by kernel_rfl) (by kernel_rfl) (by kernel_rfl) (fun _ _ _ h => h) (Or.inr ⟨by rfl, rfl⟩) KS2.out ?_
          try simp only [Act.put, List.setIfInBounds_toArray, List.set_cons_zero, List.set_cons_succ]
          refine wpAnyH_take (i := 11) (v := undef) (by simp only [List.getElem?_toArray, List.getElem?_cons_zero, List.getElem?_cons_succ]; rfl) (by kernel_rfl) (by kernel_rfl) (by kernel_rfl) (fun _ _ _ h => h) (Or.inr ⟨by rfl, rfl⟩) KS2.out ?_
          try simp only [Act.put, List.setIfInBounds_toArray, List.set_cons_zero, List.set_cons_succ]
          refine wpAnyH_take (i := 12) (v := undef) (by simp only [List.getElem?_toArray, List.getElem?_cons_zero, List.getElem?_cons_succ]; rfl) (by kernel_rfl) (by kernel_rfl) (by kernel_rfl) (fun _ _ _ h => h) (Or.inr ⟨by rfl, rfl⟩) KS2.out ?_
          try simp only [Act.put, List.setIfInBounds_toArray, List.set_cons_zero, List.set_cons_succ]
          refine wpAnyH_take (i := 13) (v := ?_) (by simp only [List.getElem?_toArray, List.getElem?_cons_zero, List.getElem?_cons_succ]; rfl) (by kernel_rfl) (by kernel_rfl) (by kernel_rfl) (fun _ _ _ h => h) (Or.inl ⟨by rfl, ?_⟩) KS2.out ?_
          rotate_left
          · intro W hW
            clear hW
            go_simp
            all_goals with_reducible rfl
          try simp only [Act.put, List.setIfInBounds_toArray, List.set_cons_zero, List.set_cons_succ]
          refine wpAnyH_take (i := 14) (v := ?_) (by simp only [List.getElem?_toArray, List.getElem?_cons_zero, List.getElem?_cons_succ]; rfl) (by kernel_rfl) (by kernel_rfl) (by kernel_rfl) (fun _ _ _ h => h) (Or.inl ⟨by rfl, ?_⟩) KS2.out ?_
          rotate_left
          · intro W hW
            clear hW
            go_simp
            all_goals with_reducible rfl
          try simp only [Act.put, List.setIfInBounds_toArray, List.set_cons_zero, List.set_cons_succ]
          refine wpAnyH_take (i := 15) (v := ?_) (by simp only [List.getElem?_toArray, List.getElem?_cons_zero, List.getElem?_cons_succ]; rfl) (by kernel_rfl) (by kernel_rfl) (by kernel_rfl) (fun _ _ _ h => h) (Or.inl ⟨by rfl, ?_⟩) KS2.out ?_
          rotate_left
          · intro W hW
            clear hW
            go_simp
            all_goals with_reducible rfl
          try simp only [Act.put, List.setIfInBounds_toArray, List.set_cons_zero, List.set_cons_succ]
          refine wpAnyH_take (i := 16) (v := ?_) (by simp only [List.getElem?_toArray, List.getElem?_cons_zero, List.getElem?_cons_succ]; rfl) (by kernel_rfl) (by kernel_rfl) (by kernel_rfl) (fun _ _ _ h => h) (Or.inl ⟨by rfl, ?_⟩) KS2.out ?_
          rotate_left
          · intro W hW
            obtain ⟨_, l0, l1, l2, l3, l4, l5, l6, l7, l8, l9, l10⟩ := hW
            go_simp
            all_goals with_reducible rfl
          try simp only [Act.put, List.setIfInBounds_toArray, List.set_cons_zero, List.set_cons_succ]
          refine wpAnyH_take (i := 17) (v := ?_) (by simp only [List.getElem?_toArray, List.getElem?_cons_zero, List.getElem?_cons_succ]; rfl) (by kernel_rfl) (by kernel_rfl) (by kernel_rfl) (fun _ _ _ h => h) (Or.inl ⟨by rfl, ?_⟩) KS2.out ?_
          rotate_left
          · intro W hW
            obtain ⟨_, l0, l1, l2, l3, l4, l5, l6, l7, l8, l9, l10⟩ := hW
            go_simp
            all_goals with_reducible rfl
          try simp only [Act.put, List.setIfInBounds_toArray, List.set_cons_zero, List.set_cons_succ]
          refine wpAnyH_take (i := 18) (v := ?_) (by simp only [List.getElem?_toArray, List.getElem?_cons_zero, List.getElem?_cons_succ]; rfl) (by kernel_rfl) (by kernel_rfl) (by kernel_rfl) (fun _ _ _ h => h) (Or.inl ⟨by rfl, ?_⟩) KS2.out ?_
          rotate_left
          · intro W hW
            clear hW
            go_simp
            all_goals with_reducible rfl
          try simp only [Act.put, List.setIfInBounds_toArray, List.set_cons_zero, List.set_cons_succ]
          refine wpAnyH_ready (rs := [19]) (by kernel_rfl) (by simp) ?_
          refine AllReadyH.cons (by simp only [List.getElem?_toArray, List.getElem?_cons_zero, List.getElem?_cons_succ]; rfl) (fun K hK => ?_) AllReadyH.nil
          go_simp
          refine (Y2.out _).mono ?_
          rintro e W3 ⟨rfl, hb⟩
          have KS3 := Aside0.mk (KS.out _ _ KS2.out hb)
          refine hK.out _ _ KS3.out (fun _ => ?_)
          clear hK K hb
          try simp only [Act.put, List.setIfInBounds_toArray, List.set_cons_zero, List.set_cons_succ]
          refine wpAnyH_take (i := 20) (v := ?_) (by simp only [List.getElem?_toArray, List.getElem?_cons_zero, List.getElem?_cons_succ]; rfl) (by kernel_rfl) (by kernel_rfl) (by kernel_rfl) (fun _ _ _ h => h) (Or.inl ⟨by rfl, ?_⟩) KS3.out ?_
          rotate_left
          · intro W hW
            clear hW
            go_simp
            all_goals with_reducible rfl
          try simp only [Act.put, List.setIfInBounds_toArray, List.set_cons_zero, List.set_cons_succ]
          refine wpAnyH_take (i := 21) (v := ?_) (by simp only [List.getElem?_toArray, List.getElem?_cons_zero, List.getElem?_cons_succ]; rfl) (by kernel_rfl) (by kernel_rfl) (by kernel_rfl) (fun _ _ _ h => h) (Or.inl ⟨by rfl, ?_⟩) KS3.out ?_
          rotate_left
          · intro W hW
            obtain ⟨_, l0, l1, l2, l3, l4, l5, l6, l7, l8, l9, l10⟩ := hW
            go_simp
            all_goals with_reducible rfl
          try simp only [Act.put, List.setIfInBounds_toArray, List.set_cons_zero, List.set_cons_succ]
          refine wpAnyH_take (i := 22) (v := ?_) (by simp only [List.getElem?_toArray, List.getElem?_cons_zero, List.getElem?_cons_succ]; rfl) (by kernel_rfl) (by kernel_rfl) (by kernel_rfl) (fun _ _ _ h => h) (Or.inl ⟨by rfl, ?_⟩) KS3.out ?_
          rotate_left
          · intro W hW
            obtain ⟨_, l0, l1, l2, l3, l4, l5, l6, l7, l8, l9, l10⟩ := hW
            go_simp
            all_goals with_reducible rfl
          try simp only [Act.put, List.setIfInBounds_toArray, List.set_cons_zero, List.set_cons_succ]
          refine wpAnyH_take (i := 23) (v := ?_) (by simp only [List.getElem?_toArray, List.getElem?_cons_zero, List.getElem?_cons_succ]; rfl) (by kernel_rfl) (by kernel_rfl) (by kernel_rfl) (fun _ _ _ h => h) (Or.inl ⟨by rfl, ?_⟩) KS3.out ?_
          rotate_left
          · intro W hW
            clear hW
            go_simp
            all_goals with_reducible rfl
          try simp only [Act.put, List.setIfInBounds_toArray, List.set_cons_zero, List.set_cons_succ]
          refine wpAnyH_ready (rs := [24]) (by kernel_rfl) (by simp) ?_
          refine AllReadyH.cons (by simp only [List.getElem?_toArray, List.getElem?_cons_zero, List.getElem?_cons_succ]; rfl) (fun K hK => ?_) AllReadyH.nil
          go_simp
          refine (Y3.out _).mono ?_
          rintro e W4 ⟨rfl, hb⟩
          have KS4 := Aside0.mk (KS.out _ _ KS3.out hb)
          refine hK.out _ _ KS4.out (fun _ => ?_)
          clear hK K hb
          try simp only [Act.put, List.setIfInBounds_toArray, List.set_cons_zero, List.set_cons_succ]
          refine wpAnyH_take (i := 25) (v := ?_) (by simp only [List.getElem?_toArray, List.getElem?_cons_zero, List.getElem?_cons_succ]; rfl) (by kernel_rfl) (by kernel_rfl) (by kernel_rfl) (fun _ _ _ h => h) (Or.inl ⟨by rfl, ?_⟩) KS4.out ?_
          rotate_left
          · intro W hW
            clear hW
            go_simp
            all_goals with_reducible rfl
          try simp only [Act.put, List.setIfInBounds_toArray, List.set_cons_zero, List.set_cons_succ]
          refine wpAnyH_take (i := 26) (v := ?_) (by simp only [List.getElem?_toArray, List.getElem?_cons_zero, List.getElem?_cons_succ]; rfl) (by kernel_rfl) (by kernel_rfl) (by kernel_rfl) (fun _ _ _ h => h) (Or.inl ⟨by rfl, ?_⟩) KS4.out ?_
          rotate_left
          · intro W hW
            clear hW
            go_simp
            all_goals with_reducible rfl
          try simp only [Act.put, List.setIfInBounds_toArray, List.set_cons_zero, List.set_cons_succ]
          refine wpAnyH_done (by kernel_rfl) ?_ _
          refine NoPanic.normal ?_
          obtain ⟨z1, z2, z3, z4, z5⟩ := FIN.out _ KS4.out.1
          go_wp2_with fail
          exact ⟨⟨j + 1, by go_num, by omega, z1, z2, z3, z4, z5⟩, by simp [intOf]; omega⟩
        · cases hab
      · have hj3 : j = 3 := by omega
        subst hj3
        go_wp2_with fail
        go_ret
        exact ⟨rfl, HBr.out⟩
theorem PrefixHalves_row (hi lo other low n : Int) (w : World) (w0 : (Lit.int .u64 hi).wf = true) (w1 : (Lit.int .u64 lo).wf = true) (w2 : (Lit.int .u64 other).wf = true) (w3 : (Lit.int .u64 low).wf = true) (w4 : (Lit.int .u8 n).wf = true)
    (hP : Aside0 (Pows w)) (hT : Aside0 (Debr w)) (hE : Aside0 (Errs w)) (hM : Aside0 (Mx w)) :
    Calls Tryz.prog 4 #[.int .u64 hi, .int .u64 lo, .int .u64 other, .int .u64 low, .int .u8 n] w fun e w' => e = .returned (.bool true) ∧ Below w.heap.size w w' := by
  have a0 := wf_u64 w0
  have a1 := wf_u64 w1
  have a2 := wf_u64 w2
  have a3 := wf_u64 w3
  have a4 := wf_u8 w4
  obtain ⟨n', rfl⟩ : ∃ n' : Nat, n = n' := ⟨n.toNat, by omega⟩
  exact PrefixHalves_law hi lo other low n' (by omega) (by omega) (by omega) (by omega) (by omega) w hP hT hE hM
end Go.Proofs.YtplehdcnnaamkaaGreatDoor

/- A row that lists variables, its world's shape kept; a slice of numbers that came in: opened. -/
namespace Go.Proofs.YtplehdcnnaamkaaGreatDoor
open Go.ChangeShapes Go.WideShapes Go.RowKit

theorem returns_and_shaped {H : Type} {enc : TypeId × Value → H} {a : Assume} {C : Checked} {os : Os} {f : FuncId} {fn : Func} {s : ChangeSpec} {conds : List PathCond} {apart fresh handsOn again : Bool} {X : World → Array Value → Prop}
    (hX : ∀ (w w' : World) (args : Array Value), w.heap = w'.heap → X w args → X w' args)
    (own : ownKnob C.prog.godebug = none) (started : os.Started) (noInit : C.prog.inits.idxOf? f = none) (hfn : C.prog.funcs[f]? = some fn)
    (witness : ∃ (w : World) (tape : Tape) (i : Input), w.os = os ∧ (w.forCall tape i).Shaped C.prog ∧ i.vars = [] ∧ Input.okWide C.prog (w.forCall tape i) .any w.heap.size f i ∧
      ((s.pre enc C.prog fn conds apart (w.forCall tape i).memory i.args ∧ X (w.forCall tape i).memory i.args) ∧ sizedMet enc C.prog fn (OpenSpec.ofChange s) apart (w.forCall tape i).memory i.args) ∧ a.holds C.prog (lone (Frame.enter C.prog f i.args .normal) [] (w.forCall tape i)))
    (contract : ∀ (W : World) (base : Nat) (args : Array Value) (ds gs : List (DataW H)) (before : List MemPlace),
      (∀ (j : Nat) t v, fn.params[j]? = some t → args[j]? = some v → Value.okWide C.prog W .any base t v) →
      DataW.Whole enc C.prog fn.params.toList s.vars apart W args.toList ds gs before →
      conds.all (PathCond.test C.prog ⟨fn.params.toList, ds, s.plain.varTypes C.prog, gs⟩) = true →
      (DataW.weightsEach C.prog (fn.params.toList ++ s.plain.varTypes C.prog) (ds ++ gs)).all (· ≤ reachBytes) = true → X W args → W.ShapedOpen C.prog →
      a.holds C.prog (lone (Frame.enter C.prog f args .normal) [] W) →
      Calls C.prog f args W fun e W' => ∃ v, e = .returned v ∧ s.post enc C.prog fn apart fresh handsOn again W args v W') :
    ReturnsInHanded a C os f .any (fun w args => (s.pre enc C.prog fn conds apart w args ∧ X w args) ∧ sizedMet enc C.prog fn (OpenSpec.ofChange s) apart w args) (s.post enc C.prog fn apart fresh handsOn again) := by
  refine returnsInHanded_of_calls own started noInit witness ?_
  intro w tape i _ hsh _ hok hpre hholds
  obtain ⟨_, _, _, fn', hfn', _, _, _, _, hval⟩ := hok
  obtain rfl : fn' = fn := Option.some.inj (hfn'.symm.trans hfn)
  obtain ⟨⟨⟨ds, gs, before, hw, hc⟩, hx⟩, hz⟩ := hpre
  have hw' := DataW.Whole.of_heap (w' := w.forCall tape i) (by rfl) hw
  refine (contract (w.forCall tape i) w.heap.size i.args ds gs before hval hw' hc (hz.weights hw) (hX _ _ _ (by rfl) hx) hsh hholds).mono fun e W' ⟨v, he, hp⟩ => ?_
  subst he
  exact ChangeSpec.post_blind hp
theorem mx_of {W : World} (h : W.ShapedOpen Tryz.prog) : Mx W :=
  Go.Proofs.cell_of_shapedOpen_int (zero := #[.int .i64 0]) (t := 3) h (of_decide_eq_true (by kernel_rfl)) (by kernel_rfl) rfl (by kernel_rfl) (by kernel_rfl) Tryz.underlying3

end Go.Proofs.YtplehdcnnaamkaaGreatDoor

