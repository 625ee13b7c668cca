/- The code points of a string as the model's range gives them, one by one: plain Lean, of no program. -/
import Derived.Laws.RangeString
import Derived.Laws.RangeAny
import Derived.Lib.OthersKept
import Derived.Test.YtfieiigefllekaaGreatDoorWWords
import Derived.Lib.RuneBytes
import Derived.Test.YtfieiigefllekaaGreatDoorWLast
import Derived.Test.YtfieiigefllekaaGreatDoorProg
import Derived.Test.YtfieiigefllekaaGreatDoorWMore
import Derived.WalkKit
import Derived.BigCall
import Derived.BigQuiet
import Derived.Deep.QuietTactic
import Derived.Deep.LoopGhost
import Derived.Lib.Hide
import Derived.LoopTactic
import Derived.Outline
import Derived.RegionTactic
import Derived.ChangeAlike
import Derived.Laws.BitsLemmas
import Derived.Laws.BytesArg
import Derived.Deep.DeepCutAuto
import Derived.Deep.RegionHeld3
import Derived.StillTailTactics
import Derived.Deep.AppendLies
import Derived.Deep.RegionLaw
import Derived.Deep.RegionWith
import Derived.Deep.DeepFit
import Derived.WalkLawsBesides
import Derived.WalkSpells
namespace Go.Proofs.YtfieiigefllekaaGreatDoor
open Go

theorem width_pos (s : ByteArray) (pos : Nat) (h : pos < s.size) : 1 ≤ (Utf8.decode s pos).2 := by
  by_cases ha : (s[pos]'h).toNat < 128
  · rw [decode_ascii s pos h ha]
    exact Nat.le_refl _
  · exact (decode_high s pos h (by omega)).2

def rnF (s : ByteArray) : Nat → Nat → List Int
  | 0, _ => []
  | f + 1, p => if p < s.size then ((Utf8.decode s p).1 : Int) :: rnF s f (p + (Utf8.decode s p).2) else []
/-- The code points of a string. -/
def rn (s : ByteArray) : List Int := rnF s s.size 0

theorem rnF_end (s : ByteArray) (f p : Nat) (h : ¬ p < s.size) : rnF s f p = [] := by
  cases f with
  | zero => rfl
  | succ f => simp [rnF, h]
theorem rnF_step (s : ByteArray) (f p : Nat) (h : p < s.size) (hf : s.size ≤ p + f) : ∃ g, f = g + 1 ∧ rnF s f p = ((Utf8.decode s p).1 : Int) :: rnF s g (p + (Utf8.decode s p).2) := by
  obtain ⟨g, rfl⟩ : ∃ g, f = g + 1 := ⟨f - 1, by omega⟩
  exact ⟨g, rfl, by simp [rnF, h]⟩

end Go.Proofs.YtfieiigefllekaaGreatDoor

/- A string's iterator beside rows of the call's own: what moves past what. -/
namespace Go.Proofs.YtfieiigefllekaaGreatDoor
open Go.RowKit Go.Proofs.YtfieiigefllekaaGreatDoorW.PrintWords

section
variable {α : Type} {d : Kd α} {e : Nat} {w w1 : World} {base : Nat} {ok : Nat → Prop} {v : Value} {xs : List α} {k : Nat} {s : ByteArray} {pos : Nat}
/-- A row of the call's own stays while an iterator is moved on. -/
theorem R_iterAt (h : Kd.R d e w base ok v xs) (hk : w.heap[k]? = some (.stringIter s pos)) (pos' : Nat) : Kd.R d e (w.iterAt k s pos') base ok v xs :=
  Kd.R_mono (Kd.R_move (Kd.R_bound h) (fun j hj => by
    obtain ⟨_, _, _, q, _, cells, hc⟩ := hj
    refine Lib.iterAt_other w k j s pos' (fun e => ?_)
    rw [e, hk] at hc
    cases hc)) (fun _ hj => hj.1)
/-- An iterator stays while a row of the call's own is appended to. -/
theorem iter_grown (h : Kd.R d e w base ok v xs) (hg : w.grownBy w1 v.ownBlock) (hk : w.heap[k]? = some (.stringIter s pos)) : w1.heap[k]? = some (.stringIter s pos) := by
  have hlt : k < w.heap.size := (Array.getElem?_eq_some_iff.1 hk).1
  rw [hg.block k hlt ?_]
  · exact hk
  · intro hb
    obtain ⟨inner, ho⟩ := Kd.R_own h
    obtain ⟨cells, hc⟩ := own_typed ho k hb.symm
    rw [hk] at hc
    cases hc
theorem iter_below (hb : Below w.heap.size w w1) (hk : w.heap[k]? = some (.stringIter s pos)) : w1.heap[k]? = some (.stringIter s pos) := by
  have hlt : k < w.heap.size := (Array.getElem?_eq_some_iff.1 hk).1
  rw [hb.block k hlt]
  exact hk
end
end Go.Proofs.YtfieiigefllekaaGreatDoor

/- Small lemmas of this session's own, of no program. -/
namespace Go.Proofs.YtfieiigefllekaaGreatDoor
open Go.RowKit Go.Proofs.YtfieiigefllekaaGreatDoorW.PrintWords

theorem C_int_at {k : IntKind} {w : World} {ad : Addr} {n : Nat} {xs : List Int} (h : Kd.C (Kd.int k) w (some ad) n xs) (j : Nat) (hlt : j < xs.length) : w.cell? (ad.add j) = some (.int k (xs[j]'hlt)) := by
  obtain ⟨hl, _, hc⟩ := h
  obtain ⟨ad', e, hc⟩ := hc (by omega)
  obtain rfl := Option.some.inj e
  obtain ⟨c, hc1, hc2, hc3⟩ := hc j (xs[j]'hlt) (List.getElem?_eq_getElem hlt)
  obtain rfl : c = [.int k (xs[j]'hlt)] := hc2
  have := hc3 0 (.int k (xs[j]'hlt)) rfl
  have hsz : (Kd.int k).sz = 1 := rfl
  rw [hsz] at this
  rw [show j * 1 + 0 = j by omega] at this
  exact this
theorem C_some {α : Type} {d : Kd α} {w : World} {A : Option Addr} {n : Nat} {xs : List α} (h : Kd.C d w A n xs) (hn : 0 < n) : ∃ ad, A = some ad := by
  obtain ⟨_, _, hc⟩ := h
  obtain ⟨ad, e, _⟩ := hc hn
  exact ⟨ad, e⟩

/-- The UTF-8 of some numbers. -/
def textL (l : List Int) : List UInt8 := l.flatMap Lib.encodeRune
def textOf (l : List Int) : ByteArray := ⟨(textL l).toArray⟩
theorem textL_snoc (l : List Int) (r : Int) : textL (l ++ [r]) = textL l ++ Lib.encodeRune r := by simp [textL]
theorem encodeRune_length (r : Int) : (Lib.encodeRune r).length ≤ 4 := by
  have := Lib.runeCells_le r
  rw [Lib.runeCells_length] at this
  exact this.2
theorem textL_length (l : List Int) : (textL l).length ≤ 4 * l.length := by
  induction l with
  | nil => simp [textL]
  | cons r l ih =>
    have h := encodeRune_length r
    simp only [textL, List.flatMap_cons, List.length_append, List.length_cons] at *
    omega
theorem BuilderAtF_below {T e : TypeId} {B b : Nat} {p : Value} {bs : List Value} {w w1 : World} (h : Lib.BuilderAtF T e B b p bs w) (hb : Below w.heap.size w w1) : Lib.BuilderAtF T e B b p bs w1 := by
  have hlt := h.lt
  obtain ⟨hB, v, hv, hown, hne⟩ := h
  exact ⟨hB, v, (hb.block b hlt).trans hv, hown.kept (grown_of_below hb none) (by cases v.ownBlock <;> simp), hne⟩
theorem IsBuilderF_below {T e : TypeId} {B b : Nat} {bs : List Value} {w w1 : World} (h : Lib.IsBuilderF T e B b bs w) (hb : Below w.heap.size w w1) : Lib.IsBuilderF T e B b bs w1 :=
  h.elim (fun x => .inl (BuilderAtF_below x hb)) (fun x => .inr (BuilderAtF_below x hb))
theorem below_lower {B : Nat} {w w1 w2 : World} (h : Below B w w1) (hB : B ≤ w1.heap.size) (k : Below w1.heap.size w1 w2) : Below B w w2 := below_then h hB k
/-- A new one-cell row reads as its one element. -/
theorem C_one (k : IntKind) (w : World) (x : Int) (e : TypeId) : Kd.C (Kd.int k) (w.alloc (.cells #[.int k x] e)) (some ⟨w.heap.size, 0, none⟩) 1 [x] := by
  refine ⟨rfl, by omega, fun _ => ⟨_, rfl, fun j p hj => ?_⟩⟩
  have : j = 0 := by
    rcases j with _ | j
    · rfl
    · simp at hj
  subst this
  obtain rfl : x = p := by simpa using hj
  refine ⟨[.int k x], rfl, rfl, fun i u hi => ?_⟩
  have : i = 0 := by
    rcases i with _ | i
    · rfl
    · simp at hi
  subst this
  obtain rfl : Value.int k x = u := by simpa using hi
  show (w.alloc _).cell? ((⟨w.heap.size, 0, none⟩ : Addr).add _) = _
  rw [add_plain]
  simp
theorem take_byte (q : ByteArray) (j : Nat) (h : j < q.size) : q.data.toList.take (j + 1) = q.data.toList.take j ++ [q[j]'h] := by
  rw [List.take_succ_eq_append_getElem (by simpa using h)]
  rfl
section
variable {P : Program} {ops : Array Oper} {o : Oper} {a : Act} {Q : Exit → Act → World → Prop} {Kc : Act → World → Prop} {α : Type}
/-- An append of one element inside a region that draws its order. -/
theorem R_append_drew (d : Kd α) {w0 W : World} (base : Nat) (hw : Region.wanted o (yielded ops a.tmps) = true) (s x : Operand) (t e : TypeId) (z : Value) (bytes : Nat)
    (ho : o.op = .call { callee := .builtin .append, args := #[s, x], argTypes := #[t, t] })
    (ht : P.underlying t = some (.slice e)) (hinfo : (P.info? e).map (fun i => (i.zero, i.size, i.bytes)) = some (some z, d.sz, bytes)) (hz : z.cells.size = d.sz) (hs0 : 0 < d.sz) (hb0 : 0 < bytes)
    (v : Value) (xs : List α) (p : α) (cs : List Value) (ok okp : Nat → Prop) (hs : a.eval s = v) (hx : a.eval x = .slice (some ⟨W.heap.size, 0, none⟩) 1 1) (hp : d.M W base okp p cs) (hokp : ∀ k, okp k → ok k ∧ some k ≠ v.ownBlock) (hfresh : ∀ k, W.heap.size ≤ k → ok k)
    (HO : d.R e W base ok v xs) (HB : Below base w0 W) (hbase : base ≤ W.heap.size) (hl : (xs.length + 1) * bytes ≤ 140737488355328)
    (h : ∀ v1 w1, d.R e w1 base ok v1 (xs ++ [p]) → Below base w0 w1 → W.grownBy w1 v.ownBlock → (v1.ownBlock = v.ownBlock ∨ ∃ b, v1.ownBlock = some b ∧ W.heap.size ≤ b) → Kc (a.put o.dst v1) w1) :
    if Region.wanted o (yielded ops a.tmps) = true then Oper.wp P o a (W.alloc (.cells cs.toArray e)).drew Kc Q else Kc (a.put o.dst undef) (W.alloc (.cells cs.toArray e)).drew :=
  Kd.R_append_step d (w0 := w0) (W := W.drew) base hw s x t e z bytes ho ht hinfo hz hs0 hb0 v xs p cs ok okp hs hx (Kd.M_below hp ((Below.refl _ _).drew)) hokp hfresh (Kd.R_drew HO) (below_drew1 HB) hbase hl
    (fun v1 w1 h1 h2 h3 h4 => h v1 w1 h1 h2 ⟨h3.os, h3.tape, h3.output, h3.size, h3.block⟩ h4)
end
/-- A new row of numbers reads as its numbers. -/
theorem C_new (k : IntKind) (w : World) (xs : List Int) (e : TypeId) (hn : xs.length ≤ 9223372036854775807) : Kd.C (Kd.int k) (w.alloc (.cells (xs.map (Value.int k)).toArray e)) (some ⟨w.heap.size, 0, none⟩) xs.length xs := by
  refine ⟨rfl, hn, fun _ => ⟨_, rfl, fun j p hj => ⟨[.int k p], rfl, rfl, fun i u hi => ?_⟩⟩⟩
  have : i = 0 := by
    rcases i with _ | i
    · rfl
    · simp at hi
  subst this
  obtain rfl : Value.int k p = u := by simpa using hi
  have hsz : (Kd.int k).sz = 1 := rfl
  rw [hsz, add_plain]
  have hlt : j < xs.length := (List.getElem?_eq_some_iff.1 hj).1
  have hx : xs[j] = p := (List.getElem?_eq_some_iff.1 hj).2
  simp only [World.cell?, heap_alloc_new]
  simp [hlt, hx]
theorem wf_u8 {n : Int} (h : (Lit.int .u8 n).wf = true) : 0 ≤ n ∧ n ≤ 255 := by
  have a : IntKind.u8.min = 0 := rfl
  have b : IntKind.u8.max = 255 := rfl
  simp [Lit.wf, a, b] at h
  omega
theorem wf_u16 {n : Int} (h : (Lit.int .u16 n).wf = true) : 0 ≤ n ∧ n ≤ 65535 := by
  have a : IntKind.u16.min = 0 := rfl
  have b : IntKind.u16.max = 65535 := rfl
  simp [Lit.wf, a, b] at h
  omega
theorem wf_u32 {n : Int} (h : (Lit.int .u32 n).wf = true) : 0 ≤ n ∧ n ≤ 4294967295 := by
  have a : IntKind.u32.min = 0 := rfl
  have b : IntKind.u32.max = 4294967295 := rfl
  simp [Lit.wf, a, b] at h
  omega
theorem wf_u64 {n : Int} (h : (Lit.int .u64 n).wf = true) : 0 ≤ n ∧ n ≤ 18446744073709551615 := by
  have a : IntKind.u64.min = 0 := rfl
  have b : IntKind.u64.max = 18446744073709551615 := rfl
  simp [Lit.wf, a, b] at h
  omega
theorem wf_i32 {n : Int} (h : (Lit.int .i32 n).wf = true) : (-2147483648) ≤ n ∧ n ≤ 2147483647 := by
  have a : IntKind.i32.min = (-2147483648) := rfl
  have b : IntKind.i32.max = 2147483647 := rfl
  simp [Lit.wf, a, b] at h
  omega
theorem wf_i64 {n : Int} (h : (Lit.int .i64 n).wf = true) : (-9223372036854775808) ≤ n ∧ n ≤ 9223372036854775807 := by
  have a : IntKind.i64.min = (-9223372036854775808) := rfl
  have b : IntKind.i64.max = 9223372036854775807 := rfl
  simp [Lit.wf, a, b] at h
  omega
theorem ret_two {k : IntKind} {x y : Int} {a b : Bool} (h : x = y) (h' : a = b) : Ending.returned (.tuple #[.int k x, .bool a]) = .returned (.tuple #[.int k y, .bool b]) := by rw [h, h']
theorem ret_string {a b : ByteArray} (h : a = b) : Ending.returned (.string a) = .returned (.string b) := by rw [h]
theorem ret_bool {a b : Bool} (h : a = b) : Ending.returned (.bool a) = .returned (.bool b) := by rw [h]
theorem ret_int {k : IntKind} {a b : Int} (h : a = b) : Ending.returned (.int k a) = .returned (.int k b) := by rw [h]
end Go.Proofs.YtfieiigefllekaaGreatDoor

/- The head that all walks of this seat import. -/
namespace Go.Proofs.YtfieiigefllekaaGreatDoor
theorem info_u8 : (Tryz.prog.info? 5).map (fun i => (i.zero, i.size, i.bytes)) = some (some (.int .u8 0), 1, 1) := by kernel_rfl
theorem info_rune : (Tryz.prog.info? 21).map (fun i => (i.zero, i.size, i.bytes)) = some (some (.int .i32 0), 1, 4) := by kernel_rfl
theorem info_string : (Tryz.prog.info? 9).map (fun i => (i.zero, i.size, i.bytes)) = some (some (.string ⟨#[]⟩), 1, 16) := by kernel_rfl
end Go.Proofs.YtfieiigefllekaaGreatDoor

/- Digits' values. -/
namespace Go.Proofs.YtfieiigefllekaaGreatDoor
open Go.RowKit

/-- A digit's value to the base 16; -1: it is none. -/
def hexV (r : Int) : Int := if 48 ≤ r ∧ r ≤ 57 then r - 48 else if 65 ≤ r ∧ r ≤ 70 then r - 55 else if 97 ≤ r ∧ r ≤ 102 then r - 87 else -1
theorem hexV_bd (r : Int) : -1 ≤ hexV r ∧ hexV r ≤ 15 := by unfold hexV; split <;> (try split) <;> (try split) <;> omega
def isDig (r : Int) : Bool := decide (48 ≤ r) && decide (r ≤ 57)

set_option maxHeartbeats 400000 in
theorem Digit_calls (r : Int) (w : World) : Calls Tryz.prog 122 #[.int .i32 r] w fun e w' => e = .returned (.bool (isDig r)) ∧ w = w' := by
  by_cases h1 : 48 ≤ r
  · go_enter Tryz.func122, Tryz.ntmps122
    go_wp2
    go_ret
    exact ⟨by simp [isDig, h1], rfl⟩
  · go_enter Tryz.func122, Tryz.ntmps122
    go_wp2
    go_ret
    exact ⟨by simp [isDig]; omega, rfl⟩

theorem hexV_cases (r : Int) : (r < 48 ∧ hexV r = -1) ∨ (48 ≤ r ∧ r ≤ 57 ∧ hexV r = r - 48) ∨ (57 < r ∧ r < 65 ∧ hexV r = -1) ∨ (65 ≤ r ∧ r ≤ 70 ∧ hexV r = r - 55) ∨ (70 < r ∧ r < 97 ∧ hexV r = -1) ∨ (97 ≤ r ∧ r ≤ 102 ∧ hexV r = r - 87) ∨ (102 < r ∧ hexV r = -1) := by
  unfold hexV; split <;> (try split) <;> (try split) <;> omega

set_option maxHeartbeats 1000000 in
theorem Value_calls (r : Int) (w : World) : Calls Tryz.prog 112 #[.int .i32 r] w fun e w' => e = .returned (.int .i64 (hexV r)) ∧ w = w' := by
  rcases hexV_cases r with ⟨h1, h⟩ | ⟨h1, h2, h⟩ | ⟨h1, h2, h⟩ | ⟨h1, h2, h⟩ | ⟨h1, h2, h⟩ | ⟨h1, h2, h⟩ | ⟨h1, h⟩
  all_goals
    have H := Lib.hid h
    clear h
    go_enter Tryz.func112, Tryz.ntmps112
    go_wp2
    go_ret
    exact ⟨ret_int (by rw [H.out]; try omega), rfl⟩

set_option maxHeartbeats 1000000 in
theorem rValue_calls (r : Int) (w : World) (hlo : -2147483648 ≤ r) (hhi : r ≤ 2147483647) : Calls Tryz.prog 113 #[.int .i32 r] w fun e w' => e = .returned (.int .i64 (hexV r)) ∧ w = w' := by
  rcases hexV_cases r with ⟨h1, h⟩ | ⟨h1, h2, h⟩ | ⟨h1, h2, h⟩ | ⟨h1, h2, h⟩ | ⟨h1, h2, h⟩ | ⟨h1, h2, h⟩ | ⟨h1, h⟩
  all_goals
    have H := Lib.hid h
    clear h
    go_enter Tryz.func113, Tryz.ntmps113
    go_wp2
    go_ret
    exact ⟨ret_int (by rw [H.out]; try omega), rfl⟩
theorem rValue_byte (x : UInt8) (w : World) : Calls Tryz.prog 113 #[.int .i32 (x.toNat : Int)] w fun e w' => e = .returned (.int .i64 (hexV (x.toNat : Int))) ∧ w = w' := by
  have := x.toNat_lt
  exact rValue_calls _ w (by omega) (by omega)
theorem Value_byte (x : UInt8) (w : World) : Calls Tryz.prog 112 #[.int .i32 (x.toNat : Int)] w fun e w' => e = .returned (.int .i64 (hexV (x.toNat : Int))) ∧ w = w' := Value_calls _ w
end Go.Proofs.YtfieiigefllekaaGreatDoor

/- percent.at, Decode, Right. -/
namespace Go.Proofs.YtfieiigefllekaaGreatDoor
open Go.RowKit Go.Proofs.YtfieiigefllekaaGreatDoorW.PrintWords Go.Proofs.YtfieiigefllekaaGreatDoorW.PrintMore

/-- Do % and two digits stand at the head? -/
def threeL : List UInt8 → Bool
  | c :: a :: b :: _ => c == 37 && (decide (0 ≤ hexV (a.toNat : Int)) && decide (0 ≤ hexV (b.toNat : Int)))
  | _ => false
def valL : List UInt8 → Int
  | _ :: a :: b :: _ => 16 * hexV (a.toNat : Int) + hexV (b.toNat : Int)
  | _ => 0

theorem drop_byte (q : ByteArray) (j : Nat) (h : j < q.size) : q.data.toList.drop j = (q[j]'h) :: q.data.toList.drop (j + 1) := by
  rw [List.drop_eq_getElem_cons (by simpa using h)]
  rfl

theorem or_hex_fin : ∀ a : Fin 16, ∀ b : Fin 16, (Go.bits .or .i64 (wrap64 ((a.val : Int) * 16)) (b.val : Int)) % 256 = 16 * (a.val : Int) + (b.val : Int) := by decide +kernel
theorem or_hex (a b : Int) (ha : 0 ≤ a) (ha' : a ≤ 15) (hb : 0 ≤ b) (hb' : b ≤ 15) : (Go.bits .or .i64 (wrap64 (a * 16)) b) % 256 = 16 * a + b := by
  have := or_hex_fin ⟨a.toNat, by omega⟩ ⟨b.toNat, by omega⟩
  simp only [Int.toNat_of_nonneg ha, Int.toNat_of_nonneg hb] at this
  exact this

theorem three_at (t : ByteArray) (j : Nat) (h2 : j + 2 < t.size) (hc : (t[j]'(by omega)).toNat = 37) :
    threeL (t.data.toList.drop j) = (decide (0 ≤ hexV ((t[j+1]'(by omega)).toNat : Int)) && decide (0 ≤ hexV ((t[j+2]'h2).toNat : Int))) ∧ valL (t.data.toList.drop j) = 16 * hexV ((t[j+1]'(by omega)).toNat : Int) + hexV ((t[j+2]'h2).toNat : Int) := by
  rw [drop_byte t j (by omega), drop_byte t (j + 1) (by omega), drop_byte t (j + 2) h2]
  have : ((t[j]'(by omega)) == 37) = true := by
    rw [beq_iff_eq]
    exact UInt8.toNat_inj.1 hc
  simp [threeL, valL, this]
theorem three_short (t : ByteArray) (j : Nat) (h2 : ¬ j + 2 < t.size) : threeL (t.data.toList.drop j) = false := by
  have : (t.data.toList.drop j).length ≤ 2 := by rw [List.length_drop]; simp; omega
  rcases hl : t.data.toList.drop j with _ | ⟨a, _ | ⟨b, _ | ⟨c, r⟩⟩⟩
  · rfl
  · rfl
  · rfl
  · rw [hl] at this; simp at this
theorem three_not (t : ByteArray) (j : Nat) (hj : j < t.size) (hc : ¬ (t[j]'hj).toNat = 37) : threeL (t.data.toList.drop j) = false := by
  rw [drop_byte t j hj]
  have : ((t[j]'hj) == 37) = false := by
    rw [beq_eq_false_iff_ne]
    intro h
    rw [h] at hc
    exact hc rfl
  rcases t.data.toList.drop (j + 1) with _ | ⟨b, _ | ⟨c, r⟩⟩
  · rfl
  · rfl
  · simp [threeL, this]

set_option maxHeartbeats 1000000 in
theorem at_calls (t : ByteArray) (j : Nat) (hj : j < t.size) (hs : t.size ≤ 1000000) (w : World) :
    Calls Tryz.prog 164 #[.string t, .int .i64 j] w fun e w' => ∃ x : Int, e = .returned (.tuple #[.int .u8 x, .bool (threeL (t.data.toList.drop j))]) ∧ Aside0 (threeL (t.data.toList.drop j) = true → x = valL (t.data.toList.drop j)) ∧ Drawn0 w w' := by
  by_cases hc : (t[j]'hj).toNat = 37
  · by_cases h2 : j + 2 < t.size
    · have E3 := Lib.hid (three_at t j h2 hc)
      have hcb : (((t[j]'hj).toNat : Int) != 37) = false := by simp [hc]
      clear hc
      have hge : decide ((t.size : Int) ≤ (j : Int) + 2) = false := by simp; omega
      have i1 : IntKind.i64.wrap ((j : Int) + 1) = (j : Int) + 1 := IntWalk.i64_in _ (by omega)
      have i2 : IntKind.i64.wrap ((j : Int) + 2) = (j : Int) + 2 := IntWalk.i64_in _ (by omega)
      have p1 : 0 ≤ (j : Int) + 1 := by omega
      have p2 : 0 ≤ (j : Int) + 2 := by omega
      have p3 : (j : Int) + 1 < (t.size : Int) := by omega
      have p4 : (j : Int) + 2 < (t.size : Int) := by omega
      have n1 : ((j : Int) + 1).toNat = j + 1 := by omega
      have n2 : ((j : Int) + 2).toNat = j + 2 := by omega
      have b1 := (t[j+1]'(by omega)).toNat_lt
      have b2 := (t[j+2]'(by omega)).toNat_lt
      by_cases h0 : 0 ≤ hexV ((t[j+1]'(by omega)).toNat : Int)
      all_goals
        go_enter Tryz.func164, Tryz.ntmps164
        go_wp2_with fail
        go_quiet ((go_at_call 112; exact Calls.quiet_of_same ((Value_calls _ _).mono fun _ _ h => ⟨h.1, h.2.symm⟩)))
        go_wp2_with fail
        go_ret2
        refine ⟨_, ret_two rfl ?_, ⟨fun h3 => ?_⟩, by repeat (first | exact Drawn0.refl _ | apply Drawn0.step)⟩
        · rw [E3.out.1]; first | (simp [h0]; done) | (simp; omega)
        · rw [E3.out.2]
          rw [E3.out.1, Bool.and_eq_true, decide_eq_true_eq, decide_eq_true_eq] at h3
          exact or_hex _ _ h3.1 (hexV_bd _).2 h3.2 (hexV_bd _).2
    · have E3 := Lib.hid (three_short t j h2)
      have hcb : (((t[j]'hj).toNat : Int) != 37) = false := by simp [hc]
      clear hc
      have hge : decide ((t.size : Int) ≤ (j : Int) + 2) = true := by simp; omega
      go_enter Tryz.func164, Tryz.ntmps164
      go_wp2_with fail
      go_ret2
      exact ⟨_, ret_two rfl E3.out.symm, ⟨fun h3 => by rw [E3.out] at h3; cases h3⟩, Drawn0.refl _⟩
  · have E3 := Lib.hid (three_not t j hj hc)
    have hcb : (((t[j]'hj).toNat : Int) != 37) = true := by simp; omega
    clear hc
    go_enter Tryz.func164, Tryz.ntmps164
    go_wp2_with fail
    go_ret2
    exact ⟨_, ret_two rfl E3.out.symm, ⟨fun h3 => by rw [E3.out] at h3; cases h3⟩, Drawn0.refl _⟩

def decF : Nat → List UInt8 → List UInt8
  | 0, _ => []
  | _ + 1, [] => []
  | n + 1, c :: r => if threeL (c :: r) = true then UInt8.ofNat (valL (c :: r)).toNat :: decF n (r.drop 2) else c :: decF n r
/-- What was encoded. -/
def decL (l : List UInt8) : List UInt8 := decF l.length l
theorem decF_enough : ∀ (n m : Nat) (l : List UInt8), l.length ≤ n → l.length ≤ m → decF n l = decF m l
  | 0, 0, _, _, _ => rfl
  | 0, m + 1, l, h, _ => by
    obtain rfl : l = [] := List.length_eq_zero_iff.1 (by omega)
    rfl
  | n + 1, 0, l, _, h => by
    obtain rfl : l = [] := List.length_eq_zero_iff.1 (by omega)
    rfl
  | n + 1, m + 1, [], _, _ => rfl
  | n + 1, m + 1, c :: r, h, h' => by
    simp only [List.length_cons] at h h'
    have e1 : decF n (r.drop 2) = decF m (r.drop 2) := decF_enough n m _ (by rw [List.length_drop]; omega) (by rw [List.length_drop]; omega)
    have e2 : decF n r = decF m r := decF_enough n m _ (by omega) (by omega)
    simp only [decF, e1, e2]
theorem decL_three (l : List UInt8) (h : threeL l = true) : decL l = UInt8.ofNat (valL l).toNat :: decL (l.drop 3) := by
  rcases l with _ | ⟨c, r⟩
  · cases h
  · rw [decL, List.length_cons, decF, if_pos h, decL, show (c :: r).drop 3 = r.drop 2 from rfl, decF_enough r.length (r.drop 2).length _ (by rw [List.length_drop]; omega) (Nat.le_refl _)]
theorem decL_not (c : UInt8) (r : List UInt8) (h : threeL (c :: r) = false) : decL (c :: r) = c :: decL r := by
  rw [decL, List.length_cons, decF, if_neg (by rw [h]; decide), decL]
theorem valL_bd (l : List UInt8) (h : threeL l = true) : 0 ≤ valL l ∧ valL l ≤ 255 := by
  rcases l with _ | ⟨c, _ | ⟨a, _ | ⟨b, r⟩⟩⟩
  · cases h
  · cases h
  · cases h
  · simp only [threeL, Bool.and_eq_true, decide_eq_true_eq] at h
    have h1 := hexV_bd (a.toNat : Int)
    have h2 := hexV_bd (b.toNat : Int)
    simp only [valL]
    omega
theorem decL_nil : decL [] = [] := rfl

/-- Bytes as whole numbers. -/
def intsOf (l : List UInt8) : List Int := l.map fun b => (b.toNat : Int)
theorem intsOf_append (a b : List UInt8) : intsOf (a ++ b) = intsOf a ++ intsOf b := by simp [intsOf]
theorem strOf_ints (l : List UInt8) : strOfNums (intsOf l) = ⟨l.toArray⟩ := by
  have : l.map ((fun n : Int => UInt8.ofNat n.toNat) ∘ fun b : UInt8 => (b.toNat : Int)) = l := by
    conv => rhs; rw [← List.map_id l]
    refine List.map_congr_left fun b _ => ?_
    simp
  simp [strOfNums, intsOf, this]

set_option maxHeartbeats 1000000 in
theorem Decode_calls (t : ByteArray) (hs : t.size ≤ 1000000) (w : World) :
    Calls Tryz.prog 159 #[.string t] w fun e w' => e = .returned (.string ⟨(decL t.data.toList).toArray⟩) ∧ Below w.heap.size w w' := by
  go_enter Tryz.func159, Tryz.ntmps159
  go_wp2
  go_loopw [3, 4] (fun v i wr => ∃ (j : Nat) (l : List UInt8), i = .int .i64 j ∧ l.length ≤ j ∧ j ≤ t.size ∧ Aside0 (l ++ decL (t.data.toList.drop j) = decL t.data.toList) ∧ Aside0 (Kd.R (Kd.int .u8) 5 wr w.heap.size (fun _ => True) v (intsOf l)) ∧ Aside0 (Below w.heap.size w wr)) (fun _ i _ => t.size - (intOf i).toNat)
  case atStart => exact ⟨0, [], rfl, by simp, by omega, ⟨rfl⟩, ⟨Kd.R_nil _ _ _ _ _⟩, ⟨Below.refl _ _⟩⟩
  case round =>
    obtain ⟨j, l, rfl, hl, hj, hr, HO, HB⟩ := hrel
    by_cases hlt : j < t.size
    · go_wp2_with fail
      refine (at_calls t j hlt hs _).mono ?_
      rintro e w1 ⟨x, rfl, hx, hd⟩
      have HO1 := Aside0.mk (Kd.R_below HO.out hd.below)
      have HB1 := Aside0.mk (below_then HB.out HB.out.size hd.below)
      have hsz : w.heap.size ≤ w1.heap.size := HB1.out.size
      clear HO HB hd
      cases h3 : threeL (t.data.toList.drop j)
      · have hx2 := t[j].toNat_lt
        have H3 := Lib.hid h3
        clear h3 hx
        go_wp2_with ((with_reducible refine gate_builtin (b := .append) (xs := #[.tmp 25, .tmp 27]) rfl ?_); at_builtin; refine Kd.R_append (Kd.int .u8) (w0 := w) w.heap.size rfl (.tmp 25) (.tmp 27) 138 5 (.int .u8 0) 1 rfl Tryz.underlying138 info_u8 rfl (by decide) (by omega) u3 (intsOf l) (t[j].toNat : Int) [.int .u8 (t[j].toNat : Int)] (fun _ => True) (fun _ => False) rfl rfl ?aP (fun _ hk => hk.elim) ?aF ?aO ?aB ?aS ?aL ?_; (case aP => exact rfl); (case aF => exact fun _ _ => trivial); (case aO => exact HO1.out); (case aB => exact HB1.out); (case aS => omega); (case aL => rw [intsOf, List.length_map]; omega); intro v1 w1 ho hb hg _)
        refine ⟨⟨j + 1, l ++ [t[j]], by go_num, by simp; omega, by omega, ⟨?_⟩, ⟨by rw [intsOf_append]; exact ho⟩, ⟨hb⟩⟩, by simp [intOf]; omega⟩
        have h4 := H3.out
        rw [drop_byte t j hlt] at h4
        rw [← hr.out, drop_byte t j hlt, decL_not _ _ h4, List.append_assoc]
        rfl
      · have hv := valL_bd _ h3
        have hx1 := hx.out h3
        have hx2 : 0 ≤ x ∧ x ≤ 255 := by omega
        have hj3 : j + 2 < t.size := by
          rcases Nat.lt_or_ge (j + 2) t.size with h | h
          · exact h
          · rw [three_short t j (by omega)] at h3; cases h3
        have H3 := Lib.hid h3
        have HX := Lib.hid hx1
        clear h3 hx hx1 hv
        go_wp2_with ((with_reducible refine gate_builtin (b := .append) (xs := #[.tmp 25, .tmp 27]) rfl ?_); at_builtin; refine Kd.R_append (Kd.int .u8) (w0 := w) w.heap.size rfl (.tmp 25) (.tmp 27) 138 5 (.int .u8 0) 1 rfl Tryz.underlying138 info_u8 rfl (by decide) (by omega) u3 (intsOf l) x [.int .u8 x] (fun _ => True) (fun _ => False) rfl rfl ?aP (fun _ hk => hk.elim) ?aF ?aO ?aB ?aS ?aL ?_; (case aP => exact rfl); (case aF => exact fun _ _ => trivial); (case aO => exact HO1.out); (case aB => exact HB1.out); (case aS => omega); (case aL => rw [intsOf, List.length_map]; omega); intro v1 w1 ho hb hg _)
        refine ⟨⟨j + 3, l ++ [UInt8.ofNat x.toNat], by go_num, by simp; omega, by omega, ⟨?_⟩, ⟨?_⟩, ⟨hb⟩⟩, by simp [intOf]; omega⟩
        · rw [← hr.out, decL_three _ H3.out, HX.out, List.drop_drop, List.append_assoc]
          rfl
        · rw [intsOf_append]
          have : intsOf [UInt8.ofNat x.toNat] = [x] := by
            simp [intsOf]; omega
          rw [this]
          exact ho
    · have hcv := own_string (P := Tryz.prog) Tryz.underlying138 Tryz.underlying5 Tryz.underlying9 (Kd.own_of_R HO.out)
      go_wp2
      go_ret
      have he := hr.out
      rw [List.drop_of_length_le (by simp; omega), decL_nil, List.append_nil] at he
      exact ⟨ret_string (by rw [strOf_ints, he]), HB.out⟩
end Go.Proofs.YtfieiigefllekaaGreatDoor
