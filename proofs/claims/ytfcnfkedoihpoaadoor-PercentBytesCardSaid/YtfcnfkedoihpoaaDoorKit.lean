/- Small lemmas of this session's own, of no program. -/
import Derived.Test.YtfcnfkedoihpoaaDoorIter
import Derived.Lib.RuneBytes
import Derived.Test.YtfcnfkedoihpoaaDoorWLast
namespace Go.Proofs.YtfcnfkedoihpoaaDoor
open Go.RowKit Go.Proofs.YtfcnfkedoihpoaaDoorW.PrintWords

theorem C_int_at {k : IntKind} {w : World} {ad : Addr} {n : Nat} {xs : List Int} (h : Kd.C (Kd.int k) w (some ad) n xs) (j : Nat) (hlt : j < xs.length) : w.cell? (ad.add j) = some (.int k (xs[j]'hlt)) := by
  obtain ⟨hl, _, hc⟩ := h
  obtain ⟨ad', e, hc⟩ := hc (by omega)
  obtain rfl := Option.some.inj e
  obtain ⟨c, hc1, hc2, hc3⟩ := hc j (xs[j]'hlt) (List.getElem?_eq_getElem hlt)
  obtain rfl : c = [.int k (xs[j]'hlt)] := hc2
  have := hc3 0 (.int k (xs[j]'hlt)) rfl
  have hsz : (Kd.int k).sz = 1 := rfl
  rw [hsz] at this
  rw [show j * 1 + 0 = j by omega] at this
  exact this
theorem C_some {α : Type} {d : Kd α} {w : World} {A : Option Addr} {n : Nat} {xs : List α} (h : Kd.C d w A n xs) (hn : 0 < n) : ∃ ad, A = some ad := by
  obtain ⟨_, _, hc⟩ := h
  obtain ⟨ad, e, _⟩ := hc hn
  exact ⟨ad, e⟩

/-- The UTF-8 of some numbers. -/
def textL (l : List Int) : List UInt8 := l.flatMap Lib.encodeRune
def textOf (l : List Int) : ByteArray := ⟨(textL l).toArray⟩
theorem textL_snoc (l : List Int) (r : Int) : textL (l ++ [r]) = textL l ++ Lib.encodeRune r := by simp [textL]
theorem encodeRune_length (r : Int) : (Lib.encodeRune r).length ≤ 4 := by
  have := Lib.runeCells_le r
  rw [Lib.runeCells_length] at this
  exact this.2
theorem textL_length (l : List Int) : (textL l).length ≤ 4 * l.length := by
  induction l with
  | nil => simp [textL]
  | cons r l ih =>
    have h := encodeRune_length r
    simp only [textL, List.flatMap_cons, List.length_append, List.length_cons] at *
    omega
theorem BuilderAtF_below {T e : TypeId} {B b : Nat} {p : Value} {bs : List Value} {w w1 : World} (h : Lib.BuilderAtF T e B b p bs w) (hb : Below w.heap.size w w1) : Lib.BuilderAtF T e B b p bs w1 := by
  have hlt := h.lt
  obtain ⟨hB, v, hv, hown, hne⟩ := h
  exact ⟨hB, v, (hb.block b hlt).trans hv, hown.kept (grown_of_below hb none) (by cases v.ownBlock <;> simp), hne⟩
theorem IsBuilderF_below {T e : TypeId} {B b : Nat} {bs : List Value} {w w1 : World} (h : Lib.IsBuilderF T e B b bs w) (hb : Below w.heap.size w w1) : Lib.IsBuilderF T e B b bs w1 :=
  h.elim (fun x => .inl (BuilderAtF_below x hb)) (fun x => .inr (BuilderAtF_below x hb))
theorem below_lower {B : Nat} {w w1 w2 : World} (h : Below B w w1) (hB : B ≤ w1.heap.size) (k : Below w1.heap.size w1 w2) : Below B w w2 := below_then h hB k
/-- A new one-cell row reads as its one element. -/
theorem C_one (k : IntKind) (w : World) (x : Int) (e : TypeId) : Kd.C (Kd.int k) (w.alloc (.cells #[.int k x] e)) (some ⟨w.heap.size, 0, none⟩) 1 [x] := by
  refine ⟨rfl, by omega, fun _ => ⟨_, rfl, fun j p hj => ?_⟩⟩
  have : j = 0 := by
    rcases j with _ | j
    · rfl
    · simp at hj
  subst this
  obtain rfl : x = p := by simpa using hj
  refine ⟨[.int k x], rfl, rfl, fun i u hi => ?_⟩
  have : i = 0 := by
    rcases i with _ | i
    · rfl
    · simp at hi
  subst this
  obtain rfl : Value.int k x = u := by simpa using hi
  show (w.alloc _).cell? ((⟨w.heap.size, 0, none⟩ : Addr).add _) = _
  rw [add_plain]
  simp
theorem take_byte (q : ByteArray) (j : Nat) (h : j < q.size) : q.data.toList.take (j + 1) = q.data.toList.take j ++ [q[j]'h] := by
  rw [List.take_succ_eq_append_getElem (by simpa using h)]
  rfl
section
variable {P : Program} {ops : Array Oper} {o : Oper} {a : Act} {Q : Exit → Act → World → Prop} {Kc : Act → World → Prop} {α : Type}
/-- An append of one element inside a region that draws its order. -/
theorem R_append_drew (d : Kd α) {w0 W : World} (base : Nat) (hw : Region.wanted o (yielded ops a.tmps) = true) (s x : Operand) (t e : TypeId) (z : Value) (bytes : Nat)
    (ho : o.op = .call { callee := .builtin .append, args := #[s, x], argTypes := #[t, t] })
    (ht : P.underlying t = some (.slice e)) (hinfo : (P.info? e).map (fun i => (i.zero, i.size, i.bytes)) = some (some z, d.sz, bytes)) (hz : z.cells.size = d.sz) (hs0 : 0 < d.sz) (hb0 : 0 < bytes)
    (v : Value) (xs : List α) (p : α) (cs : List Value) (ok okp : Nat → Prop) (hs : a.eval s = v) (hx : a.eval x = .slice (some ⟨W.heap.size, 0, none⟩) 1 1) (hp : d.M W base okp p cs) (hokp : ∀ k, okp k → ok k ∧ some k ≠ v.ownBlock) (hfresh : ∀ k, W.heap.size ≤ k → ok k)
    (HO : d.R e W base ok v xs) (HB : Below base w0 W) (hbase : base ≤ W.heap.size) (hl : (xs.length + 1) * bytes ≤ 140737488355328)
    (h : ∀ v1 w1, d.R e w1 base ok v1 (xs ++ [p]) → Below base w0 w1 → W.grownBy w1 v.ownBlock → (v1.ownBlock = v.ownBlock ∨ ∃ b, v1.ownBlock = some b ∧ W.heap.size ≤ b) → Kc (a.put o.dst v1) w1) :
    if Region.wanted o (yielded ops a.tmps) = true then Oper.wp P o a (W.alloc (.cells cs.toArray e)).drew Kc Q else Kc (a.put o.dst undef) (W.alloc (.cells cs.toArray e)).drew :=
  Kd.R_append_step d (w0 := w0) (W := W.drew) base hw s x t e z bytes ho ht hinfo hz hs0 hb0 v xs p cs ok okp hs hx (Kd.M_below hp ((Below.refl _ _).drew)) hokp hfresh (Kd.R_drew HO) (below_drew1 HB) hbase hl
    (fun v1 w1 h1 h2 h3 h4 => h v1 w1 h1 h2 ⟨h3.os, h3.tape, h3.output, h3.size, h3.block⟩ h4)
end
/-- A new row of numbers reads as its numbers. -/
theorem C_new (k : IntKind) (w : World) (xs : List Int) (e : TypeId) (hn : xs.length ≤ 9223372036854775807) : Kd.C (Kd.int k) (w.alloc (.cells (xs.map (Value.int k)).toArray e)) (some ⟨w.heap.size, 0, none⟩) xs.length xs := by
  refine ⟨rfl, hn, fun _ => ⟨_, rfl, fun j p hj => ⟨[.int k p], rfl, rfl, fun i u hi => ?_⟩⟩⟩
  have : i = 0 := by
    rcases i with _ | i
    · rfl
    · simp at hi
  subst this
  obtain rfl : Value.int k p = u := by simpa using hi
  have hsz : (Kd.int k).sz = 1 := rfl
  rw [hsz, add_plain]
  have hlt : j < xs.length := (List.getElem?_eq_some_iff.1 hj).1
  have hx : xs[j] = p := (List.getElem?_eq_some_iff.1 hj).2
  simp only [World.cell?, heap_alloc_new]
  simp [hlt, hx]
theorem wf_u8 {n : Int} (h : (Lit.int .u8 n).wf = true) : 0 ≤ n ∧ n ≤ 255 := by
  have a : IntKind.u8.min = 0 := rfl
  have b : IntKind.u8.max = 255 := rfl
  simp [Lit.wf, a, b] at h
  omega
theorem wf_u16 {n : Int} (h : (Lit.int .u16 n).wf = true) : 0 ≤ n ∧ n ≤ 65535 := by
  have a : IntKind.u16.min = 0 := rfl
  have b : IntKind.u16.max = 65535 := rfl
  simp [Lit.wf, a, b] at h
  omega
theorem wf_u32 {n : Int} (h : (Lit.int .u32 n).wf = true) : 0 ≤ n ∧ n ≤ 4294967295 := by
  have a : IntKind.u32.min = 0 := rfl
  have b : IntKind.u32.max = 4294967295 := rfl
  simp [Lit.wf, a, b] at h
  omega
theorem wf_u64 {n : Int} (h : (Lit.int .u64 n).wf = true) : 0 ≤ n ∧ n ≤ 18446744073709551615 := by
  have a : IntKind.u64.min = 0 := rfl
  have b : IntKind.u64.max = 18446744073709551615 := rfl
  simp [Lit.wf, a, b] at h
  omega
theorem wf_i32 {n : Int} (h : (Lit.int .i32 n).wf = true) : (-2147483648) ≤ n ∧ n ≤ 2147483647 := by
  have a : IntKind.i32.min = (-2147483648) := rfl
  have b : IntKind.i32.max = 2147483647 := rfl
  simp [Lit.wf, a, b] at h
  omega
theorem wf_i64 {n : Int} (h : (Lit.int .i64 n).wf = true) : (-9223372036854775808) ≤ n ∧ n ≤ 9223372036854775807 := by
  have a : IntKind.i64.min = (-9223372036854775808) := rfl
  have b : IntKind.i64.max = 9223372036854775807 := rfl
  simp [Lit.wf, a, b] at h
  omega
theorem ret_two {k : IntKind} {x y : Int} {a b : Bool} (h : x = y) (h' : a = b) : Ending.returned (.tuple #[.int k x, .bool a]) = .returned (.tuple #[.int k y, .bool b]) := by rw [h, h']
theorem ret_string {a b : ByteArray} (h : a = b) : Ending.returned (.string a) = .returned (.string b) := by rw [h]
theorem ret_bool {a b : Bool} (h : a = b) : Ending.returned (.bool a) = .returned (.bool b) := by rw [h]
theorem ret_int {k : IntKind} {a b : Int} (h : a = b) : Ending.returned (.int k a) = .returned (.int k b) := by rw [h]
end Go.Proofs.YtfcnfkedoihpoaaDoor
