/- Texts that the claim's row leans on, joined by wip/pack.py: TrW TrA Hlt TrB TrC TrD TrE AdT1 AdE Ad3 PfT Pf8 TrF TrG Aw5P Aw4 Aw5 Aw6 Aw7 Aw8 TrQ TrR Pfs MpP PrefixTells -/
import Derived.Test.YtplehdcnnaamkaaGreatDoorKTrieLongest3
import Derived.Test.YtplehdcnnaamkaaGreatDoorProg
import Derived.BigRegion
import Derived.Deep.Cut
import Derived.Deep.CutRange
import Derived.Deep.RegionHeld3
import Derived.Deep.SlicePairs
import Derived.Maps.Own
import Derived.Maps.OwnOps
import Derived.Maps.OwnSet
import Derived.DeepKeys4
/- Tries in memory: what lies where. -/
namespace Go.Proofs.YtplehdcnnaamkaaGreatDoor
open Go.RowKit

/-- A pointer to a node, or nil. -/
def ptrN (o : Option Nat) : Value := .pointer (o.map fun b => ⟨b, 0, none⟩)
abbrev Nd := Bool × Int × P3
def nd0 : Nd := (false, 0, 0, 0, 0)
/-- A node's cells. -/
def ndC (l r : Option Nat) (d : Nd) : Array Value := #[ptrN l, ptrN r, .bool d.1, .int .i64 d.2.1, .int .u64 d.2.2.1, .int .u64 d.2.2.2.1, .int .i64 d.2.2.2.2]
abbrev Nm := List Bool → Option Nat
abbrev Dm := List Bool → Nd
/-- What a trie's nodes tell. -/
def infoI (N : Nm) (D : Dm) (π : List Bool) : Option (Int × P3) := match N π with
  | some _ => if (D π).1 = true then some (D π).2 else none
  | none => none
/-- The nodes lie in the world. -/
structure Rep (w : World) (N : Nm) (D : Dm) : Prop where
  cell : ∀ π b, N π = some b → w.heap[b]? = some (.cells (ndC (N (π ++ [false])) (N (π ++ [true])) (D π)) 129 (0, 0))
  up : ∀ π c, N (π ++ [c]) ≠ none → N π ≠ none
  inj : ∀ π σ b, N π = some b → N σ = some b → π = σ
  deep : ∀ π, N π ≠ none → π.length ≤ 128
theorem Rep.lt {w : World} {N : Nm} {D : Dm} (h : Rep w N D) {π : List Bool} {b : Nat} (hb : N π = some b) : b < w.heap.size := (Array.getElem?_eq_some_iff.1 (h.cell π b hb)).1
theorem Rep.keep {w w' : World} {N : Nm} {D : Dm} (h : Rep w N D) (hk : ∀ π b, N π = some b → w'.heap[b]? = w.heap[b]?) : Rep w' N D :=
  ⟨fun π b hb => (hk π b hb).trans (h.cell π b hb), h.up, h.inj, h.deep⟩
theorem Rep.below {w w' : World} {N : Nm} {D : Dm} (h : Rep w N D) (hb : Below w.heap.size w w') : Rep w' N D := h.keep fun _ _ hn => hb.block _ (h.lt hn)
def updN {α : Type} (f : List Bool → α) (π : List Bool) (x : α) : List Bool → α := fun σ => if σ = π then x else f σ
theorem updN_self {α : Type} (f : List Bool → α) (π : List Bool) (x : α) : updN f π x π = x := if_pos rfl
theorem updN_other {α : Type} (f : List Bool → α) (π σ : List Bool) (x : α) (h : σ ≠ π) : updN f π x σ = f σ := if_neg h
theorem snoc_ne (π : List Bool) (c : Bool) : π ++ [c] ≠ π := fun h => by have := congrArg List.length h; simp at this
theorem snoc_inj {π σ : List Bool} {c d : Bool} (h : π ++ [c] = σ ++ [d]) : π = σ ∧ c = d := by
  have h1 := List.append_inj' h rfl
  exact ⟨h1.1, by simpa using h1.2⟩
def kid (c : Bool) : Nat := if c = true then 1 else 0
/-- A new node is laid below one. -/
theorem Rep.grow {w : World} {N : Nm} {D : Dm} (h : Rep w N D) {π : List Bool} {n : Nat} {c : Bool} (hn : N π = some n) (hc : N (π ++ [c]) = none) (hd : π.length < 128) :
    Rep ((w.alloc (.cells (ndC none none nd0) 129)).setCell ⟨n, kid c, none⟩ (ptrN (some w.heap.size))) (updN N (π ++ [c]) (some w.heap.size)) (updN D (π ++ [c]) nd0) := by
  have hlt := h.lt hn
  have hcell := h.cell π n hn
  have h1 : (w.alloc (.cells (ndC none none nd0) 129)).heap[n]? = some (.cells (ndC (N (π ++ [false])) (N (π ++ [true])) (D π)) 129 (0, 0)) := by
    rw [Below.heap_alloc _ _ _ hlt]; exact hcell
  have hnone : ∀ x, N (π ++ [c] ++ [x]) = none := fun x => by
    cases hx : N (π ++ [c] ++ [x]) with
    | none => rfl
    | some k => exact absurd hc (h.up (π ++ [c]) x (by rw [hx]; simp))
  refine ⟨fun ρ b hb => ?_, fun ρ x hx => ?_, fun ρ σ b hρ hσ => ?_, fun ρ hρ => ?_⟩
  · by_cases e : ρ = π ++ [c]
    · subst e
      rw [updN_self] at hb
      obtain rfl := Option.some.inj hb
      rw [Below.heap_setCell _ _ _ _ (by show w.heap.size ≠ n; omega), heap_alloc_new, updN_self, updN_other _ _ _ _ (snoc_ne _ _), updN_other _ _ _ _ (snoc_ne _ _), hnone, hnone]
    · rw [updN_other _ _ _ _ e] at hb
      rw [updN_other _ _ _ _ e]
      by_cases e' : ρ = π
      · subst e'
        obtain rfl := Option.some.inj (hn.symm.trans hb)
        have hs := heap_setN (j := kid c) (ptrN (some w.heap.size)) h1
        rw [hs]
        cases c
        · rw [updN_self, updN_other _ _ _ _ (fun e2 => by simpa using (snoc_inj e2).2)]
          rfl
        · rw [updN_self, updN_other _ _ _ _ (fun e2 => by simpa using (snoc_inj e2).2)]
          rfl
      · have hbn : b ≠ n := fun e2 => e' (h.inj _ _ _ hb (by rw [e2]; exact hn))
        rw [Below.heap_setCell _ _ _ _ hbn, Below.heap_alloc _ _ _ (h.lt hb), updN_other _ _ _ _ (fun e2 => e' (snoc_inj e2).1), updN_other _ _ _ _ (fun e2 => e' (snoc_inj e2).1)]
        exact h.cell ρ b hb
  · by_cases e : ρ ++ [x] = π ++ [c]
    · rw [(snoc_inj e).1, updN_other _ _ _ _ (fun e2 => snoc_ne π c e2.symm), hn]
      simp
    · rw [updN_other _ _ _ _ e] at hx
      by_cases e' : ρ = π ++ [c]
      · rw [e', updN_self]; simp
      · rw [updN_other _ _ _ _ e']
        exact h.up ρ x hx
  · by_cases e : ρ = π ++ [c]
    · by_cases e' : σ = π ++ [c]
      · rw [e, e']
      · rw [e, updN_self] at hρ
        rw [updN_other _ _ _ _ e'] at hσ
        have := h.lt hσ
        have := Option.some.inj hρ
        omega
    · rw [updN_other _ _ _ _ e] at hρ
      by_cases e' : σ = π ++ [c]
      · rw [e', updN_self] at hσ
        have := h.lt hρ
        have := Option.some.inj hσ
        omega
      · rw [updN_other _ _ _ _ e'] at hσ
        exact h.inj _ _ _ hρ hσ
  · by_cases e : ρ = π ++ [c]
    · rw [e, List.length_append]
      simp only [List.length_cons, List.length_nil]
      omega
    · rw [updN_other _ _ _ _ e] at hρ
      exact h.deep _ hρ
theorem info_grow (N : Nm) (D : Dm) (π : List Bool) (x : Nat) (h : N π = none) : infoI (updN N π (some x)) (updN D π nd0) = infoI N D := by
  funext σ
  by_cases e : σ = π
  · subst e
    simp only [infoI, updN_self, h]
    rfl
  · simp only [infoI, updN_other _ _ _ _ e]
theorem info_write (N : Nm) (D : Dm) (π : List Bool) (b : Nat) (d : Nd) (h : N π = some b) : infoI N (updN D π d) π = (if d.1 = true then some d.2 else none) ∧ ∀ σ, σ ≠ π → infoI N (updN D π d) σ = infoI N D σ := by
  refine ⟨?_, fun σ e => ?_⟩
  · simp only [infoI, h, updN_self]
  · simp only [infoI, updN_other _ _ _ _ e]
/-- Blocks of S may have turned, all others are as they were. -/
structure Fr (S : Nat → Prop) (w w' : World) : Prop where
  os : w'.os = w.os
  tape : w'.tape = w.tape
  output : w'.output = w.output
  size : w.heap.size ≤ w'.heap.size
  block : ∀ k, k < w.heap.size → ¬ S k → w'.heap[k]? = w.heap[k]?
theorem Fr.of_below {S : Nat → Prop} {w w' : World} (h : Below w.heap.size w w') : Fr S w w' := ⟨h.os, h.tape, h.output, h.size, fun k hk _ => h.block k hk⟩
theorem Fr.refl (S : Nat → Prop) (w : World) : Fr S w w := ⟨rfl, rfl, rfl, Nat.le_refl _, fun _ _ _ => rfl⟩
theorem Fr.trans {S S' : Nat → Prop} {a b c : World} (h : Fr S a b) (k : Fr S' b c) (hs : ∀ i, i < a.heap.size → S' i → S i) : Fr S a c :=
  ⟨k.os.trans h.os, k.tape.trans h.tape, k.output.trans h.output, Nat.le_trans h.size k.size, fun i hi hn => (k.block i (Nat.lt_of_lt_of_le hi h.size) (fun q => hn (hs i hi q))).trans (h.block i hi hn)⟩
theorem Fr.mono {S S' : Nat → Prop} {a b : World} (h : Fr S a b) (hs : ∀ i, i < a.heap.size → S i → S' i) : Fr S' a b := ⟨h.os, h.tape, h.output, h.size, fun i hi hn => h.block i hi (fun q => hn (hs i hi q))⟩
theorem Fr.below {S : Nat → Prop} {B : Nat} {a b c : World} (h : Below B a b) (hB : B ≤ b.heap.size) (k : Fr S b c) (hs : ∀ i, S i → B ≤ i) : Below B a c :=
  ⟨k.os.trans h.os, k.tape.trans h.tape, k.output.trans h.output, Nat.le_trans h.size k.size, fun i hi => (k.block i (Nat.lt_of_lt_of_le hi hB) (fun q => Nat.lt_irrefl _ (Nat.lt_of_lt_of_le hi (hs i q)))).trans (h.block i hi)⟩
theorem Fr.setCell {S : Nat → Prop} {a b : World} (h : Fr S a b) {p : Addr} (hp : S p.block ∨ a.heap.size ≤ p.block) (u : Value) : Fr S a (b.setCell p u) :=
  ⟨h.os, h.tape, h.output, by simp [World.setCell]; exact h.size, fun i hi hn => (Below.heap_setCell _ _ _ _ (fun e => by
    rcases hp with q | q
    · exact hn (by rw [e]; exact q)
    · omega)).trans (h.block i hi hn)⟩
theorem Fr.alloc {S : Nat → Prop} {a b : World} (h : Fr S a b) (o : Obj) : Fr S a (b.alloc o) := h.trans (Fr.of_below (S := S) ((Below.refl _ _).alloc (Nat.le_refl _) _)) fun _ _ q => q
theorem Fr.drew {S : Nat → Prop} {a b : World} (h : Fr S a b) : Fr S a b.drew := ⟨h.os, h.tape, h.output, h.size, h.block⟩
/-- The blocks of a trie. -/
def Own (t : Nat) (N : Nm) (k : Nat) : Prop := k = t ∨ ∃ π, N π = some k
/-- A trie that holds a list. -/
structure Tri (w : World) (t : Nat) (N : Nm) (D : Dm) (L : List E4) : Prop where
  rep : Rep w N D
  root : ∃ r, N [] = some r ∧ w.heap[t]? = some (.cells #[ptrN (some r), .int .i64 (L.length : Int)] 131 (0, 0))
  inv : Inv (infoI N D) L
theorem Tri.lt {w : World} {t : Nat} {N : Nm} {D : Dm} {L : List E4} (h : Tri w t N D L) : t < w.heap.size := by
  obtain ⟨r, _, hr⟩ := h.root
  exact (Array.getElem?_eq_some_iff.1 hr).1
theorem Tri.own_lt {w : World} {t : Nat} {N : Nm} {D : Dm} {L : List E4} (h : Tri w t N D L) (k : Nat) (hk : Own t N k) : k < w.heap.size := by
  rcases hk with rfl | ⟨π, hπ⟩
  · exact h.lt
  · exact h.rep.lt hπ
theorem Tri.keep {w w' : World} {t : Nat} {N : Nm} {D : Dm} {L : List E4} (h : Tri w t N D L) (hk : ∀ k, Own t N k → w'.heap[k]? = w.heap[k]?) : Tri w' t N D L := by
  obtain ⟨r, hr, ht⟩ := h.root
  exact ⟨h.rep.keep fun π b hb => hk b (.inr ⟨π, hb⟩), ⟨r, hr, (hk t (.inl rfl)).trans ht⟩, h.inv⟩
theorem Tri.below {w w' : World} {t : Nat} {N : Nm} {D : Dm} {L : List E4} (h : Tri w t N D L) (hb : Below w.heap.size w w') : Tri w' t N D L := h.keep fun k hk => hb.block k (h.own_lt k hk)
theorem Tri.fr {w w' : World} {t : Nat} {N : Nm} {D : Dm} {L : List E4} {S : Nat → Prop} (h : Tri w t N D L) (hb : Fr S w w') (hs : ∀ k, Own t N k → ¬ S k) : Tri w' t N D L := h.keep fun k hk => hb.block k (h.own_lt k hk) (hs k hk)
end Go.Proofs.YtplehdcnnaamkaaGreatDoor

/- Tries: the node of a prefix, asked for; walked. -/
namespace Go.Proofs.YtplehdcnnaamkaaGreatDoor
open Go.RowKit Go.Proofs.YtplehdcnnaamkaaGreatDoorW.PrintWords Go.Proofs.YtplehdcnnaamkaaGreatDoorW.PrintMore

theorem Rep.up_path {w : World} {N : Nm} {D : Dm} (h : Rep w N D) (hi lo : Int) (j : Nat) : ∀ d, N (pathN hi lo (j + d)) ≠ none → N (pathN hi lo j) ≠ none
  | 0, hn => hn
  | d + 1, hn => by
    rw [← Nat.add_assoc, pathN_succ] at hn
    exact Rep.up_path h hi lo j d (h.up _ _ hn)
theorem Rep.none_path {w : World} {N : Nm} {D : Dm} (h : Rep w N D) (hi lo : Int) (j n : Nat) (hj : j ≤ n) (hn : N (pathN hi lo j) = none) : N (pathN hi lo n) = none := by
  cases he : N (pathN hi lo n) with
  | none => rfl
  | some k => exact absurd hn (h.up_path hi lo j (n - j) (by rw [show j + (n - j) = n by omega, he]; simp))
/-- The kid that a bit tells. -/
theorem Rep.kid {w : World} {N : Nm} {D : Dm} (h : Rep w N D) (hi lo : Int) (i n : Nat) (hn : N (pathN hi lo i) = some n) (v : Nat) (hv : pBit hi lo i = (v : Int)) (hv1 : v ≤ 1) : w.cell? ⟨n, v, none⟩ = some (ptrN (N (pathN hi lo (i + 1)))) ∧ w.frozen? ⟨n, v, none⟩ = false ∧ v = kid (bitB hi lo i) := by
  have hc := h.cell _ _ hn
  have hb : bitB hi lo i = decide (v = 1) := by
    rw [bitB, hv, Bool.eq_iff_iff, beq_iff_eq, decide_eq_true_iff]
    omega
  rw [pathN_succ, hb]
  have hv2 : v = 0 ∨ v = 1 := by omega
  rcases hv2 with rfl | rfl
  · obtain ⟨a, b⟩ := heap_cell (j := 0) hc rfl
    exact ⟨a, b, rfl⟩
  · obtain ⟨a, b⟩ := heap_cell (j := 1) hc rfl
    exact ⟨a, b, rfl⟩

theorem at_nil (p : P3) (made : Bool) (w : World) : Calls Tryz.prog 76 #[.pointer none, .agg #[.int .u64 p.1, .int .u64 p.2.1, .int .i64 p.2.2], .bool made] w fun e w' => e = .returned (.pointer none) ∧ Below w.heap.size w w' := by
  go_enter Tryz.func76, Tryz.ntmps76
  go_wp2_with fail
  go_ret
  exact ⟨rfl, (Below.refl _ _).alloc (Nat.le_refl _) _⟩
end Go.Proofs.YtplehdcnnaamkaaGreatDoor

/- A block that is there lies below the heap's size. -/
namespace Go.Proofs.YtplehdcnnaamkaaGreatDoor
theorem heap_lt {w : World} {g : Nat} {o : Obj} (h : w.heap[g]? = some o) : g < w.heap.size := (Array.getElem?_eq_some_iff.1 h).1
end Go.Proofs.YtplehdcnnaamkaaGreatDoor

/- Tries: the node of a prefix, made where it isn't there; walked. -/
namespace Go.Proofs.YtplehdcnnaamkaaGreatDoor
open Go.RowKit Go.Proofs.YtplehdcnnaamkaaGreatDoorW.PrintWords Go.Proofs.YtplehdcnnaamkaaGreatDoorW.PrintMore

/-- A trie behind steps that only lay nodes: of the same list; only its own blocks and new ones have turned. -/
structure AtR (w : World) (t : Nat) (N : Nm) (L : List E4) (wr : World) (N' : Nm) (D' : Dm) : Prop where
  tri : Tri wr t N' D' L
  fr : Fr (Own t N) w wr
  new : ∀ π k, N' π = some k → N π = some k ∨ w.heap.size ≤ k
  ext : ∀ π k, N π = some k → N' π = some k
theorem block_ne {w : World} {a b : Nat} {c d : Array Value} {s t : TypeId} (ha : w.heap[a]? = some (.cells c s (0, 0))) (hb : w.heap[b]? = some (.cells d t (0, 0))) (h : s ≠ t) : a ≠ b := fun e => by
  rw [e, hb] at ha
  injection ha with ha
  injection ha with _ ha
  exact h ha.symm
theorem ty_node_trie : 129 ≠ 131 := by decide
theorem ty_trie_node : 131 ≠ 129 := by decide
theorem ty_pre_node : 25 ≠ 129 := by decide
theorem ty_pre_trie : 25 ≠ 131 := by decide
theorem AtR.start {w : World} {t : Nat} {N : Nm} {D : Dm} {L : List E4} (h : Tri w t N D L) {wr : World} (hb : Below w.heap.size w wr) : AtR w t N L wr N D := ⟨h.below hb, Fr.of_below hb, fun _ _ h => .inl h, fun _ _ h => h⟩
theorem AtR.below {w : World} {t : Nat} {N : Nm} {L : List E4} {wr w' : World} {N' : Nm} {D' : Dm} (h : AtR w t N L wr N' D') (hb : Below wr.heap.size wr w') : AtR w t N L w' N' D' := ⟨h.tri.below hb, h.fr.trans (Fr.of_below (S := Own t N) hb) fun _ _ q => q, h.new, h.ext⟩
theorem AtR.grow {w : World} {t : Nat} {N : Nm} {L : List E4} {w2 : World} {N' : Nm} {D' : Dm} (h : AtR w t N L w2 N' D') {π : List Bool} {b : Nat} {c : Bool} (hn : N' π = some b) (hc : N' (π ++ [c]) = none) (hd : π.length < 128) :
    AtR w t N L ((w2.alloc (.cells (ndC none none nd0) 129)).setCell ⟨b, kid c, none⟩ (ptrN (some w2.heap.size))) (updN N' (π ++ [c]) (some w2.heap.size)) (updN D' (π ++ [c]) nd0) := by
  obtain ⟨r, hr, ht⟩ := h.tri.root
  have hbt : t ≠ b := block_ne ht (h.tri.rep.cell π b hn) ty_trie_node
  refine ⟨⟨h.tri.rep.grow hn hc hd, ⟨r, ?_, ?_⟩, ?_⟩, (h.fr.alloc _).setCell ?_ _, fun σ k hk => ?_, fun σ k hk => ?_⟩
  · rw [updN_other _ _ _ _ (by simp)]; exact hr
  · rw [Below.heap_setCell _ _ _ _ hbt, Below.heap_alloc _ _ _ h.tri.lt]; exact ht
  · rw [info_grow N' D' _ _ hc]; exact h.tri.inv
  · rcases h.new π b hn with q | q
    · exact .inl (.inr ⟨π, q⟩)
    · exact .inr q
  · by_cases e : σ = π ++ [c]
    · rw [e, updN_self] at hk
      rw [← Option.some.inj hk]
      exact .inr h.fr.size
    · rw [updN_other _ _ _ _ e] at hk
      exact h.new σ k hk
  · have := h.ext σ k hk
    rw [updN_other _ _ _ _ (fun e => by rw [e, hc] at this; cases this)]
    exact this
set_option maxHeartbeats 8000000 in
set_option maxRecDepth 100000 in
theorem atT_calls (t : Nat) (N : Nm) (D : Dm) (L : List E4) (hi lo n : Int) (h0 : 0 ≤ hi ∧ hi < 18446744073709551616) (h1 : 0 ≤ lo ∧ lo < 18446744073709551616) (hr : rightP hi lo n = true) (w : World) (hT : Aside0 (Tri w t N D L)) :
    Calls Tryz.prog 76 #[.pointer (some ⟨t, 0, none⟩), .agg #[.int .u64 hi, .int .u64 lo, .int .i64 n], .bool true] w fun e w' => ∃ b N' D', e = .returned (.pointer (some ⟨b, 0, none⟩)) ∧ N' (pathP (hi, lo, n)) = some b ∧ AtR w t N L w' N' D' := by
  obtain ⟨W0, hW0⟩ : ∃ W0, W0 = w.alloc (.cells #[.int .u64 hi, .int .u64 lo, .int .i64 n] 25) := ⟨_, rfl⟩
  obtain ⟨hg, hl, hb⟩ := box3 hW0
  have B0 := Aside0.mk hb
  have HW := Lib.hid hW0
  have HG := Aside0.mk hg
  clear hg hW0 hb
  obtain ⟨g, hgs⟩ : ∃ g, g = w.heap.size := ⟨_, rfl⟩
  have HGS := Lib.hid hgs
  have HG0 : Aside0 (W0.heap[g]? = some (.cells #[.int .u64 hi, .int .u64 lo, .int .i64 n] 25 (0, 0))) := ⟨by rw [hgs]; exact HG.out⟩
  have hl0 : g < W0.heap.size := by rw [hgs]; exact hl
  clear hgs HG hl
  have hg0 := HG0.out
  obtain ⟨k0, _⟩ := heap_cell (j := 0) hg0 rfl
  obtain ⟨k1, _⟩ := heap_cell (j := 1) hg0 rfl
  obtain ⟨k2, _⟩ := heap_cell (j := 2) hg0 rfl
  clear hg0
  rw [HW.out] at k0 k1 k2
  rw [HGS.out] at k0 k1 k2
  have HRi := Aside0.mk (fun W => Right_calls hi lo n h0 h1 W)
  rw [hr] at HRi
  obtain ⟨hn0, hn1⟩ := rightP_bd hi lo n hr
  obtain ⟨m, rfl⟩ : ∃ m : Nat, n = m := ⟨n.toNat, by omega⟩
  have EP := Lib.hid (show pathP (hi, lo, (m : Int)) = pathN hi lo m from rfl)
  clear hr
  generalize pathP (hi, lo, (m : Int)) = pp at EP ⊢
  go_enter Tryz.func76, Tryz.ntmps76
  go_wp2_with fail
  rw [← HW.out, ← HGS.out]
  clear k0 k1 k2
  refine (HRi.out _).mono ?_
  rintro e w1 ⟨rfl, b1⟩
  have HG1 := Aside0.mk ((b1.block _ hl0).trans HG0.out)
  have B1 := Aside0.mk (below_then B0.out B0.out.size b1)
  have A1 := Aside0.mk (AtR.start hT.out B1.out)
  obtain ⟨r, hroot, hcell⟩ := A1.out.tri.root
  have HRt := Aside0.mk hroot
  obtain ⟨c0, _⟩ := heap_cell (j := 0) hcell rfl
  have hg1 := HG1.out
  obtain ⟨k2, _⟩ := heap_cell (j := 2) hg1 rfl
  clear hcell hroot hg1 b1
  simp only [ptrN, Option.map] at c0
  go_wp2_with fail
  go_loopw [7, 23] (fun x y wr => ∃ (i b : Nat) (N' : Nm) (D' : Dm), x = .pointer (some ⟨b, 0, none⟩) ∧ y = .int .i64 i ∧ i ≤ m ∧ Aside0 (N' (pathN hi lo i) = some b) ∧ Aside0 (wr.heap[g]? = some (.cells #[.int .u64 hi, .int .u64 lo, .int .i64 m] 25 (0, 0))) ∧ Aside0 (AtR w t N L wr N' D')) (fun _ y _ => m - (intOf y).toNat)
  case atStart => exact ⟨0, r, N, D, rfl, rfl, by omega, HRt, HG1, A1⟩
  case round =>
    obtain ⟨i, b, N', D', rfl, rfl, him, hN, hG, hA⟩ := hrel
    clear c0 k2
    have hg1 := hG.out
    have hlg := heap_lt hg1
    obtain ⟨j0, _⟩ := heap_cell (j := 0) hg1 rfl
    obtain ⟨j1, _⟩ := heap_cell (j := 1) hg1 rfl
    obtain ⟨j2, _⟩ := heap_cell (j := 2) hg1 rfl
    clear hg1
    by_cases hlt : i < m
    · go_wp2_with fail
      refine (Bit_calls hi lo m i (by omega) h0 h1 _).mono ?_
      rintro e w2 ⟨rfl, b2⟩
      have G2 := Aside0.mk ((b2.block _ hlg).trans hG.out)
      have A2 := Aside0.mk (hA.out.below b2)
      clear b2 j0 j1 j2 hlg
      obtain ⟨v, hv, hv1⟩ : ∃ v : Nat, pBit hi lo i = (v : Int) ∧ v ≤ 1 := by
        rcases pBit_01 hi lo i with e | e
        · exact ⟨0, e, by omega⟩
        · exact ⟨1, e, by omega⟩
      obtain ⟨c1, f1, hk⟩ := A2.out.tri.rep.kid hi lo i b hN.out v hv hv1
      have HKID := Lib.hid hk
      rw [hv]
      have hv2 : v = 0 ∨ v = 1 := by omega
      clear hv hv1 hk
      cases hk : N' (pathN hi lo (i + 1)) with
      | none =>
        rw [hk] at c1
        simp only [ptrN, Option.map] at c1
        have hlb := cell_of_lt c1
        have G3 := Aside0.mk (A2.out.grow (c := bitB hi lo i) hN.out (by rw [← pathN_succ]; exact hk) (by rw [pathN_len]; omega))
        rw [← pathN_succ, ← HKID.out] at G3
        have hbg : g ≠ b := block_ne G2.out (A2.out.tri.rep.cell _ _ hN.out) ty_pre_node
        have G4 : Aside0 (∀ u, ((w2.alloc (.cells (ndC none none nd0) 129)).setCell ⟨b, v, none⟩ u).heap[g]? = some (.cells #[.int .u64 hi, .int .u64 lo, .int .i64 m] 25 (0, 0))) := ⟨fun u => by
          rw [Below.heap_setCell _ _ _ _ hbg, Below.heap_alloc _ _ _ (heap_lt G2.out)]
          exact G2.out⟩
        have HU : Aside0 (updN N' (pathN hi lo (i + 1)) (some w2.heap.size) (pathN hi lo (i + 1)) = some w2.heap.size) := ⟨updN_self _ _ _⟩
        have c3 : (w2.alloc (.cells #[.pointer none, .pointer none, .bool false, .int .i64 0, .int .u64 0, .int .u64 0, .int .i64 0] 129)).cell? ⟨b, v, none⟩ = some (.pointer none) := by
          rw [World.cell?_of_block (Below.heap_alloc _ _ _ hlb)]
          exact c1
        have f3 : (w2.alloc (.cells #[.pointer none, .pointer none, .bool false, .int .i64 0, .int .u64 0, .int .u64 0, .int .i64 0] 129)).frozen? ⟨b, v, none⟩ = false := by
          rw [World.frozen?_of_block (Below.heap_alloc _ _ _ hlb)]
          exact f1
        have G3' := G3.out
        rw [World.setCell_alloc_past _ _ _ _ hlb] at G3'
        have G5 := Aside0.mk (fun u => by have := G4.out u; rw [World.setCell_alloc_past _ _ _ _ hlb] at this; exact this)
        have G6 := Aside0.mk G3'
        clear hk hbg G3' G3 G4
        rcases hv2 with rfl | rfl
        all_goals
          go_wp2_with fail
          exact ⟨⟨i + 1, w2.heap.size, _, _, rfl, by go_num, by omega, HU, ⟨G5.out _⟩, G6⟩, by simp [intOf]; omega⟩
      | some b' =>
        rw [hk] at c1
        simp only [ptrN, Option.map] at c1
        have HK := Aside0.mk hk
        clear hk
        rcases hv2 with rfl | rfl
        all_goals
          go_wp2_with fail
          exact ⟨⟨i + 1, b', N', D', rfl, by go_num, by omega, HK, G2, A2⟩, by simp [intOf]; omega⟩
    · obtain rfl : i = m := by omega
      go_wp2_with fail
      go_ret
      exact ⟨b, N', D', rfl, by rw [EP.out]; exact hN.out, hA.out⟩
end Go.Proofs.YtplehdcnnaamkaaGreatDoor

/- Tries: made, put into, dropped from, asked; walked. -/
namespace Go.Proofs.YtplehdcnnaamkaaGreatDoor
open Go.RowKit Go.Proofs.YtplehdcnnaamkaaGreatDoorW.PrintWords Go.Proofs.YtplehdcnnaamkaaGreatDoorW.PrintMore

theorem dropL_len : ∀ (L : List E4) (p : P3), (L.Pairwise fun x y => befB x.1 y.1 = true) → (dropL L p).length + (if (getL L p).isSome = true then 1 else 0) = L.length
  | [], _, _ => rfl
  | x :: L, p, h => by
    rw [List.pairwise_cons] at h
    have ih := dropL_len L p h.2
    rw [getL]
    by_cases e : x.1 = p
    · have hn : ∀ y ∈ L, y.1 ≠ p := fun y hy e' => by
        have := h.1 y hy
        rw [e, ← e'] at this
        exact befB_asymm this this
      have hf : dropL L p = L := by
        rw [dropL, List.filter_eq_self]
        intro y hy
        exact decide_eq_true (hn y hy)
      rw [if_pos e, dropL, List.filter_cons_of_neg (by simpa using e), ← dropL, hf]
      rfl
    · rw [if_neg e, dropL, List.filter_cons_of_pos (by simpa using e), ← dropL]
      simp only [List.length_cons]
      omega
theorem insL_len (p : P3) (v : Int) : ∀ L : List E4, (insL p v L).length = L.length + 1
  | [] => rfl
  | x :: L => by
    rw [insL]
    split
    · rfl
    · rw [List.length_cons, insL_len p v L, List.length_cons]
theorem putL_len {I : List Bool → Option (Int × P3)} {L : List E4} (h : Inv I L) (p : P3) (v : Int) : (putL L p v).length = if (getL L p).isSome = true then L.length else L.length + 1 := by
  have := dropL_len L p h.sorted
  rw [putL, insL_len]
  by_cases hh : (getL L p).isSome = true
  · rw [if_pos hh] at this ⊢
    omega
  · rw [if_neg hh] at this ⊢
    omega
theorem Rep.writeN {w w' : World} {N : Nm} {D : Dm} (h : Rep w N D) {π : List Bool} {b : Nat} (hb : N π = some b) (d : Nd) (hw : w'.heap[b]? = some (.cells (ndC (N (π ++ [false])) (N (π ++ [true])) d) 129 (0, 0))) (hk : ∀ σ k, N σ = some k → k ≠ b → w'.heap[k]? = w.heap[k]?) : Rep w' N (updN D π d) := by
  refine ⟨fun σ k hσ => ?_, h.up, h.inj, h.deep⟩
  by_cases e : σ = π
  · subst e
    obtain rfl : b = k := Option.some.inj (hb.symm.trans hσ)
    rw [updN_self]
    exact hw
  · rw [updN_other _ _ _ _ e, hk σ k hσ (fun e' => e (h.inj _ _ _ hσ (by rw [e']; exact hb)))]
    exact h.cell σ k hσ
/-- What an operation on a trie leaves. -/
structure OpR (w : World) (t : Nat) (N : Nm) (w' : World) (N' : Nm) : Prop where
  fr : Fr (Own t N) w w'
  new : ∀ k, Own t N' k → Own t N k ∨ w.heap.size ≤ k
theorem AtR.node_ne {w : World} {t : Nat} {N : Nm} {L : List E4} {w1 : World} {N' : Nm} {D' : Dm} (h : AtR w t N L w1 N' D') {π : List Bool} {b : Nat} (hb : N' π = some b) : b ≠ t := by
  obtain ⟨r, _, ht⟩ := h.tri.root
  exact block_ne (h.tri.rep.cell π b hb) ht ty_node_trie
theorem AtR.op {w : World} {t : Nat} {N : Nm} {L : List E4} {w1 w' : World} {N' : Nm} {D' : Dm} (h : AtR w t N L w1 N' D') {π : List Bool} {b : Nat} (hb : N' π = some b) (hf : Fr (fun k => k = b ∨ k = t) w1 w') : OpR w t N w' N' := by
  refine ⟨h.fr.trans hf fun k hk hs => ?_, fun k hk => ?_⟩
  · rcases hs with e | e
    · rcases h.new π b hb with q | q
      · exact .inr ⟨π, by rw [e]; exact q⟩
      · omega
    · exact .inl e
  · rcases hk with e | ⟨σ, hσ⟩
    · exact .inl (.inl e)
    · rcases h.new σ k hσ with q | q
      · exact .inl (.inr ⟨σ, q⟩)
      · exact .inr q
theorem put_fin {w : World} {t : Nat} {N : Nm} {L : List E4} {w1 w' : World} {N' : Nm} {D' : Dm} (h : AtR w t N L w1 N' D') (p : P3) (v : Int) (ho : okP p) (hr : rP p = true) {b r : Nat} (hb : N' (pathP p) = some b) (hroot : N' [] = some r) (hf : Fr (fun k => k = b ∨ k = t) w1 w')
    (h1 : w'.heap[b]? = some (.cells (ndC (N' (pathP p ++ [false])) (N' (pathP p ++ [true])) (true, v, p)) 129 (0, 0))) (h2 : w'.heap[t]? = some (.cells #[ptrN (some r), .int .i64 ((putL L p v).length : Int)] 131 (0, 0))) :
    ∃ D2, Tri w' t N' D2 (putL L p v) ∧ OpR w t N w' N' := by
  refine ⟨updN D' (pathP p) (true, v, p), ⟨h.tri.rep.writeN hb _ h1 fun σ k hσ hk => hf.block k (h.tri.rep.lt hσ) (fun e => ?_), ⟨r, hroot, h2⟩, ?_⟩, h.op hb hf⟩
  · rcases e with e | e
    · exact hk e
    · exact h.node_ne hσ e
  · obtain ⟨i1, i2⟩ := info_write N' D' (pathP p) b (true, v, p) hb
    rw [if_pos rfl] at i1
    exact h.tri.inv.put p v ho hr i1 i2
theorem info_get {w : World} {t : Nat} {N : Nm} {D : Dm} {L : List E4} (h : Tri w t N D L) (p : P3) (ho : okP p) (hr : rP p = true) {b : Nat} (hb : N (pathP p) = some b) : (D (pathP p)).1 = (getL L p).isSome ∧ ((D (pathP p)).1 = true → getL L p = some (D (pathP p)).2.1) := by
  have := h.inv.get p ho hr
  simp only [infoI, hb] at this
  rw [← this]
  cases hd : (D (pathP p)).1 <;> simp
set_option maxRecDepth 100000 in
theorem New_calls (w : World) : Calls Tryz.prog 33 #[] w fun e w' => ∃ t N D, e = .returned (.pointer (some ⟨t, 0, none⟩)) ∧ Tri w' t N D [] ∧ Below w.heap.size w w' ∧ ∀ k, Own t N k → w.heap.size ≤ k := by
  go_enter Tryz.func33, Tryz.ntmps33
  go_wp2_with fail
  go_ret
  refine ⟨_, updN (fun _ => none) [] (some w.heap.size), fun _ => nd0, rfl, ⟨⟨fun π b hb => ?_, fun π c hc => ?_, fun π σ b h1 h2 => ?_, fun π hp => ?_⟩, ⟨w.heap.size, updN_self _ _ _, ?_⟩, ?_⟩, ((Below.refl _ _).alloc (Nat.le_refl _) _).alloc (by simp) _, fun k hk => ?_⟩
  · by_cases e : π = []
    · subst e
      rw [updN_self] at hb
      obtain rfl := Option.some.inj hb
      rw [Below.heap_alloc _ _ _ (by simp), heap_alloc_new, updN_other _ _ _ _ (by simp), updN_other _ _ _ _ (by simp)]
      rfl
    · rw [updN_other _ _ _ _ e] at hb
      cases hb
  · exact absurd (updN_other (fun _ => none) [] (π ++ [c]) (some w.heap.size) (by simp)) hc
  · by_cases e : π = []
    · by_cases e' : σ = []
      · rw [e, e']
      · rw [updN_other _ _ _ _ e'] at h2; cases h2
    · rw [updN_other _ _ _ _ e] at h1; cases h1
  · by_cases e : π = []
    · rw [e]; simp
    · exact absurd (updN_other _ _ _ _ e) hp
  · exact heap_alloc_new' _ _ _ (by simp)
  · have : infoI (updN (fun _ => none) [] (some w.heap.size)) (fun _ => nd0) = fun _ => none := by
      funext σ
      by_cases e : σ = []
      · subst e; simp only [infoI, updN_self]; rfl
      · simp only [infoI, updN_other _ _ _ _ e]
    rw [this]
    exact Inv.nil
  · rcases hk with e | ⟨π, hπ⟩
    · rw [e]; simp
    · by_cases e : π = []
      · subst e
        rw [updN_self] at hπ
        rw [← Option.some.inj hπ]
        exact Nat.le_refl _
      · rw [updN_other _ _ _ _ e] at hπ; cases hπ
theorem put_wrong (t : Option Nat) (hi lo n : Int) (h0 : 0 ≤ hi ∧ hi < 18446744073709551616) (h1 : 0 ≤ lo ∧ lo < 18446744073709551616) (hr : rightP hi lo n = false) (w : World) :
    Calls Tryz.prog 76 #[ptrN t, .agg #[.int .u64 hi, .int .u64 lo, .int .i64 n], .bool true] w fun e w' => e = .returned (.pointer none) ∧ Below w.heap.size w w' := by
  have HRi := Aside0.mk (fun W => Right_calls hi lo n h0 h1 W)
  rw [hr] at HRi
  clear hr
  cases t with
  | none => exact at_nil (hi, lo, n) true w
  | some t =>
    obtain ⟨W0, hW0⟩ : ∃ W0, W0 = w.alloc (.cells #[.int .u64 hi, .int .u64 lo, .int .i64 n] 25) := ⟨_, rfl⟩
    obtain ⟨hg, hl, hb⟩ := box3 hW0
    have B0 := Aside0.mk hb
    have HW := Lib.hid hW0
    obtain ⟨k0, _⟩ := heap_cell (j := 0) hg rfl
    obtain ⟨k1, _⟩ := heap_cell (j := 1) hg rfl
    obtain ⟨k2, _⟩ := heap_cell (j := 2) hg rfl
    rw [hW0] at k0 k1 k2
    clear hg hl hb hW0
    simp only [ptrN, Option.map]
    go_enter Tryz.func76, Tryz.ntmps76
    go_wp2_with fail
    rw [← HW.out]
    clear k0 k1 k2
    refine (HRi.out _).mono ?_
    rintro e w1 ⟨rfl, b1⟩
    have B1 := Aside0.mk (below_then B0.out B0.out.size b1)
    clear b1
    go_wp2_with fail
    go_ret
    exact ⟨rfl, B1.out⟩
theorem heap_set5 {w : World} {g : Nat} {t : TypeId} {a b : Value} {z2 z3 z4 z5 z6 : Value} (v2 v3 v4 v5 v6 : Value) (hg : w.heap[g]? = some (.cells #[a, b, z2, z3, z4, z5, z6] t (0, 0))) : (((((w.setCell ⟨g, 2, none⟩ v2).setCell ⟨g, 3, none⟩ v3).setCell ⟨g, 4, none⟩ v4).setCell ⟨g, 5, none⟩ v5).setCell ⟨g, 6, none⟩ v6).heap[g]? = some (.cells #[a, b, v2, v3, v4, v5, v6] t (0, 0)) :=
  heap_setN v6 (heap_setN v5 (heap_setN v4 (heap_setN v3 (heap_setN v2 hg))))
set_option maxHeartbeats 8000000 in
set_option maxRecDepth 100000 in
theorem Put_calls (t : Nat) (N : Nm) (D : Dm) (L : List E4) (hi lo n v : Int) (h0 : 0 ≤ hi ∧ hi < 18446744073709551616) (h1 : 0 ≤ lo ∧ lo < 18446744073709551616) (hr : rightP hi lo n = true) (hL : L.length ≤ 1000000) (w : World) (hT : Aside0 (Tri w t N D L)) :
    Calls Tryz.prog 34 #[.pointer (some ⟨t, 0, none⟩), .agg #[.int .u64 hi, .int .u64 lo, .int .i64 n], .int .i64 v] w fun e w' => e = .returned (.bool true) ∧ ∃ N' D', Tri w' t N' D' (putL L (hi, lo, n) v) ∧ OpR w t N w' N' := by
  have hrP : rP (hi, lo, n) = true := hr
  obtain ⟨W0, hW0⟩ : ∃ W0, W0 = w.alloc (.cells #[.int .u64 hi, .int .u64 lo, .int .i64 n] 25) := ⟨_, rfl⟩
  obtain ⟨hg, hl, hb⟩ := box3 hW0
  have B0 := Aside0.mk hb
  have T0 := Aside0.mk (hT.out.below hb)
  have HW := Lib.hid hW0
  have HR := Lib.hid hrP
  clear hb hrP
  obtain ⟨g, hgs⟩ : ∃ g, g = w.heap.size := ⟨_, rfl⟩
  have HGS := Lib.hid hgs
  have HG0 : Aside0 (W0.heap[g]? = some (.cells #[.int .u64 hi, .int .u64 lo, .int .i64 n] 25 (0, 0))) := ⟨by rw [hgs]; exact hg⟩
  obtain ⟨k0, _⟩ := heap_cell (j := 0) hg rfl
  obtain ⟨k1, _⟩ := heap_cell (j := 1) hg rfl
  obtain ⟨k2, _⟩ := heap_cell (j := 2) hg rfl
  rw [hW0] at k0 k1 k2
  clear hgs hg hl hW0
  go_enter Tryz.func34, Tryz.ntmps34
  go_wp2_with fail
  rw [← HW.out, ← HGS.out]
  clear k0 k1 k2
  refine (atT_calls t N D L hi lo n h0 h1 hr _ T0).mono ?_
  rintro e w1 ⟨b, N', D', rfl, hb, hA⟩
  have hA0 := hA.tri.rep.cell _ _ hb
  obtain ⟨r, hroot, htc⟩ := hA.tri.root
  have hgo : ¬ Own t N g := fun e => by have := hT.out.own_lt g e; rw [HGS.out] at this; omega
  have hg1 := (hA.fr.block g (heap_lt HG0.out) hgo).trans HG0.out
  have hgb : g ≠ b := block_ne hg1 hA0 ty_pre_node
  have hgt : g ≠ t := block_ne hg1 htc ty_pre_trie
  have hbt : b ≠ t := hA.node_ne hb
  have PL := Aside0.mk (putL_len hA.tri.inv (hi, lo, n) v)
  have IG := Aside0.mk (info_get hA.tri (hi, lo, n) ⟨h0, h1⟩ HR.out hb).1
  have FIN := Aside0.mk (fun w' hf h1' h2' => put_fin (w' := w') hA (hi, lo, n) v ⟨h0, h1⟩ HR.out hb hroot hf h1' h2')
  have OPF := Aside0.mk (fun (w' : World) (N2 : Nm) (h : OpR W0 t N w' N2) => (⟨(Fr.of_below B0.out).trans h.fr (fun _ _ q => q), fun k hk => (h.new k hk).imp id (fun q => Nat.le_trans B0.out.size q)⟩ : OpR w t N w' N2))
  generalize D' (pathP (hi, lo, n)) = d at hA0 IG
  generalize N' (pathP (hi, lo, n) ++ [false]) = kl at hA0 FIN
  generalize N' (pathP (hi, lo, n) ++ [true]) = kr at hA0 FIN
  obtain ⟨i0, v0, a0, b0, c0⟩ := d
  simp only [ndC] at hA0
  simp only [] at IG
  have HB := Aside0.mk hA0
  have HTC := Aside0.mk htc
  have HG1 := Aside0.mk hg1
  have HNE := Aside0.mk (And.intro hgb (And.intro hgt hbt))
  obtain ⟨m2, e2⟩ := heap_cell (j := 2) hA0 rfl
  obtain ⟨x1, y1⟩ := heap_cell (j := 1) htc rfl
  clear hA0 htc hg1 hgo hb hroot hr hgb hgt hbt
  cases i0
  · go_wp2_with fail
    obtain ⟨W2, hW2⟩ : ∃ W2, W2 = w1.setCell ⟨t, 1, none⟩ (.int .i64 ((L.length : Int) + 1)) := ⟨_, rfl⟩
    have F2 : Aside0 (Fr (fun k => k = b ∨ k = t) w1 W2) := ⟨by rw [hW2]; exact (Fr.refl _ _).setCell (.inl (.inr rfl)) _⟩
    have HB2 : Aside0 (W2.heap[b]? = some (.cells #[ptrN kl, ptrN kr, .bool false, .int .i64 v0, .int .u64 a0, .int .u64 b0, .int .i64 c0] 129 (0, 0))) := ⟨by rw [hW2]; exact (Below.heap_setCell _ _ _ _ HNE.out.2.2).trans HB.out⟩
    have HT2 : Aside0 (W2.heap[t]? = some (.cells #[ptrN (some r), .int .i64 ((putL L (hi, lo, n) v).length : Int)] 131 (0, 0))) := ⟨by
      rw [hW2, PL.out, ← IG.out, if_neg (by simp)]
      exact heap_setN _ HTC.out⟩
    have HG2 : Aside0 (W2.heap[g]? = some (.cells #[.int .u64 hi, .int .u64 lo, .int .i64 n] 25 (0, 0))) := ⟨by rw [hW2]; exact (Below.heap_setCell _ _ _ _ HNE.out.2.1).trans HG1.out⟩
    try rw [← hW2]
    clear m2 e2 x1 y1 PL IG hW2
    have hb2 := HB2.out
    have hg2 := HG2.out
    obtain ⟨m2, e2⟩ := heap_cell (j := 2) hb2 rfl
    obtain ⟨m3, e3⟩ := heap_cell (j := 3) hb2 rfl
    obtain ⟨m4, e4⟩ := heap_cell (j := 4) hb2 rfl
    obtain ⟨m5, e5⟩ := heap_cell (j := 5) hb2 rfl
    obtain ⟨m6, e6⟩ := heap_cell (j := 6) hb2 rfl
    obtain ⟨k0, _⟩ := heap_cell (j := 0) hg2 rfl
    obtain ⟨k1, _⟩ := heap_cell (j := 1) hg2 rfl
    obtain ⟨k2, _⟩ := heap_cell (j := 2) hg2 rfl
    clear hb2 hg2
    have hq1 : ¬ b = g := fun e => HNE.out.1 e.symm
    have hq2 : ¬ g = b := HNE.out.1
    go_region
    all_goals
      go_wp2_with fail
      go_ret
      obtain ⟨D2, h1', h2'⟩ := FIN.out (((((W2.setCell ⟨b, 2, none⟩ (.bool true)).setCell ⟨b, 3, none⟩ (.int .i64 v)).setCell ⟨b, 4, none⟩ (.int .u64 hi)).setCell ⟨b, 5, none⟩ (.int .u64 lo)).setCell ⟨b, 6, none⟩ (.int .i64 n)).drew
        ((((((F2.out.setCell (.inl (.inl rfl)) _).setCell (.inl (.inl rfl)) _).setCell (.inl (.inl rfl)) _).setCell (.inl (.inl rfl)) _).setCell (.inl (.inl rfl)) _).drew)
        (heap_set5 _ _ _ _ _ HB2.out) (by
          have nt : t ≠ b := fun e => HNE.out.2.2 e.symm
          show (((((W2.setCell ⟨b, 2, none⟩ (.bool true)).setCell ⟨b, 3, none⟩ (.int .i64 v)).setCell ⟨b, 4, none⟩ (.int .u64 hi)).setCell ⟨b, 5, none⟩ (.int .u64 lo)).setCell ⟨b, 6, none⟩ (.int .i64 n)).heap[t]? = _
          rw [Below.heap_setCell _ _ _ _ nt, Below.heap_setCell _ _ _ _ nt, Below.heap_setCell _ _ _ _ nt, Below.heap_setCell _ _ _ _ nt, Below.heap_setCell _ _ _ _ nt]
          exact HT2.out)
      exact ⟨rfl, N', D2, h1', OPF.out _ _ h2'⟩
  · go_wp2_with fail
    obtain ⟨W2, hW2⟩ : ∃ W2, W2 = w1 := ⟨_, rfl⟩
    have F2 : Aside0 (Fr (fun k => k = b ∨ k = t) w1 W2) := ⟨by rw [hW2]; exact Fr.refl _ _⟩
    have HB2 : Aside0 (W2.heap[b]? = some (.cells #[ptrN kl, ptrN kr, .bool true, .int .i64 v0, .int .u64 a0, .int .u64 b0, .int .i64 c0] 129 (0, 0))) := ⟨by rw [hW2]; exact HB.out⟩
    have HT2 : Aside0 (W2.heap[t]? = some (.cells #[ptrN (some r), .int .i64 ((putL L (hi, lo, n) v).length : Int)] 131 (0, 0))) := ⟨by
      rw [hW2, PL.out, ← IG.out, if_pos rfl]
      exact HTC.out⟩
    have HG2 : Aside0 (W2.heap[g]? = some (.cells #[.int .u64 hi, .int .u64 lo, .int .i64 n] 25 (0, 0))) := ⟨by rw [hW2]; exact HG1.out⟩
    try rw [← hW2]
    clear m2 e2 x1 y1 PL IG hW2
    have hb2 := HB2.out
    have hg2 := HG2.out
    obtain ⟨m2, e2⟩ := heap_cell (j := 2) hb2 rfl
    obtain ⟨m3, e3⟩ := heap_cell (j := 3) hb2 rfl
    obtain ⟨m4, e4⟩ := heap_cell (j := 4) hb2 rfl
    obtain ⟨m5, e5⟩ := heap_cell (j := 5) hb2 rfl
    obtain ⟨m6, e6⟩ := heap_cell (j := 6) hb2 rfl
    obtain ⟨k0, _⟩ := heap_cell (j := 0) hg2 rfl
    obtain ⟨k1, _⟩ := heap_cell (j := 1) hg2 rfl
    obtain ⟨k2, _⟩ := heap_cell (j := 2) hg2 rfl
    clear hb2 hg2
    have hq1 : ¬ b = g := fun e => HNE.out.1 e.symm
    have hq2 : ¬ g = b := HNE.out.1
    go_region
    all_goals
      go_wp2_with fail
      go_ret
      obtain ⟨D2, h1', h2'⟩ := FIN.out (((((W2.setCell ⟨b, 2, none⟩ (.bool true)).setCell ⟨b, 3, none⟩ (.int .i64 v)).setCell ⟨b, 4, none⟩ (.int .u64 hi)).setCell ⟨b, 5, none⟩ (.int .u64 lo)).setCell ⟨b, 6, none⟩ (.int .i64 n)).drew
        ((((((F2.out.setCell (.inl (.inl rfl)) _).setCell (.inl (.inl rfl)) _).setCell (.inl (.inl rfl)) _).setCell (.inl (.inl rfl)) _).setCell (.inl (.inl rfl)) _).drew)
        (heap_set5 _ _ _ _ _ HB2.out) (by
          have nt : t ≠ b := fun e => HNE.out.2.2 e.symm
          show (((((W2.setCell ⟨b, 2, none⟩ (.bool true)).setCell ⟨b, 3, none⟩ (.int .i64 v)).setCell ⟨b, 4, none⟩ (.int .u64 hi)).setCell ⟨b, 5, none⟩ (.int .u64 lo)).setCell ⟨b, 6, none⟩ (.int .i64 n)).heap[t]? = _
          rw [Below.heap_setCell _ _ _ _ nt, Below.heap_setCell _ _ _ _ nt, Below.heap_setCell _ _ _ _ nt, Below.heap_setCell _ _ _ _ nt, Below.heap_setCell _ _ _ _ nt]
          exact HT2.out)
      exact ⟨rfl, N', D2, h1', OPF.out _ _ h2'⟩
end Go.Proofs.YtplehdcnnaamkaaGreatDoor

/- Tries: dropped from, asked; walked. -/
namespace Go.Proofs.YtplehdcnnaamkaaGreatDoor
open Go.RowKit Go.Proofs.YtplehdcnnaamkaaGreatDoorW.PrintWords Go.Proofs.YtplehdcnnaamkaaGreatDoorW.PrintMore

theorem Len_calls (t : Nat) (N : Nm) (D : Dm) (L : List E4) (w : World) (hT : Aside0 (Tri w t N D L)) : Calls Tryz.prog 36 #[.pointer (some ⟨t, 0, none⟩)] w fun e w' => e = .returned (.int .i64 (L.length : Int)) ∧ w' = w := by
  obtain ⟨r, _, htc⟩ := hT.out.root
  obtain ⟨k1, _⟩ := heap_cell (j := 1) htc rfl
  clear htc
  go_enter Tryz.func36, Tryz.ntmps36
  go_wp2_with fail
  go_ret
  exact ⟨rfl, rfl⟩
end Go.Proofs.YtplehdcnnaamkaaGreatDoor

/- Tries: dropped from; put into, whatever the prefix; walked. -/
namespace Go.Proofs.YtplehdcnnaamkaaGreatDoor
open Go.RowKit Go.Proofs.YtplehdcnnaamkaaGreatDoorW.PrintWords Go.Proofs.YtplehdcnnaamkaaGreatDoorW.PrintMore

set_option maxRecDepth 100000 in
theorem Put_none (t : Option Nat) (hi lo n v : Int) (h0 : 0 ≤ hi ∧ hi < 18446744073709551616) (h1 : 0 ≤ lo ∧ lo < 18446744073709551616) (hw : t = none ∨ rightP hi lo n = false) (w : World) :
    Calls Tryz.prog 34 #[ptrN t, .agg #[.int .u64 hi, .int .u64 lo, .int .i64 n], .int .i64 v] w fun e w' => e = .returned (.bool false) ∧ Below w.heap.size w w' := by
  have AT : Aside0 (∀ W : World, Calls Tryz.prog 76 #[ptrN t, .agg #[.int .u64 hi, .int .u64 lo, .int .i64 n], .bool true] W fun e w' => e = .returned (.pointer none) ∧ Below W.heap.size W w') := ⟨fun W => by
    rcases hw with rfl | h
    · exact at_nil (hi, lo, n) true W
    · exact put_wrong t hi lo n h0 h1 h W⟩
  clear hw
  obtain ⟨o, ho⟩ : ∃ o, ptrN t = .pointer o := ⟨_, rfl⟩
  rw [ho] at AT ⊢
  clear ho
  obtain ⟨W0, hW0⟩ : ∃ W0, W0 = w.alloc (.cells #[.int .u64 hi, .int .u64 lo, .int .i64 n] 25) := ⟨_, rfl⟩
  obtain ⟨hg, hl, hb⟩ := box3 hW0
  have B0 := Aside0.mk hb
  have HW := Lib.hid hW0
  obtain ⟨k0, _⟩ := heap_cell (j := 0) hg rfl
  obtain ⟨k1, _⟩ := heap_cell (j := 1) hg rfl
  obtain ⟨k2, _⟩ := heap_cell (j := 2) hg rfl
  rw [hW0] at k0 k1 k2
  clear hg hl hW0 hb
  go_enter Tryz.func34, Tryz.ntmps34
  go_wp2_with fail
  rw [← HW.out]
  clear k0 k1 k2
  refine (AT.out _).mono ?_
  rintro e w1 ⟨rfl, b1⟩
  have B1 := Aside0.mk (below_then B0.out B0.out.size b1)
  clear b1
  go_wp2_with fail
  go_ret
  exact ⟨rfl, B1.out⟩
end Go.Proofs.YtplehdcnnaamkaaGreatDoor

/- What AddrTells leans on: Must, its panics; the document's order; walked. -/
namespace Go.Proofs.YtplehdcnnaamkaaGreatDoor
open Go.RowKit Go.Proofs.YtplehdcnnaamkaaGreatDoorW.PrintWords Go.Proofs.YtplehdcnnaamkaaGreatDoorW.PrintMore

set_option maxRecDepth 100000 in
theorem FourA4 (n : Int) (w : World) : Calls Tryz.prog 64 #[.iface 111 (.int .u32 n)] w fun e w' => e = .returned (.tuple #[.int .u32 n, .bool true]) ∧ w' = w := by
  have q := ta_44
  go_enter Tryz.func64, Tryz.ntmps64
  go_wp2_with fail
  go_ret2
  exact ⟨rfl, rfl⟩
set_option maxRecDepth 100000 in
theorem FourA6 (hi lo : Int) (w : World) : Calls Tryz.prog 64 #[.iface 34 (.agg #[.int .u64 hi, .int .u64 lo])] w fun e w' => e = .returned (.tuple #[.int .u32 0, .bool false]) ∧ w' = w := by
  have q := ta_64
  go_enter Tryz.func64, Tryz.ntmps64
  go_wp2_with fail
  go_ret2
  exact ⟨rfl, rfl⟩
end Go.Proofs.YtplehdcnnaamkaaGreatDoor

/- Equal lists of numbers, as the library tells it; walked. -/
namespace Go.Proofs.YtplehdcnnaamkaaGreatDoor
open Go.RowKit Go.Proofs.YtplehdcnnaamkaaGreatDoorW.PrintWords Go.Proofs.YtplehdcnnaamkaaGreatDoorW.PrintMore

theorem C_kget {k : IntKind} {w : World} {A : Option Addr} {xs : List Int} (h : Kd.C (Kd.int k) w A xs.length xs) (j : Nat) (hj : j < xs.length) : ∃ ad, A = some ad ∧ w.cell? (ad.add j) = some (.int k (xs.getD j 0)) := by
  obtain ⟨ad, rfl⟩ := C_some h (by omega)
  refine ⟨ad, rfl, ?_⟩
  rw [C_int_at h j hj, List.getD_eq_getElem?_getD, List.getElem?_eq_getElem hj]
  rfl
theorem take_eq_next (xs ys : List Int) (j : Nat) (hx : j < xs.length) (hy : j < ys.length) (h : xs.take j = ys.take j) (he : xs.getD j 0 = ys.getD j 0) : xs.take (j + 1) = ys.take (j + 1) := by
  rw [List.getD_eq_getElem?_getD, List.getD_eq_getElem?_getD, List.getElem?_eq_getElem hx, List.getElem?_eq_getElem hy] at he
  rw [List.take_succ_eq_append_getElem hx, List.take_succ_eq_append_getElem hy, h, show xs[j] = ys[j] from he]
theorem take_ne (xs ys : List Int) (j : Nat) (he : xs.getD j 0 ≠ ys.getD j 0) : xs ≠ ys := fun h => he (by rw [h])
set_option maxHeartbeats 2000000 in
theorem EqualF_calls (xs ys : List Int) (n m : Nat) (hn : n = xs.length) (hm : m = ys.length) (A B : Option Addr) (c c' : Nat) (w : World) (hnm : n ≤ 1000000) (hA : ∀ j, j < xs.length → ∃ ad, A = some ad ∧ w.cell? (ad.add j) = some (.int .u32 (xs.getD j 0))) (hB : ∀ j, j < ys.length → ∃ ad, B = some ad ∧ w.cell? (ad.add j) = some (.int .u32 (ys.getD j 0))) :
    Calls Tryz.prog 140 #[.slice A n c, .slice B m c'] w fun e w' => e = .returned (.bool (decide (xs = ys))) ∧ Below w.heap.size w w' := by
  have HA := Aside0.mk hA
  have HB := Aside0.mk hB
  have HN := Lib.hid hn
  have HM := Lib.hid hm
  by_cases hd : n = m
  · subst hd
    clear hA hB hn hm
    go_enter Tryz.func140, Tryz.ntmps140
    go_wp2_with fail
    go_loopw [13] (fun i wr => ∃ j : Nat, i = .int .i64 j ∧ j ≤ n ∧ Aside0 (xs.take j = ys.take j) ∧ Aside0 (Below w.heap.size w wr)) (fun i _ => n - (intOf i).toNat)
    case atStart => exact ⟨0, rfl, by omega, ⟨rfl⟩, ⟨Below.refl _ _⟩⟩
    case round =>
      obtain ⟨j, rfl, hj, ht, hbw⟩ := hrel
      by_cases hlt : j < n
      · have hjx : j < xs.length := by rw [← HN.out]; exact hlt
        have hjy : j < ys.length := by rw [← HM.out]; exact hlt
        obtain ⟨ad, rfl, cx0⟩ := HA.out j hjx
        obtain ⟨bd, rfl, cy0⟩ := HB.out j hjy
        have cx := (hbw.out.cell (cell_blk cx0)).trans cx0
        have cy := (hbw.out.cell (cell_blk cy0)).trans cy0
        have hj0 : (0 : Int) ≤ (j : Int) := by omega
        have hji : (j : Int) < (n : Int) := by omega
        by_cases he : xs.getD j 0 = ys.getD j 0
        · have HT := Lib.hid (take_eq_next xs ys j hjx hjy ht.out he)
          rw [he] at cx
          clear he cx0 cy0 hjx hjy
          generalize ys.getD j 0 = y at cx cy
          go_wp2_with fail
          go_region
          all_goals
            go_wp2_with fail
            exact ⟨⟨j + 1, by go_num, by omega, ⟨HT.out⟩, ⟨hbw.out.drew⟩⟩, by simp [intOf]; omega⟩
        · have HF := Lib.hid (show false = decide (xs = ys) from (decide_eq_false (take_ne xs ys j he)).symm)
          have hb : (xs.getD j 0 == ys.getD j 0) = false := by simpa using he
          have hb' : (xs.getD j 0 != ys.getD j 0) = true := by simpa using he
          clear cx0 cy0 hjx hjy
          generalize ys.getD j 0 = y at cx cy hb hb' he
          generalize xs.getD j 0 = x at cx hb hb' he
          go_wp2_with fail
          go_region
          all_goals
            go_wp2_with fail
            go_ret
            exact ⟨ret_bool HF.out, hbw.out.drew⟩
      · have HF := Lib.hid (show true = decide (xs = ys) by
          have := ht.out
          rw [List.take_of_length_le (by rw [← HN.out]; omega), List.take_of_length_le (by rw [← HM.out]; omega)] at this
          exact (decide_eq_true this).symm)
        go_wp2_with fail
        go_ret
        exact ⟨ret_bool HF.out, hbw.out⟩
  · have HF := Lib.hid (show false = decide (xs = ys) from (decide_eq_false (fun h => hd (by rw [hn, hm, h]))).symm)
    clear hA hB hn hm
    go_enter Tryz.func140, Tryz.ntmps140
    go_wp2_with fail
    go_ret
    exact ⟨ret_bool HF.out, Below.refl _ _⟩
end Go.Proofs.YtplehdcnnaamkaaGreatDoor

/- What an address embeds, walked. -/
namespace Go.Proofs.YtplehdcnnaamkaaGreatDoor
open Go.RowKit Go.Proofs.YtplehdcnnaamkaaGreatDoorW.PrintWords Go.Proofs.YtplehdcnnaamkaaGreatDoorW.PrintMore

def in1 (hi lo : Int) : Bool := decide ((hi = 0 ∧ lo / 4294967296 = 65535) ∨ (hi = 0 ∧ lo / 4294967296 = 0 ∧ 1 < lo % 4294967296) ∨ (hi = 28428538856079360 ∧ lo / 4294967296 = 0))
def in2 (hi : Int) : Bool := decide (hi / 281474976710656 = 8194)
def in3 (hi : Int) : Bool := decide (hi / 4294967296 = 536936448)
def in4 (lo : Int) : Bool := decide (lo / 4294967296 = 24318 ∨ lo / 4294967296 = 33578750)
def inL1 (hi lo : Int) : List Int := bif in1 hi lo then [lo % 4294967296] else []
def inL2 (hi lo : Int) : List Int := inL1 hi lo ++ (bif in2 hi then [hi / 65536 % 4294967296] else [])
def inL3 (hi lo : Int) : List Int := inL2 hi lo ++ (bif in3 hi then [hi % 4294967296, 4294967295 - lo % 4294967296] else [])
/-- What an address of eight pieces embeds. -/
def inL4 (hi lo : Int) : List Int := inL3 hi lo ++ (bif in4 lo then [lo % 4294967296] else [])
theorem info_four : (Tryz.prog.info? 111).map (fun i => (i.zero, i.size, i.bytes)) = some (some (.int .u32 0), 1, 4) := by kernel_rfl

theorem inL1_len (hi lo : Int) : (inL1 hi lo).length ≤ 1 := by
  rw [inL1]
  cases in1 hi lo <;> simp
theorem inL2_len (hi lo : Int) : (inL2 hi lo).length ≤ 2 := by
  have := inL1_len hi lo
  rw [inL2, List.length_append]
  cases in2 hi <;> simp <;> omega
theorem inL3_len (hi lo : Int) : (inL3 hi lo).length ≤ 4 := by
  have := inL2_len hi lo
  rw [inL3, List.length_append]
  cases in3 hi <;> simp <;> omega
set_option maxHeartbeats 8000000 in
set_option maxRecDepth 100000 in
theorem Inner6_calls (hi lo : Int) (_h0 : 0 ≤ hi ∧ hi < 18446744073709551616) (h1 : 0 ≤ lo ∧ lo < 18446744073709551616) (w : World) :
    Calls Tryz.prog 141 #[.iface 34 (.agg #[.int .u64 hi, .int .u64 lo])] w fun e w' => ∃ v, e = .returned v ∧ Kd.R (Kd.int .u32) 111 w' w.heap.size (fun _ => True) v (inL4 hi lo) ∧ Below w.heap.size w w' := by
  have q6 := ta_66
  go_enter Tryz.func141, Tryz.ntmps141
  go_upto_region 5 with (fail)
  obtain ⟨W1, hW1⟩ : ∃ W1, W1 = w.alloc (.cells #[.int .u64 hi, .int .u64 lo] 34) := ⟨_, rfl⟩
  rw [← hW1]
  have hg : W1.heap[w.heap.size]? = some (.cells #[.int .u64 hi, .int .u64 lo] 34 (0, 0)) := by rw [hW1]; exact heap_alloc_new' _ _ _ rfl
  have hlt : w.heap.size < W1.heap.size := by rw [hW1]; simp
  have B1 : Aside0 (Below w.heap.size w W1) := ⟨by rw [hW1]; exact (Below.refl _ _).alloc (Nat.le_refl _) _⟩
  obtain ⟨g, hgs⟩ : ∃ g, g = w.heap.size := ⟨_, rfl⟩
  rw [← hgs] at hg hlt ⊢
  have HGS := Lib.hid hgs
  have HG := Aside0.mk hg
  obtain ⟨c0, _⟩ := heap_cell (j := 0) hg rfl
  obtain ⟨c1, _⟩ := heap_cell (j := 1) hg rfl
  clear hg hgs hW1
  go_region
  obtain ⟨w1, hw1⟩ : ∃ w1, w1 = W1.drew := ⟨_, rfl⟩
  rw [← hw1]
  have hg2 : w1.heap[g]? = some (.cells #[.int .u64 hi, .int .u64 lo] 34 (0, 0)) := by rw [hw1]; exact HG.out
  have B2 : Aside0 (Below w.heap.size w w1) := ⟨by rw [hw1]; exact B1.out.drew⟩
  have hlt2 : g < w1.heap.size := by rw [hw1]; exact hlt
  have HG2 := Aside0.mk hg2
  clear hw1 HG B1 hlt c0 c1
  obtain ⟨c0, _⟩ := heap_cell (j := 0) hg2 rfl
  obtain ⟨c1, _⟩ := heap_cell (j := 1) hg2 rfl
  clear hg2
  have hlow : 0 ≤ lo % 4294967296 ∧ lo % 4294967296 < 4294967296 := by omega
  have htop : 0 ≤ lo / 4294967296 ∧ lo / 4294967296 < 4294967296 := by omega
  obtain ⟨low, hlw⟩ : ∃ l, l = lo % 4294967296 := ⟨_, rfl⟩
  obtain ⟨top, htp⟩ : ∃ l, l = lo / 4294967296 := ⟨_, rfl⟩
  rw [← hlw] at hlow ⊢
  rw [← htp] at htop ⊢
  have HLW := Lib.hid hlw
  have HTP := Lib.hid htp
  clear hlw htp
  go_upto_region 6 with (fail)
  go_cut [49] from 8 (fun s wx => ∃ c, s = .bool c ∧ Aside0 (c = in1 hi lo) ∧ w1 = wx)
  case first =>
    by_cases a1 : hi = 0
    · have b1 : (hi == 0) = true := by simpa using a1
      have b5 : (hi == 28428538856079360) = false := by rw [beq_eq_false_iff_ne]; omega
      have A1 := Lib.hid a1
      clear a1
      by_cases a2 : top = 65535
      · have b2 : (top == 65535) = true := by simpa using a2
        have A1 := Lib.hid (And.intro A1.out a2)
        clear a2
        have HI := Lib.hid (show in1 hi lo = true from decide_eq_true (by have := HLW.out; have := HTP.out; have := A1.out; omega))
        go_wp2_with fail
        go_meet
        case rel => exact ⟨_, rfl, ⟨HI.out.symm⟩, rfl⟩
      · have b2 : (top == 65535) = false := by simpa using a2
        by_cases a3 : top = 0
        · have b3 : (top == 0) = true := by simpa using a3
          have A1 := Lib.hid (And.intro A1.out (And.intro a2 a3))
          clear a2 a3
          by_cases a4 : 1 < low
          · have A1 := Lib.hid (And.intro A1.out a4)
            have HI := Lib.hid (show in1 hi lo = true from decide_eq_true (by have := HLW.out; have := HTP.out; have := A1.out; omega))
            go_wp2_with fail
            go_meet
            case rel => exact ⟨_, rfl, ⟨HI.out.symm⟩, rfl⟩
          · have A1 := Lib.hid (And.intro A1.out a4)
            have HI := Lib.hid (show in1 hi lo = false from decide_eq_false (by have := HLW.out; have := HTP.out; have := A1.out; omega))
            go_wp2_with fail
            go_meet
            case rel => exact ⟨_, rfl, ⟨HI.out.symm⟩, rfl⟩
        · have b3 : (top == 0) = false := by simpa using a3
          have A1 := Lib.hid (And.intro A1.out (And.intro a2 a3))
          clear a2 a3
          have HI := Lib.hid (show in1 hi lo = false from decide_eq_false (by have := HLW.out; have := HTP.out; have := A1.out; omega))
          go_wp2_with fail
          go_meet
          case rel => exact ⟨_, rfl, ⟨HI.out.symm⟩, rfl⟩
    · have b1 : (hi == 0) = false := by simpa using a1
      by_cases a5 : hi = 28428538856079360
      · have b5 : (hi == 28428538856079360) = true := by simpa using a5
        have A0 := Lib.hid (And.intro a1 a5)
        clear a1 a5
        by_cases a3 : top = 0
        · have b3 : (top == 0) = true := by simpa using a3
          have A1 := Lib.hid (And.intro A0.out a3)
          clear a3
          have HI := Lib.hid (show in1 hi lo = true from decide_eq_true (by have := HLW.out; have := HTP.out; have := A1.out; omega))
          go_wp2_with fail
          go_meet
          case rel => exact ⟨_, rfl, ⟨HI.out.symm⟩, rfl⟩
        · have b3 : (top == 0) = false := by simpa using a3
          have A1 := Lib.hid (And.intro A0.out a3)
          clear a3
          have HI := Lib.hid (show in1 hi lo = false from decide_eq_false (by have := HLW.out; have := HTP.out; have := A1.out; omega))
          go_wp2_with fail
          go_meet
          case rel => exact ⟨_, rfl, ⟨HI.out.symm⟩, rfl⟩
      · have b5 : (hi == 28428538856079360) = false := by simpa using a5
        have A1 := Lib.hid (And.intro a1 a5)
        clear a1 a5
        have HI := Lib.hid (show in1 hi lo = false from decide_eq_false (by have := HLW.out; have := HTP.out; have := A1.out; omega))
        go_wp2_with fail
        go_meet
        case rel => exact ⟨_, rfl, ⟨HI.out.symm⟩, rfl⟩
  case rest =>
  obtain ⟨c, rfl, hc, rfl⟩ := hcut
  go_upto_if 49 with (fail)
  go_cut [5] from 8 (fun s wx => Kd.R (Kd.int .u32) 111 wx w1.heap.size (fun _ => True) s (inL1 hi lo) ∧ Below w1.heap.size w1 wx)
  case first =>
    cases c
    · have HL := Lib.hid (show ([] : List Int) = inL1 hi lo by rw [inL1, ← hc.out]; rfl)
      go_wp2_with fail
      go_meet
      case rel => exact ⟨by rw [← HL.out]; exact Kd.R_nil _ _ _ _ _, Below.refl _ _⟩
    · have HL := Lib.hid (show [] ++ [low] = inL1 hi lo by rw [inL1, ← hc.out, HLW.out]; rfl)
      go_wp2_with ((with_reducible refine gate_builtin (b := .append) (xs := #[.tmp 50, .tmp 52]) rfl ?_); at_builtin; refine Kd.R_append (Kd.int .u32) (w0 := w1) w1.heap.size rfl (.tmp 50) (.tmp 52) 208 111 (.int .u32 0) 4 rfl Tryz.underlying208 info_four rfl (by decide) (by omega) (.slice none 0 0) [] low [.int .u32 low] (fun _ => True) (fun _ => False) rfl rfl ?aP (fun _ hk => hk.elim) ?aF ?aO ?aB ?aS ?aL ?_; (case aP => exact rfl); (case aF => exact fun _ _ => trivial); (case aO => exact (Kd.R_nil _ _ _ _ _)); (case aB => exact (Below.refl _ _)); (case aS => omega); (case aL => (simp)); intro v1 w4 ho hb hg _)
      go_meet
      case rel => exact ⟨by rw [← HL.out]; exact ho, hb⟩
  case rest =>
  obtain ⟨hO, hb⟩ := hcut
  have hs : w1.heap.size ≤ wc.heap.size := hb.size
  have hgc := (hb.block g hlt2).trans HG2.out
  clear c0 c1
  obtain ⟨c0, _⟩ := heap_cell (j := 0) hgc rfl
  obtain ⟨c1, _⟩ := heap_cell (j := 1) hgc rfl
  have HO := Aside0.mk hO
  have HB := Aside0.mk hb
  clear hO hb hgc
  go_upto_if 57 with (fail)
  go_cut [5] from 8 (fun s wx => Kd.R (Kd.int .u32) 111 wx w1.heap.size (fun _ => True) s (inL2 hi lo) ∧ Below w1.heap.size w1 wx)
  case first =>
    rcases h : (hi / 281474976710656 == 8194) with _ | _
    · have HL := Lib.hid (show inL1 hi lo = inL2 hi lo by rw [inL2, show in2 hi = false from h]; simp)
      go_wp2_with fail
      go_meet
      case rel => exact ⟨by rw [← HL.out]; exact HO.out, HB.out⟩
    · have HL := Lib.hid (show inL1 hi lo ++ [hi / 65536 % 4294967296] = inL2 hi lo by rw [inL2, show in2 hi = true from h]; simp)
      have hln := inL1_len hi lo
      go_wp2_with ((with_reducible refine gate_builtin (b := .append) (xs := #[.tmp 58, .tmp 63]) rfl ?_); at_builtin; refine Kd.R_append (Kd.int .u32) (w0 := w1) w1.heap.size rfl (.tmp 58) (.tmp 63) 208 111 (.int .u32 0) 4 rfl Tryz.underlying208 info_four rfl (by decide) (by omega) u5 (inL1 hi lo) (hi / 65536 % 4294967296) [.int .u32 (hi / 65536 % 4294967296)] (fun _ => True) (fun _ => False) rfl rfl ?aP (fun _ hk => hk.elim) ?aF ?aO ?aB ?aS ?aL ?_; (case aP => exact rfl); (case aF => exact fun _ _ => trivial); (case aO => exact HO.out); (case aB => exact HB.out); (case aS => omega); (case aL => omega); intro v1 w4 ho hb hg _)
      go_meet
      case rel => exact ⟨by rw [← HL.out]; exact ho, hb⟩
  case rest =>
  obtain ⟨hO, hb⟩ := hcut
  have hs : w1.heap.size ≤ wc.heap.size := hb.size
  have hgc := (hb.block g hlt2).trans HG2.out
  obtain ⟨c0, _⟩ := heap_cell (j := 0) hgc rfl
  obtain ⟨c1, _⟩ := heap_cell (j := 1) hgc rfl
  have HO := Aside0.mk hO
  have HB := Aside0.mk hb
  clear hO hb hgc
  have HX := Lib.hid (show (bits BinOp.xor IntKind.u32 (if IntKind.u32.signed = true then -1 else IntKind.u32.max) low) = 4294967295 - low from xor_max32 low hlow.1 hlow.2)
  go_upto_if 68 with (fail)
  go_cut [5] from 8 (fun s wx => Kd.R (Kd.int .u32) 111 wx w1.heap.size (fun _ => True) s (inL3 hi lo) ∧ Below w1.heap.size w1 wx)
  case first =>
    rcases h : (hi / 4294967296 == 536936448) with _ | _
    · have HL := Lib.hid (show inL2 hi lo = inL3 hi lo by rw [inL3, show in3 hi = false from h]; simp)
      go_wp2_with fail
      go_meet
      case rel => exact ⟨by rw [← HL.out]; exact HO.out, HB.out⟩
    · have HL := Lib.hid (show inL2 hi lo ++ [hi % 4294967296, (bits BinOp.xor IntKind.u32 (if IntKind.u32.signed = true then -1 else IntKind.u32.max) low)] = inL3 hi lo by rw [inL3, show in3 hi = true from h, HX.out, HLW.out]; simp)
      have hln := inL2_len hi lo
      go_wp2_with ((with_reducible refine gate_builtin (b := .append) (xs := #[.tmp 69, .tmp 75]) rfl ?_); at_builtin; go_loud (refine Kd.R_append_rows (Kd.int .u32) (w0 := w1) w1.heap.size rfl (.tmp 69) (.tmp 75) 208 111 (.int .u32 0) 4 rfl Tryz.underlying208 info_four rfl (by decide) (by omega) u5 (inL2 hi lo) [hi % 4294967296, (bits BinOp.xor IntKind.u32 (if IntKind.u32.signed = true then -1 else IntKind.u32.max) low)] _ _ _ (fun _ => True) (fun _ => False) rfl rfl ?aO ?aR (fun _ _ h => h) (fun _ h => h.elim) ?aF ?aB ?aS ?aL ?_); go_loud (case aO => exact (Kd.R_below HO.out ((Below.refl _ _).alloc (Nat.le_refl _) _))); go_loud (case aR => exact (C_new .u32 wc [hi % 4294967296, (bits BinOp.xor IntKind.u32 (if IntKind.u32.signed = true then -1 else IntKind.u32.max) low)] _ (show 2 ≤ 9223372036854775807 by omega))); (case aF => exact fun _ _ => trivial); go_loud (case aB => exact (HB.out.alloc (by omega) _)); go_loud (case aS => (simp; omega)); go_loud (case aL => omega); intro v1 w4 ho hb hg _)
      go_meet
      case rel => exact ⟨by rw [← HL.out]; exact ho, hb⟩
  case rest =>
  obtain ⟨hO, hb⟩ := hcut
  have hs : w1.heap.size ≤ wc.heap.size := hb.size
  have hgc := (hb.block g hlt2).trans HG2.out
  obtain ⟨c0, _⟩ := heap_cell (j := 0) hgc rfl
  obtain ⟨c1, _⟩ := heap_cell (j := 1) hgc rfl
  have HO := Aside0.mk hO
  have HB := Aside0.mk hb
  clear hO hb hgc
  obtain ⟨tv, htv⟩ : ∃ tv, tv = top - (if top / 33554432 % 2 = 1 then 33554432 else 0) := ⟨_, rfl⟩
  have hAN := strike_25 top htop.1 htop.2
  rw [← htv] at hAN
  have HI4 := Lib.hid (show in4 lo = (tv == 24318) by
    rw [in4, ← HTP.out]
    have e : (top = 24318 ∨ top = 33578750) ↔ tv = 24318 := by
      rw [htv]
      split <;> omega
    by_cases h : tv = 24318
    · rw [decide_eq_true (e.2 h), h]
      rfl
    · rw [decide_eq_false (fun hh => h (e.1 hh)), beq_eq_false_iff_ne.2 h])
  clear htv
  go_upto_if 79 with (fail)
  go_cut [5] from 8 (fun s wx => Kd.R (Kd.int .u32) 111 wx w1.heap.size (fun _ => True) s (inL4 hi lo) ∧ Below w1.heap.size w1 wx)
  case first =>
    rcases h : (tv == 24318) with _ | _
    · have HL := Lib.hid (show inL3 hi lo = inL4 hi lo by rw [inL4, HI4.out, h]; simp)
      go_wp2_with fail
      go_meet
      case rel => exact ⟨by rw [← HL.out]; exact HO.out, HB.out⟩
    · have HL := Lib.hid (show inL3 hi lo ++ [low] = inL4 hi lo by rw [inL4, HI4.out, h, HLW.out]; simp)
      have hln := inL3_len hi lo
      go_wp2_with ((with_reducible refine gate_builtin (b := .append) (xs := #[.tmp 80, .tmp 82]) rfl ?_); at_builtin; refine Kd.R_append (Kd.int .u32) (w0 := w1) w1.heap.size rfl (.tmp 80) (.tmp 82) 208 111 (.int .u32 0) 4 rfl Tryz.underlying208 info_four rfl (by decide) (by omega) u5 (inL3 hi lo) low [.int .u32 low] (fun _ => True) (fun _ => False) rfl rfl ?aP (fun _ hk => hk.elim) ?aF ?aO ?aB ?aS ?aL ?_; (case aP => exact rfl); (case aF => exact fun _ _ => trivial); (case aO => exact HO.out); (case aB => exact HB.out); (case aS => omega); (case aL => omega); intro v1 w4 ho hb hg _)
      go_meet
      case rel => exact ⟨by rw [← HL.out]; exact ho, hb⟩
  case rest =>
  obtain ⟨hO, hb⟩ := hcut
  go_wp2_with fail
  go_ret
  exact ⟨_, rfl, Kd.R_lower hO B2.out.size, below_then B2.out B2.out.size hb⟩
end Go.Proofs.YtplehdcnnaamkaaGreatDoor

/- Prefixes, read and written: plain Lean. -/
namespace Go.Proofs.YtplehdcnnaamkaaGreatDoor
open Go.RowKit Go.Proofs.YtplehdcnnaamkaaGreatDoorW.PrintWords

/-- What is added to the length that is written behind an address. -/
def addOf : Bool × Int × Int → Int
  | (true, _, _) => 0
  | (false, _, _) => 96
/-- The prefix of an address's text and a length's. -/
def pfMk (o : Option (Bool × Int × Int)) (tail : List UInt8) : Option P3 := match o with
  | none => none
  | some a => if decOk tail (128 - addOf a) = true then if rightP (adHi a) (adLo a) (decN tail (128 - addOf a) + addOf a) = true then some (adHi a, adLo a, decN tail (128 - addOf a) + addOf a) else none else none
/-- The prefix that a text is. -/
def pfOf (l : List UInt8) : Option P3 := pfMk (adOf (Lib.cut l [47]).1) (Lib.cut l [47]).2.1
def pfV : Option P3 → Value
  | none => .agg #[.int .u64 0, .int .u64 0, .int .i64 0]
  | some p => .agg #[.int .u64 p.1, .int .u64 p.2.1, .int .i64 p.2.2]
theorem dec_bounds (l : List UInt8) (m : Int) (h : decOk l m = true) : 0 ≤ decN l m ∧ decN l m ≤ m := by
  have hp : plainD l = true := by
    rw [decOk, Bool.and_eq_true] at h
    exact h.1
  have hm : decV l ≤ m := by
    rw [decOk, Bool.and_eq_true, decide_eq_true_iff] at h
    exact h.2
  have hd : digitsL l = true := by
    rw [plainD, Bool.and_eq_true] at hp
    exact hp.1
  rw [decN, if_pos h]
  exact ⟨decV_nonneg l hd, hm⟩
theorem pfMk_some (a : Bool × Int × Int) (t : List UInt8) (k : Int) (h1 : decOk t (128 - addOf a) = true) (h2 : decN t (128 - addOf a) = k) (h3 : rightP (adHi a) (adLo a) (k + addOf a) = true) : pfMk (some a) t = some (adHi a, adLo a, k + addOf a) := by
  subst h2
  rw [pfMk]
  simp only [if_pos h1, if_pos h3]
end Go.Proofs.YtplehdcnnaamkaaGreatDoor

/- Prefixes, read; walked. -/
namespace Go.Proofs.YtplehdcnnaamkaaGreatDoor
open Go.RowKit Go.Proofs.YtplehdcnnaamkaaGreatDoorW.PrintWords Go.Proofs.YtplehdcnnaamkaaGreatDoorW.PrintMore

theorem ret_pf {a b : Value} {c d : Bool} (h : b = a) (h' : d = c) : Ending.returned (.tuple #[a, .bool c]) = .returned (.tuple #[b, .bool d]) := by rw [h, h']
theorem pfMk_none2 (a : Bool × Int × Int) (t : List UInt8) (h : decOk t (128 - addOf a) = false) : pfMk (some a) t = none := by
  rw [pfMk, h]; rfl
theorem pfMk_none3 (a : Bool × Int × Int) (t : List UInt8) (h1 : decOk t (128 - addOf a) = true) (h3 : rightP (adHi a) (adLo a) (decN t (128 - addOf a) + addOf a) = false) : pfMk (some a) t = none := by
  rw [pfMk]
  simp only [if_pos h1, h3]
  rfl
set_option maxHeartbeats 8000000 in
set_option maxRecDepth 100000 in
theorem PfParse_calls (s : ByteArray) (w : World) (hs : s.size ≤ 900000) (hE : Aside0 (Errs w)) (hM : Aside0 (Mx w)) :
    Calls Tryz.prog 16 #[.string s] w fun e w' => e = .returned (.tuple #[pfV (pfOf s.data.toList), .bool (pfOf s.data.toList).isSome]) ∧ Below w.heap.size w w' := by
  have q4 := mw_4
  have q6 := mw_6
  obtain ⟨W0, hW0⟩ : ∃ W0, W0 = w.alloc (.cells #[.int .u64 0, .int .u64 0, .int .i64 0] 25) := ⟨_, rfl⟩
  obtain ⟨hg, hl, hb⟩ := box3 hW0
  have B0 := Aside0.mk hb
  have HW := Lib.hid hW0
  have HG := Aside0.mk hg
  clear hg hW0 hb
  obtain ⟨mx, hmx⟩ := hM.out
  have HMX := Aside0.mk hmx
  have hcl := cut_le s.data.toList [47]
  rw [show s.data.toList.length = s.size by simp] at hcl
  obtain ⟨r, hr⟩ : ∃ r, r = pfOf s.data.toList := ⟨_, rfl⟩
  rw [← hr]
  have HR := Lib.hid (hr.trans (show pfOf s.data.toList = pfMk (adOf (Lib.cut s.data.toList [47]).1) (Lib.cut s.data.toList [47]).2.1 from rfl))
  clear hr hmx
  go_enter Tryz.func16, Tryz.ntmps16
  go_wp2_with fail
  rw [← HW.out]
  refine (Tryz.strings_Cut s _ mx _ (by omega) (by rw [← HMX.out]; exact B0.out.cell (cell_of_lt HMX.out))).mono ?_
  rintro e w1 ⟨rfl, n1, hw1⟩
  rw [show (ByteArray.mk #[47]).data.toList = [47] from rfl]
  have hb1 : Below W0.heap.size W0 w1 := by rw [hw1]; exact pw_below_drewN (Below.refl _ _) n1
  have HG1 := Aside0.mk ((hb1.block _ hl).trans HG.out)
  have hl1 := Nat.lt_of_lt_of_le hl hb1.size
  have B1 := Aside0.mk (below_then B0.out B0.out.size hb1)
  clear hw1 hb1
  generalize Lib.cut s.data.toList [47] = C at HR hcl ⊢
  obtain ⟨wl, rl, more⟩ := C
  simp only [] at HR hcl ⊢
  obtain ⟨word, hword⟩ : ∃ word : ByteArray, word = ⟨wl.toArray⟩ := ⟨_, rfl⟩
  obtain ⟨rst, hrst⟩ : ∃ rst : ByteArray, rst = ⟨rl.toArray⟩ := ⟨_, rfl⟩
  have hwz : word.size ≤ 900000 := by rw [hword, mk_size]; omega
  have hrz : rst.size ≤ 900000 := by rw [hrst, mk_size]; omega
  have hwl : word.data.toList = wl := by rw [hword]
  have hrl : rst.data.toList = rl := by rw [hrst]
  rw [← hword, ← hrst]
  have HWL := Lib.hid hwl
  have HRL := Lib.hid hrl
  clear hword hrst hwl hrl hcl
  go_wp2_with fail
  refine (AdParse_calls word _ hwz ⟨hE.out.stays B1.out⟩ ⟨hM.out.stays B1.out⟩).mono ?_
  rw [HWL.out]
  have hok := adOf_ok wl
  generalize adOf wl = o at HR hok ⊢
  rintro e w2 ⟨rfl, b2⟩
  have HG2 := Aside0.mk ((b2.block _ hl1).trans HG1.out)
  have hl2 := Nat.lt_of_lt_of_le hl1 b2.size
  have B2 := Aside0.mk (below_then B1.out B1.out.size b2)
  have hg2 := HG2.out
  obtain ⟨k0, f0⟩ := heap_cell (j := 0) hg2 rfl
  obtain ⟨k1, f1⟩ := heap_cell (j := 1) hg2 rfl
  obtain ⟨k2, f2⟩ := heap_cell (j := 2) hg2 rfl
  clear hg2 b2
  rcases o with _ | a
  · simp only [adVo, Option.isSome]
    go_wp2_with fail
    refine bodyPost_ret (results_cell_bool rfl _ _ w.heap.size 25 #[.int .u64 0, .int .u64 0, .int .i64 0] (0, 0) _ rfl (heap_set3 _ _ _ HG2.out) Tryz.underlying25 rfl (by kernel_rfl)) rfl ?_
    exact ⟨ret_pf (by rw [HR.out]; rfl) (by rw [HR.out]; rfl), below_set3 B2.out (Nat.le_refl _) _ _ _⟩
  · have HA := hok a rfl
    have hbd := ad_bd a HA
    clear hok
    have N1 := Aside0.mk (pfMk_none2 a rl)
    have N2 := Aside0.mk (pfMk_none3 a rl)
    have N3 := Aside0.mk (pfMk_some a rl)
    have hdb := dec_bounds rl (128 - addOf a)
    have RI := Aside0.mk (Right_calls (adHi a) (adLo a) (decN rl (128 - addOf a) + addOf a) hbd.1 hbd.2)
    obtain ⟨sx, hi, lo⟩ := a
    cases sx
    · simp only [adVo, adV, Option.isSome]
      have hw : (128 : Int) - addOf (false, hi, lo) = 32 := rfl
      have hadd : addOf (false, hi, lo) = 96 := rfl
      rw [hw] at N1 N2 N3 hdb RI
      rw [hadd] at N2 N3 RI
      clear hw hadd
      simp only [adHi, adLo] at N1 N2 N3 RI
      go_wp2_with fail
      refine (FourA4 lo _).mono ?_
      rintro e w3 ⟨rfl, rfl⟩
      go_wp2_with fail
      refine (Decimal_calls rst (by omega) _ (by omega) _ ⟨hE.out.stays B2.out⟩).mono ?_
      rw [HRL.out]
      rintro e w4 ⟨rfl, b4⟩
      have HG4 := Aside0.mk ((b4.block _ hl2).trans HG2.out)
      have hl4 := Nat.lt_of_lt_of_le hl2 b4.size
      have B4 := Aside0.mk (below_then B2.out B2.out.size b4)
      clear k0 f0 k1 f1 k2 f2
      have hg4 := HG4.out
      obtain ⟨k0, f0⟩ := heap_cell (j := 0) hg4 rfl
      obtain ⟨k1, f1⟩ := heap_cell (j := 1) hg4 rfl
      obtain ⟨k2, f2⟩ := heap_cell (j := 2) hg4 rfl
      clear hg4 b4
      cases hd : decOk rl 32
      · have HN := Lib.hid (N1.out hd)
        generalize decN rl 32 = n
        clear hd hdb
        go_wp2_with fail
        refine bodyPost_ret (results_cell_bool rfl _ _ w.heap.size 25 #[.int .u64 0, .int .u64 0, .int .i64 0] (0, 0) _ rfl (heap_set3 _ _ _ HG4.out) Tryz.underlying25 rfl (by kernel_rfl)) rfl ?_
        exact ⟨ret_pf (by rw [HR.out, HN.out]; rfl) (by rw [HR.out, HN.out]; rfl), below_set3 B4.out (Nat.le_refl _) _ _ _⟩
      · have hn := hdb hd
        have N4 := Aside0.mk (N2.out hd)
        have N5 := Aside0.mk (N3.out (decN rl 32) hd rfl)
        clear N1 N2 N3 hdb hd
        generalize decN rl 32 = n at hn N4 N5 RI
        go_wp2_with fail
        refine (Wide4_calls lo HA.2.1 HA.2.2 _).mono ?_
        rintro e w5 ⟨rfl, b5⟩
        have HG5 := Aside0.mk ((b5.block _ hl4).trans HG4.out)
        have hl5 := Nat.lt_of_lt_of_le hl4 b5.size
        have B5 := Aside0.mk (below_then B4.out B4.out.size b5)
        clear k0 f0 k1 f1 k2 f2 b5
        obtain ⟨W6, hW6⟩ : ∃ W6, W6 = w5.alloc (.cells #[.int .u64 0, .int .u64 (281470681743360 + lo), .int .i64 (n + 96)] 25) := ⟨_, rfl⟩
        obtain ⟨hg6, hl6, hb6⟩ := box3 hW6
        have HW6 := Lib.hid hW6
        have HG6 := Aside0.mk hg6
        have B6 := Aside0.mk (below_then B5.out B5.out.size hb6)
        have HG7 := Aside0.mk ((hb6.block _ hl5).trans HG5.out)
        have hl7 := Nat.lt_of_lt_of_le hl5 hb6.size
        clear hg6 hb6 hW6
        go_wp2_with fail
        try rw [← HW6.out]
        refine (RI.out _).mono ?_
        rintro e w7 ⟨rfl, b7⟩
        have HG8 := Aside0.mk ((b7.block _ hl7).trans HG7.out)
        have HG9 := Aside0.mk ((b7.block _ hl6).trans HG6.out)
        have B7 := Aside0.mk (below_then B6.out B6.out.size b7)
        have hg8 := HG8.out
        have hg9 := HG9.out
        obtain ⟨k0, f0⟩ := heap_cell (j := 0) hg8 rfl
        obtain ⟨k1, f1⟩ := heap_cell (j := 1) hg8 rfl
        obtain ⟨k2, f2⟩ := heap_cell (j := 2) hg8 rfl
        obtain ⟨m0, _⟩ := heap_cell (j := 0) hg9 rfl
        obtain ⟨m1, _⟩ := heap_cell (j := 1) hg9 rfl
        obtain ⟨m2, _⟩ := heap_cell (j := 2) hg9 rfl
        clear hg8 hg9 b7
        cases hr : rightP 0 (281470681743360 + lo) (n + 96)
        · have HN := Lib.hid (N4.out hr)
          clear hr
          go_wp2_with fail
          refine bodyPost_ret (results_cell_bool rfl _ _ w.heap.size 25 #[.int .u64 0, .int .u64 0, .int .i64 0] (0, 0) _ rfl (heap_set3 _ _ _ HG8.out) Tryz.underlying25 rfl (by kernel_rfl)) rfl ?_
          exact ⟨ret_pf (by rw [HR.out, HN.out]; rfl) (by rw [HR.out, HN.out]; rfl), below_set3 B7.out (Nat.le_refl _) _ _ _⟩
        · have HN := Lib.hid (N5.out hr)
          clear hr
          go_wp2_with fail
          refine bodyPost_ret (results_cell_bool rfl _ _ w.heap.size 25 #[.int .u64 0, .int .u64 (281470681743360 + lo), .int .i64 (n + 96)] (0, 0) _ rfl (heap_set3 _ _ _ HG8.out) Tryz.underlying25 rfl (by kernel_rfl)) rfl ?_
          exact ⟨ret_pf (by rw [HR.out, HN.out]; rfl) (by rw [HR.out, HN.out]; rfl), below_set3 B7.out (Nat.le_refl _) _ _ _⟩
    · simp only [adVo, adV, Option.isSome]
      have hw : (128 : Int) - addOf (true, hi, lo) = 128 := rfl
      have hadd : addOf (true, hi, lo) = 0 := rfl
      rw [hw] at N1 N2 N3 hdb RI
      rw [hadd] at N2 N3 RI
      simp only [Int.add_zero] at N2 N3 RI
      clear hw hadd
      simp only [adHi, adLo] at N1 N2 N3 RI
      go_wp2_with fail
      refine (FourA6 hi lo _).mono ?_
      rintro e w3 ⟨rfl, rfl⟩
      go_wp2_with fail
      refine (Decimal_calls rst (by omega) _ (by omega) _ ⟨hE.out.stays B2.out⟩).mono ?_
      rw [HRL.out]
      rintro e w4 ⟨rfl, b4⟩
      have HG4 := Aside0.mk ((b4.block _ hl2).trans HG2.out)
      have hl4 := Nat.lt_of_lt_of_le hl2 b4.size
      have B4 := Aside0.mk (below_then B2.out B2.out.size b4)
      clear k0 f0 k1 f1 k2 f2
      have hg4 := HG4.out
      obtain ⟨k0, f0⟩ := heap_cell (j := 0) hg4 rfl
      obtain ⟨k1, f1⟩ := heap_cell (j := 1) hg4 rfl
      obtain ⟨k2, f2⟩ := heap_cell (j := 2) hg4 rfl
      clear hg4 b4
      cases hd : decOk rl 128
      · have HN := Lib.hid (N1.out hd)
        generalize decN rl 128 = n
        clear hd hdb
        go_wp2_with fail
        refine bodyPost_ret (results_cell_bool rfl _ _ w.heap.size 25 #[.int .u64 0, .int .u64 0, .int .i64 0] (0, 0) _ rfl (heap_set3 _ _ _ HG4.out) Tryz.underlying25 rfl (by kernel_rfl)) rfl ?_
        exact ⟨ret_pf (by rw [HR.out, HN.out]; rfl) (by rw [HR.out, HN.out]; rfl), below_set3 B4.out (Nat.le_refl _) _ _ _⟩
      · have hn := hdb hd
        have N4 := Aside0.mk (N2.out hd)
        have N5 := Aside0.mk (N3.out (decN rl 128) hd rfl)
        clear N1 N2 N3 hdb hd
        generalize decN rl 128 = n at hn N4 N5 RI
        go_wp2_with fail
        refine (Wide6_calls hi lo _).mono ?_
        rintro e w5 ⟨rfl, b5⟩
        have HG5 := Aside0.mk ((b5.block _ hl4).trans HG4.out)
        have hl5 := Nat.lt_of_lt_of_le hl4 b5.size
        have B5 := Aside0.mk (below_then B4.out B4.out.size b5)
        clear k0 f0 k1 f1 k2 f2 b5
        obtain ⟨W6, hW6⟩ : ∃ W6, W6 = w5.alloc (.cells #[.int .u64 hi, .int .u64 lo, .int .i64 n] 25) := ⟨_, rfl⟩
        obtain ⟨hg6, hl6, hb6⟩ := box3 hW6
        have HW6 := Lib.hid hW6
        have HG6 := Aside0.mk hg6
        have B6 := Aside0.mk (below_then B5.out B5.out.size hb6)
        have HG7 := Aside0.mk ((hb6.block _ hl5).trans HG5.out)
        have hl7 := Nat.lt_of_lt_of_le hl5 hb6.size
        clear hg6 hb6 hW6
        go_wp2_with fail
        try rw [← HW6.out]
        refine (RI.out _).mono ?_
        rintro e w7 ⟨rfl, b7⟩
        have HG8 := Aside0.mk ((b7.block _ hl7).trans HG7.out)
        have HG9 := Aside0.mk ((b7.block _ hl6).trans HG6.out)
        have B7 := Aside0.mk (below_then B6.out B6.out.size b7)
        have hg8 := HG8.out
        have hg9 := HG9.out
        obtain ⟨k0, f0⟩ := heap_cell (j := 0) hg8 rfl
        obtain ⟨k1, f1⟩ := heap_cell (j := 1) hg8 rfl
        obtain ⟨k2, f2⟩ := heap_cell (j := 2) hg8 rfl
        obtain ⟨m0, _⟩ := heap_cell (j := 0) hg9 rfl
        obtain ⟨m1, _⟩ := heap_cell (j := 1) hg9 rfl
        obtain ⟨m2, _⟩ := heap_cell (j := 2) hg9 rfl
        clear hg8 hg9 b7
        cases hr : rightP hi lo n
        · have HN := Lib.hid (N4.out hr)
          clear hr
          go_wp2_with fail
          refine bodyPost_ret (results_cell_bool rfl _ _ w.heap.size 25 #[.int .u64 0, .int .u64 0, .int .i64 0] (0, 0) _ rfl (heap_set3 _ _ _ HG8.out) Tryz.underlying25 rfl (by kernel_rfl)) rfl ?_
          exact ⟨ret_pf (by rw [HR.out, HN.out]; rfl) (by rw [HR.out, HN.out]; rfl), below_set3 B7.out (Nat.le_refl _) _ _ _⟩
        · have HN := Lib.hid (N5.out hr)
          clear hr
          go_wp2_with fail
          refine bodyPost_ret (results_cell_bool rfl _ _ w.heap.size 25 #[.int .u64 hi, .int .u64 lo, .int .i64 n] (0, 0) _ rfl (heap_set3 _ _ _ HG8.out) Tryz.underlying25 rfl (by kernel_rfl)) rfl ?_
          exact ⟨ret_pf (by rw [HR.out, HN.out]; rfl) (by rw [HR.out, HN.out]; rfl), below_set3 B7.out (Nat.le_refl _) _ _ _⟩
end Go.Proofs.YtplehdcnnaamkaaGreatDoor

/- Tries: the longest prefix that has an address, found; walked. -/
namespace Go.Proofs.YtplehdcnnaamkaaGreatDoor
open Go.RowKit Go.Proofs.YtplehdcnnaamkaaGreatDoorW.PrintWords Go.Proofs.YtplehdcnnaamkaaGreatDoorW.PrintMore

theorem results_cell_tmp3 {fn : Func} {p u v : Tmp} {ty : TypeId} (h : fn.results = #[.cell p ty, .tmp u, .tmp v]) (tmps : Array Value) (P : Program) (w : World) :
    (results fn tmps).run P w =
      ((asAddr (tmps.getD p undef)).run P w).andThen fun a w₁ => ((loadVar ty a).run P w₁).andThen fun x w₂ => .ok (.tuple #[x, tmps.getD u undef, tmps.getD v undef]) w₂ := by
  simp only [results, h]
  simp [Sem.run_bind, Result.andThen]
theorem results_cell_3 {P : Program} {fn : Func} {p u v : Tmp} {ty : TypeId} (h : fn.results = #[.cell p ty, .tmp u, .tmp v]) (tmps : Array Value) (w : World) (g : Nat) (t : TypeId) (cs : Array Value) (fr : Nat × Nat) (d : TypeDesc)
    (hp : tmps.getD p undef = .pointer (some ⟨g, 0, none⟩)) (hg : w.heap[g]? = some (.cells cs t fr)) (hu : P.underlying ty = some d) (hd : (match d with | .struct _ | .array _ _ => true | _ => false) = true) (hi : (P.info? ty).map (·.size) = some cs.size) :
    (results fn tmps).run P w = .ok (.tuple #[.agg cs, tmps.getD u undef, tmps.getD v undef]) w := by
  rw [results_cell_tmp3 h, hp]
  have e : (asAddr (.pointer (some ⟨g, 0, none⟩))).run P w = .ok ⟨g, 0, none⟩ w := rfl
  rw [e]
  simp only [Result.andThen]
  rw [run_loadVar_row w g t ty cs fr d hg hu hd hi]
/-- What a trie tells of an address. -/
def findV (r : Option E4) : Value := .tuple #[pfV (r.map Prod.fst), .int .i64 ((r.map Prod.snd).getD 0), .bool r.isSome]
def fndE (N : Nm) (D : Dm) (a b : Int) : Option E4 := (findI (infoI N D) a b 129).map fun x => (x.2, x.1)
end Go.Proofs.YtplehdcnnaamkaaGreatDoor

/- Tries: the longest prefix that has an address, found; walked. -/
namespace Go.Proofs.YtplehdcnnaamkaaGreatDoor
open Go.RowKit Go.Proofs.YtplehdcnnaamkaaGreatDoorW.PrintWords Go.Proofs.YtplehdcnnaamkaaGreatDoorW.PrintMore

theorem mask_all (a b : Int) : mHi a 128 = a ∧ mLo b 128 = b := by
  rw [mHi, mLo, if_neg (by omega), if_neg (by omega), show 128 - 128 = 0 by omega, Int.pow_zero, Int.emod_one]
  omega
/-- What was found on the way so far. -/
def bestIs (N : Nm) (D : Dm) (a b : Int) (i : Nat) (bo : Option Nat) : Prop :=
  (bo = none ∧ findI (infoI N D) a b i = none) ∨ ∃ π k, bo = some k ∧ N π = some k ∧ findI (infoI N D) a b i = some (D π).2
theorem bestIs.step {N : Nm} {D : Dm} {a b : Int} {i : Nat} {bo : Option Nat} (h : bestIs N D a b i bo) {k : Nat} (hk : N (pathN a b i) = some k) : bestIs N D a b (i + 1) (if (D (pathN a b i)).1 = true then some k else bo) := by
  have hI : infoI N D (pathN a b i) = if (D (pathN a b i)).1 = true then some (D (pathN a b i)).2 else none := by simp only [infoI, hk]
  by_cases hd : (D (pathN a b i)).1 = true
  · rw [if_pos hd] at hI ⊢
    exact .inr ⟨_, k, rfl, hk, by rw [findI, hI]⟩
  · rw [if_neg hd] at hI ⊢
    rcases h with ⟨h1, h2⟩ | ⟨π, k', h1, h2, h3⟩
    · exact .inl ⟨h1, by rw [findI, hI]; exact h2⟩
    · exact .inr ⟨π, k', h1, h2, by rw [findI, hI]; exact h3⟩
theorem find_end {w : World} {N : Nm} {D : Dm} (h : Rep w N D) (a b : Int) (i : Nat) (hi : i ≤ 129) (hn : N (pathN a b i) = none) : findI (infoI N D) a b 129 = findI (infoI N D) a b i := by
  have := findI_more (infoI N D) a b i (fun j hj => by
    have := h.none_path a b i j hj hn
    simp only [infoI, this]) (129 - i)
  rw [← this, show i + (129 - i) = 129 by omega]
/-- The kid on the way, at whatever depth. -/
theorem Rep.kidAny {w : World} {N : Nm} {D : Dm} (h : Rep w N D) (a b : Int) (i n : Nat) (hn : N (pathN a b i) = some n) (v : Nat) (hv : (i < 128 ∧ pBit a b i = (v : Int) ∧ v ≤ 1) ∨ (128 ≤ i ∧ v = 0)) : w.cell? ⟨n, v, none⟩ = some (ptrN (N (pathN a b (i + 1)))) := by
  rcases hv with ⟨h1, h2, h3⟩ | ⟨h1, rfl⟩
  · exact (h.kid a b i n hn v h2 h3).1
  · have hno : ∀ σ : List Bool, σ.length = i + 1 → N σ = none := fun σ hs => by
      cases hx : N σ with
      | none => rfl
      | some k =>
        have := h.deep σ (by rw [hx]; simp)
        omega
    have hc := h.cell _ _ hn
    rw [hno (pathN a b (i + 1)) (pathN_len _ _ _)]
    have := (heap_cell (j := 0) hc rfl).1
    rw [this]
    show some (ptrN (N (pathN a b i ++ [false]))) = _
    rw [hno _ (by simp [pathN_len])]
set_option maxHeartbeats 8000000 in
set_option maxRecDepth 100000 in
theorem Find_calls (t : Nat) (N : Nm) (D : Dm) (L : List E4) (x : Bool × Int × Int) (hx : adOk x) (w : World) (hT : Aside0 (Tri w t N D L)) :
    Calls Tryz.prog 35 #[.pointer (some ⟨t, 0, none⟩), adVo (some x)] w fun e w' => e = .returned (findV (fndE N D (adHi x) (adLo x))) ∧ Below w.heap.size w w' := by
  obtain ⟨W0, hW0⟩ : ∃ W0, W0 = w.alloc (.cells #[.int .u64 0, .int .u64 0, .int .i64 0] 25) := ⟨_, rfl⟩
  obtain ⟨hg, hl, hb⟩ := box3 hW0
  have B0 := Aside0.mk hb
  have T0 := Aside0.mk (hT.out.below hb)
  have HW := Lib.hid hW0
  obtain ⟨gr, hgr⟩ : ∃ gr, gr = w.heap.size := ⟨_, rfl⟩
  have HGR := Lib.hid hgr
  have HG : Aside0 (W0.heap[gr]? = some (.cells #[.int .u64 0, .int .u64 0, .int .i64 0] 25 (0, 0))) := ⟨by rw [hgr]; exact hg⟩
  have hl0 : gr < W0.heap.size := by rw [hgr]; exact hl
  clear hg hW0 hb hgr hl
  have OF := Aside0.mk (PfOf_calls (some x) (fun q e => by rw [← Option.some.inj e]; exact hx) 128)
  rw [show ofP (some x) 128 = .agg #[.int .u64 (adHi x), .int .u64 (adLo x), .int .i64 128] by
    rw [ofP, ofV, if_pos (by omega)]
    have := mask_all (adHi x) (adLo x)
    rw [show (128 : Int).toNat = 128 from rfl, this.1, this.2], show ofPok (some x) 128 = true from rfl] at OF
  have bd := ad_bd x hx
  generalize hvv : adVo (some x) = vv at OF ⊢
  clear hvv
  generalize adHi x = a at OF bd ⊢
  generalize adLo x = b at OF bd ⊢
  obtain ⟨ha, hb⟩ := bd
  obtain ⟨res, hres⟩ : ∃ res, res = fndE N D a b := ⟨_, rfl⟩
  rw [← hres]
  have HRES := Lib.hid hres
  clear hres
  go_enter Tryz.func35, Tryz.ntmps35
  go_wp2_with fail
  rw [← HW.out, ← HGR.out]
  refine (OF.out _).mono ?_
  rintro e w1 ⟨rfl, b1⟩
  have HG1 := Aside0.mk ((b1.block _ hl0).trans HG.out)
  have hl1 := Nat.lt_of_lt_of_le hl0 b1.size
  have B1 := Aside0.mk (below_then B0.out B0.out.size b1)
  obtain ⟨W2, hW2⟩ : ∃ W2, W2 = w1.alloc (.cells #[.int .u64 a, .int .u64 b, .int .i64 128] 25) := ⟨_, rfl⟩
  obtain ⟨hg2, hl2, hb2⟩ := box3 hW2
  have HW2 := Lib.hid hW2
  obtain ⟨gw, hgw⟩ : ∃ gw, gw = w1.heap.size := ⟨_, rfl⟩
  have HGW := Lib.hid hgw
  rw [← hgw] at hg2 hl2
  have HWH := Aside0.mk hg2
  have HG2 := Aside0.mk ((hb2.block _ hl1).trans HG1.out)
  have B2 := Aside0.mk (below_then B1.out B1.out.size hb2)
  have T2 := Aside0.mk ((T0.out.below b1).below hb2)
  obtain ⟨r, hroot, htc⟩ := T2.out.root
  have HRt := Aside0.mk hroot
  obtain ⟨c0, _⟩ := heap_cell (j := 0) htc rfl
  simp only [ptrN, Option.map] at c0
  obtain ⟨k0, _⟩ := heap_cell (j := 0) hg2 rfl
  obtain ⟨k1, _⟩ := heap_cell (j := 1) hg2 rfl
  obtain ⟨k2, _⟩ := heap_cell (j := 2) hg2 rfl
  rw [hW2] at c0
  clear b1 hW2 hgw hg2 hb2 hroot htc hl2
  go_upto_region 5 with (fail)
  rw [← HW2.out, ← HGW.out]
  rw [← HW2.out] at c0
  go_region
  go_wp2_with fail
  have K0 := Aside0.mk k0
  have K1 := Aside0.mk k1
  have K2 := Aside0.mk k2
  clear c0 k0 k1 k2
  go_loopw [9, 10, 11] (fun x y z wr => ∃ (i : Nat) (bo no : Option Nat), x = ptrN bo ∧ y = .int .i64 i ∧ z = ptrN no ∧ i ≤ 129 ∧ Aside0 (no = N (pathN a b i)) ∧ Aside0 (bestIs N D a b i bo) ∧ Aside0 (Below W2.heap.size W2 wr)) (fun _ y _ _ => 130 - (intOf y).toNat)
  case atStart => exact ⟨0, none, some r, rfl, rfl, rfl, by omega, ⟨HRt.out.symm⟩, ⟨.inl ⟨rfl, rfl⟩⟩, ⟨(Below.refl _ _).drew⟩⟩
  case round =>
    obtain ⟨i, bo, no, rfl, rfl, rfl, hi, hno, hbest, bw⟩ := hrel
    cases no with
    | none =>
      have hE := Lib.hid (show res = (findI (infoI N D) a b i).map fun x => (x.2, x.1) by rw [HRES.out, fndE, find_end T2.out.rep a b i hi hno.out.symm])
      have hgr := (bw.out.block _ (heap_lt HG2.out)).trans HG2.out
      obtain ⟨r0, f0⟩ := heap_cell (j := 0) hgr rfl
      obtain ⟨r1, f1⟩ := heap_cell (j := 1) hgr rfl
      obtain ⟨r2, f2⟩ := heap_cell (j := 2) hgr rfl
      have HGR2 := Aside0.mk hgr
      have BE := Aside0.mk (below_then B2.out B2.out.size bw.out)
      have hgw : w.heap.size ≤ gr := by rw [HGR.out]; exact Nat.le_refl _
      have HGL := Aside0.mk hgw
      clear hgr hgw hno
      cases bo with
      | none =>
        have hE2 := Lib.hid (show res = none by
          rcases hbest.out with ⟨_, q⟩ | ⟨_, _, q, _⟩
          · rw [hE.out, q]; rfl
          · cases q)
        simp only [ptrN, Option.map]
        go_wp2_with fail
        refine bodyPost_ret (results_cell_3 rfl _ _ gr 25 #[.int .u64 0, .int .u64 0, .int .i64 0] (0, 0) _ rfl (heap_set3 _ _ _ HGR2.out) Tryz.underlying25 rfl (by kernel_rfl)) rfl ?_
        exact ⟨by rw [hE2.out]; rfl, below_set3 BE.out HGL.out _ _ _⟩
      | some k =>
        have hb2 := hbest.out
        rcases hb2 with ⟨q, _⟩ | ⟨π, k', q1, q2, q3⟩
        · cases q
        · obtain rfl := Option.some.inj q1
          have hE2 := Lib.hid (show res = some ((D π).2.2, (D π).2.1) by rw [hE.out, q3]; rfl)
          have hcell := (T2.out.rep.below bw.out).cell _ _ q2
          have hkr : k ≠ gr := fun e => block_ne HGR2.out ((T2.out.rep.below bw.out).cell _ _ q2) ty_pre_node e.symm
          generalize D π = d at hE2 hcell
          obtain ⟨i0, v0, x0, y0, z0⟩ := d
          simp only [ndC] at hcell
          obtain ⟨m3, _⟩ := heap_cell (j := 3) hcell rfl
          obtain ⟨m4, _⟩ := heap_cell (j := 4) hcell rfl
          obtain ⟨m5, _⟩ := heap_cell (j := 5) hcell rfl
          obtain ⟨m6, _⟩ := heap_cell (j := 6) hcell rfl
          have hrk : ¬ gr = k := fun e => hkr e.symm
          clear q1 q2 q3 hcell hE hbest
          simp only [ptrN, Option.map]
          go_wp2_with fail
          go_region
          all_goals
            go_wp2_with fail
            refine bodyPost_ret (results_cell_3 rfl _ _ gr 25 #[.int .u64 x0, .int .u64 y0, .int .i64 z0] (0, 0) _ rfl (heap_set3 _ _ _ HGR2.out) Tryz.underlying25 rfl (by kernel_rfl)) rfl ?_
            exact ⟨by rw [hE2.out]; rfl, (below_set3 BE.out HGL.out _ _ _).drew⟩
    | some n =>
      have hn := hno.out.symm
      have hi8 : i ≤ 128 := by
        have := T2.out.rep.deep (pathN a b i) (by rw [hn]; simp)
        rwa [pathN_len] at this
      have R2 := T2.out.rep.below bw.out
      have hcell := R2.cell _ _ hn
      have NB := Aside0.mk (hbest.out.step hn)
      obtain ⟨v, hvc, hbc⟩ : ∃ v : Nat, ((i < 128 ∧ pBit a b i = (v : Int) ∧ v ≤ 1) ∨ (128 ≤ i ∧ v = 0)) ∧ ∀ W : World, Calls Tryz.prog 20 #[.agg #[.int .u64 a, .int .u64 b, .int .i64 128], .int .i64 i] W fun e w' => e = .returned (.int .i64 (v : Int)) ∧ Below W.heap.size W w' := by
        by_cases hlt : i < 128
        · rcases pBit_01 a b i with e | e
          · refine ⟨0, .inl ⟨hlt, e, by omega⟩, fun W => ?_⟩
            have := Bit_calls a b 128 i hlt ha hb W
            rwa [e] at this
          · refine ⟨1, .inl ⟨hlt, e, by omega⟩, fun W => ?_⟩
            have := Bit_calls a b 128 i hlt ha hb W
            rwa [e] at this
        · exact ⟨0, .inr ⟨by omega, rfl⟩, Bit_out a b 128 i (.inr (by omega))⟩
      have hkid := R2.kidAny a b i n hn v hvc
      have hv1 : v = 0 ∨ v = 1 := by rcases hvc with ⟨_, _, h⟩ | ⟨_, h⟩ <;> omega
      have BC := Aside0.mk hbc
      obtain ⟨kp, hkp⟩ : ∃ kp, ptrN (N (pathN a b (i + 1))) = .pointer kp := ⟨_, rfl⟩
      have HKP := Lib.hid hkp
      rw [hkp] at hkid
      have KS0 : Aside0 (Below wr.heap.size wr wr.drew ∧ wr.drew.cell? ⟨gw, 0, none⟩ = some (.int .u64 a) ∧ wr.drew.cell? ⟨gw, 1, none⟩ = some (.int .u64 b) ∧ wr.drew.cell? ⟨gw, 2, none⟩ = some (.int .i64 128) ∧ wr.drew.cell? ⟨n, v, none⟩ = some (.pointer kp)) := ⟨(Below.refl _ _).drew, (bw.out.cell (cell_of_lt K0.out)).trans K0.out, (bw.out.cell (cell_of_lt K1.out)).trans K1.out, (bw.out.cell (cell_of_lt K2.out)).trans K2.out, hkid⟩
      have KS : Aside0 (∀ W W' : World, (Below wr.heap.size wr W ∧ W.cell? ⟨gw, 0, none⟩ = some (.int .u64 a) ∧ W.cell? ⟨gw, 1, none⟩ = some (.int .u64 b) ∧ W.cell? ⟨gw, 2, none⟩ = some (.int .i64 128) ∧ W.cell? ⟨n, v, none⟩ = some (.pointer kp)) → Below W.heap.size W W' → (Below wr.heap.size wr W' ∧ W'.cell? ⟨gw, 0, none⟩ = some (.int .u64 a) ∧ W'.cell? ⟨gw, 1, none⟩ = some (.int .u64 b) ∧ W'.cell? ⟨gw, 2, none⟩ = some (.int .i64 128) ∧ W'.cell? ⟨n, v, none⟩ = some (.pointer kp))) := ⟨fun W W' ⟨h, l0, l1, l2, l3⟩ hb => ⟨below_then h h.size hb, (hb.cell (cell_of_lt l0)).trans l0, (hb.cell (cell_of_lt l1)).trans l1, (hb.cell (cell_of_lt l2)).trans l2, (hb.cell (cell_of_lt l3)).trans l3⟩⟩
      have BF : Aside0 (∀ W, Below wr.heap.size wr W → Below W2.heap.size W2 W) := ⟨fun W h => below_then bw.out bw.out.size h⟩
      simp only [ndC] at hcell
      obtain ⟨m2, _⟩ := heap_cell (j := 2) hcell rfl
      obtain ⟨bp, hbp⟩ : ∃ bp, ptrN bo = .pointer bp := ⟨_, rfl⟩
      have HBP := Lib.hid hbp
      rw [hbp]
      generalize (D (pathN a b i)).1 = isn at m2 NB
      have hv2 : (0 : Int) ≤ (v : Int) := by omega
      have hv3 : (v : Int) < 2 := by omega
      simp only [ptrN, Option.map]
      clear hkid hkp hbc hvc hcell R2 hn hno hbest hbp
      cases isn
      · go_wp2_with fail
        go_region_held3 (fun W => (Below wr.heap.size wr W ∧ W.cell? ⟨gw, 0, none⟩ = some (.int .u64 a) ∧ W.cell? ⟨gw, 1, none⟩ = some (.int .u64 b) ∧ W.cell? ⟨gw, 2, none⟩ = some (.int .i64 128) ∧ W.cell? ⟨n, v, none⟩ = some (.pointer kp))) (first | exact KS0.out | exact KS.out _ _ (by assumption) (by assumption))
          (first
            | (go_at_call 20; refine (BC.out _).mono ?_; rintro e w' ⟨rfl, hb'⟩))
        all_goals
          go_wp2_with fail
          exact ⟨⟨i + 1, bo, N (pathN a b (i + 1)), HBP.out.symm, by go_num, HKP.out.symm, by omega, ⟨rfl⟩, NB, ⟨BF.out _ (And.left (by assumption))⟩⟩, by simp [intOf]; omega⟩
      · go_wp2_with fail
        go_region_held3 (fun W => (Below wr.heap.size wr W ∧ W.cell? ⟨gw, 0, none⟩ = some (.int .u64 a) ∧ W.cell? ⟨gw, 1, none⟩ = some (.int .u64 b) ∧ W.cell? ⟨gw, 2, none⟩ = some (.int .i64 128) ∧ W.cell? ⟨n, v, none⟩ = some (.pointer kp))) (first | exact KS0.out | exact KS.out _ _ (by assumption) (by assumption))
          (first
            | (go_at_call 20; refine (BC.out _).mono ?_; rintro e w' ⟨rfl, hb'⟩))
        all_goals
          go_wp2_with fail
          exact ⟨⟨i + 1, some n, N (pathN a b (i + 1)), rfl, by go_num, HKP.out.symm, by omega, ⟨rfl⟩, NB, ⟨BF.out _ (And.left (by assumption))⟩⟩, by simp [intOf]; omega⟩
end Go.Proofs.YtplehdcnnaamkaaGreatDoor

/- The chapter's examples of layer 5: plain Lean. -/
namespace Go.Proofs.YtplehdcnnaamkaaGreatDoor
open Go.RowKit Go.Proofs.YtplehdcnnaamkaaGreatDoorW.PrintWords

theorem six_x1 : sixL [58, 58, 102, 102, 102, 102, 58, 49, 46, 50, 46, 51, 46, 52] = some [0, 0, 0, 0, 0, 65535, 258, 772] := by decide +kernel
theorem six_x2 : sixL [49, 58, 50, 58, 51, 58, 52, 58, 53, 58, 54, 58, 55] = none := by decide +kernel
theorem text_x1 : textL6 [0, 0, 0, 0, 0, 65535, 258, 772] = [58, 58, 102, 102, 102, 102, 58, 49, 48, 50, 58, 51, 48, 52] := by decide +kernel
theorem text_x2 : textL6 [1, 0, 0, 2, 0, 0, 0, 0] = [49, 58, 48, 58, 48, 58, 50, 58, 58] := by decide +kernel
end Go.Proofs.YtplehdcnnaamkaaGreatDoor

/- The chapter's examples of layer 4, walked. -/
namespace Go.Proofs.YtplehdcnnaamkaaGreatDoor
open Go.RowKit Go.Proofs.YtplehdcnnaamkaaGreatDoorW.PrintWords Go.Proofs.YtplehdcnnaamkaaGreatDoorW.PrintMore

theorem four_x1 : fourN [48, 120, 55, 102, 46, 49] = 2130706433 ∧ fourOk [48, 120, 55, 102, 46, 49] = true := by decide +kernel
theorem four_x2 : fourOk [49, 46, 50, 46, 51, 46, 50, 53, 54] = false := by decide +kernel
theorem four_x3 : fourN [50, 53, 54] = 256 ∧ fourOk [50, 53, 54] = true := by decide +kernel
theorem AwakeL3_calls (w : World) : Calls Tryz.prog 153 #[] w fun e w' => e = .returned (.bool true) ∧ Below w.heap.size w w' := by
  go_enter Tryz.func153, Tryz.ntmps153
  go_wp2_with fail
  refine (awake3_calls _).mono ?_
  rintro e w1 ⟨rfl, hb⟩
  go_wp2
  go_ret
  exact ⟨rfl, hb⟩
set_option maxHeartbeats 1000000 in
theorem awake4_calls (w : World) : Calls Tryz.prog 122 #[] w fun e w' => e = .returned (.bool true) ∧ Below w.heap.size w w' := by
  go_enter Tryz.func122, Tryz.ntmps122
  go_wp2_with fail
  refine (Four_calls _ _ (by decide)).mono ?_
  rintro e w1 ⟨rfl, b1⟩
  rw [show (ByteArray.mk #[48, 120, 55, 102, 46, 49]).data.toList = [48, 120, 55, 102, 46, 49] from rfl, four_x1.1, four_x1.2]
  go_wp2_with fail
  refine (Four_calls _ _ (by decide)).mono ?_
  rintro e w2 ⟨rfl, b2⟩
  rw [show (ByteArray.mk #[49, 46, 50, 46, 51, 46, 50, 53, 54]).data.toList = [49, 46, 50, 46, 51, 46, 50, 53, 54] from rfl, four_x2]
  go_wp2_with fail
  refine (Four_calls _ _ (by decide)).mono ?_
  rintro e w3 ⟨rfl, b3⟩
  rw [show (ByteArray.mk #[50, 53, 54]).data.toList = [50, 53, 54] from rfl, four_x3.1, four_x3.2]
  go_wp2_with fail
  refine (AwakeL3_calls _).mono ?_
  rintro e w4 ⟨rfl, b4⟩
  have B2 := Aside0.mk (below_then b1 b1.size b2)
  have B3 := Aside0.mk (below_then B2.out B2.out.size b3)
  have B4 := Aside0.mk (below_then B3.out B3.out.size b4)
  clear b1 b2 b3 b4
  go_wp2_with fail
  refine (Of_calls 127 0 0 1 (by omega) (by omega) (by omega) (by omega) _).mono ?_
  rintro e w5 ⟨rfl, rfl⟩
  simp only [Int.reduceMul, Int.reduceAdd]
  go_wp2_with fail
  refine (Of_calls 0 0 1 0 (by omega) (by omega) (by omega) (by omega) _).mono ?_
  rintro e w6 ⟨rfl, rfl⟩
  simp only [Int.reduceMul, Int.reduceAdd]
  go_wp2_with fail
  go_ret
  exact ⟨rfl, B4.out⟩
end Go.Proofs.YtplehdcnnaamkaaGreatDoor

/- The chapter's examples of layer 5, walked. -/
namespace Go.Proofs.YtplehdcnnaamkaaGreatDoor
open Go.RowKit Go.Proofs.YtplehdcnnaamkaaGreatDoorW.PrintWords Go.Proofs.YtplehdcnnaamkaaGreatDoorW.PrintMore

theorem six_v1 : sixHi [58, 58, 102, 102, 102, 102, 58, 49, 46, 50, 46, 51, 46, 52] = 0 ∧ sixLo [58, 58, 102, 102, 102, 102, 58, 49, 46, 50, 46, 51, 46, 52] = 281470698652420 ∧ sixOk [58, 58, 102, 102, 102, 102, 58, 49, 46, 50, 46, 51, 46, 52] = true := by
  have h := six_some six_x1
  exact ⟨h.1.trans (by decide), h.2.1.trans (by decide), h.2.2⟩
theorem six_v2 : sixHi [49, 58, 50, 58, 51, 58, 52, 58, 53, 58, 54, 58, 55] = 0 ∧ sixLo [49, 58, 50, 58, 51, 58, 52, 58, 53, 58, 54, 58, 55] = 0 ∧ sixOk [49, 58, 50, 58, 51, 58, 52, 58, 53, 58, 54, 58, 55] = false := six_none six_x2
theorem AwakeL4_calls (w : World) : Calls Tryz.prog 89 #[] w fun e w' => e = .returned (.bool true) ∧ Below w.heap.size w w' := by
  go_enter Tryz.func89, Tryz.ntmps89
  go_wp2_with fail
  refine (awake4_calls _).mono ?_
  rintro e w1 ⟨rfl, hb⟩
  go_wp2
  go_ret
  exact ⟨rfl, hb⟩
theorem half_x : half ((eight [1, 0, 0, 2]).take 4) = 281474976710658 ∧ half ((eight [1, 0, 0, 2]).drop 4) = 0 := by decide
theorem pcs_x1 : piecesOf 0 281470698652420 = [0, 0, 0, 0, 0, 65535, 258, 772] := by decide
theorem pcs_x2 : piecesOf 281474976710658 0 = [1, 0, 0, 2, 0, 0, 0, 0] := by decide

set_option maxHeartbeats 2000000 in
set_option maxRecDepth 100000 in
theorem awake5_calls (w : World) (hE : Aside0 (Errs w)) (hM : Aside0 (Mx w)) (hP : Aside0 (Pows w)) (hT : Aside0 (Debr w)) : Calls Tryz.prog 53 #[] w fun e w' => e = .returned (.bool true) ∧ Below w.heap.size w w' := by
  go_enter Tryz.func53, Tryz.ntmps53
  go_wp2_with fail
  refine (SixParse_calls _ _ (by decide) hE hM).mono ?_
  rintro e w1 ⟨rfl, b1⟩
  rw [show (ByteArray.mk #[58, 58, 102, 102, 102, 102, 58, 49, 46, 50, 46, 51, 46, 52]).data.toList = [58, 58, 102, 102, 102, 102, 58, 49, 46, 50, 46, 51, 46, 52] from rfl, six_v1.1, six_v1.2.1, six_v1.2.2]
  have B1 := Aside0.mk b1
  clear b1
  go_wp2_with fail
  obtain ⟨W1, hW1⟩ : ∃ W1, W1 = w1.alloc (.cells #[.int .u64 0, .int .u64 281470698652420] 34) := ⟨_, rfl⟩
  rw [← hW1]
  have hg : W1.heap[w1.heap.size]? = some (.cells #[.int .u64 0, .int .u64 281470698652420] 34 (0, 0)) := by rw [hW1]; exact heap_alloc_new' _ _ _ rfl
  have hlt : w1.heap.size < W1.heap.size := by rw [hW1]; simp
  have BW1 : Aside0 (Below w.heap.size w W1) := ⟨by rw [hW1]; exact B1.out.alloc B1.out.size _⟩
  have HG := Aside0.mk hg
  clear hW1 hg
  generalize w1.heap.size = g at *
  refine (SixParse_calls _ _ (by decide) ⟨hE.out.stays BW1.out⟩ ⟨hM.out.stays BW1.out⟩).mono ?_
  rintro e w2 ⟨rfl, b2⟩
  rw [show (ByteArray.mk #[49, 58, 50, 58, 51, 58, 52, 58, 53, 58, 54, 58, 55]).data.toList = [49, 58, 50, 58, 51, 58, 52, 58, 53, 58, 54, 58, 55] from rfl, six_v2.1, six_v2.2.1, six_v2.2.2]
  have hg2 := (b2.block g hlt).trans HG.out
  have B2 := Aside0.mk (below_then BW1.out BW1.out.size b2)
  have hlt2 : g < w2.heap.size := Nat.lt_of_lt_of_le hlt b2.size
  clear b2
  go_wp2_with fail
  obtain ⟨W2, hW2⟩ : ∃ W2, W2 = w2.alloc (.cells #[.int .u64 0, .int .u64 0] 34) := ⟨_, rfl⟩
  rw [← hW2]
  have hg3 : W2.heap[g]? = some (.cells #[.int .u64 0, .int .u64 281470698652420] 34 (0, 0)) := by rw [hW2, heap_alloc_old' _ _ _ hlt2]; exact hg2
  have BW2 : Aside0 (Below w.heap.size w W2) := ⟨by rw [hW2]; exact B2.out.alloc B2.out.size _⟩
  have hlt3 : g < W2.heap.size := by rw [hW2]; simp; omega
  have HG3 := Aside0.mk hg3
  clear hW2 hg2 hg3
  refine (AwakeL4_calls _).mono ?_
  rintro e w3 ⟨rfl, b3⟩
  have hg4 := (b3.block g hlt3).trans HG3.out
  have B3 := Aside0.mk (below_then BW2.out BW2.out.size b3)
  obtain ⟨c0, _⟩ := heap_cell (j := 0) hg4 rfl
  obtain ⟨c1, _⟩ := heap_cell (j := 1) hg4 rfl
  clear b3 hg4
  go_wp2_with fail
  refine (Text6_calls 0 281470698652420 (by omega) (by omega) _ ⟨hP.out.stays B3.out⟩ ⟨hT.out.stays B3.out⟩).mono ?_
  rintro e w4 ⟨rfl, b4⟩
  have B4 := Aside0.mk (below_then B3.out B3.out.size b4)
  rw [pcs_x1, text_x1]
  clear b4 c0 c1
  go_wp2_with fail
  have hs := SixOf_calls (some ⟨w4.heap.size, 0, none⟩) 4 [1, 0, 0, 2] (w4.alloc (.cells #[.int .u16 1, .int .u16 0, .int .u16 0, .int .u16 2] 102)) (by decide) (by decide) (fun _ => ⟨_, rfl, fun j v hv => by
    rw [Go.Proofs.YtplehdcnnaamkaaGreatDoorW.PrintWords.add_plain, World.cell?_alloc_new]
    exact (by simpa [u16s] using hv)⟩)
  rw [half_x.1, half_x.2, show ([1, 0, 0, 2] : List Int).length = 4 from rfl] at hs
  refine hs.mono ?_
  rintro e w5 ⟨rfl, b5⟩
  have B5 : Aside0 (Below w.heap.size w w5) := ⟨below_then (B4.out.alloc B4.out.size _) (by have := B4.out.size; simp; omega) b5⟩
  clear b5 hs
  go_wp2_with fail
  refine (Text6_calls 281474976710658 0 (by omega) (by omega) _ ⟨hP.out.stays B5.out⟩ ⟨hT.out.stays B5.out⟩).mono ?_
  rintro e w6 ⟨rfl, b6⟩
  have B6 := Aside0.mk (below_then B5.out B5.out.size b6)
  rw [pcs_x2, text_x2]
  clear b6
  go_wp2_with fail
  go_ret
  exact ⟨by simp, B6.out⟩
end Go.Proofs.YtplehdcnnaamkaaGreatDoor

/- Layer 6 is awake. -/
namespace Go.Proofs.YtplehdcnnaamkaaGreatDoor
open Go.RowKit Go.Proofs.YtplehdcnnaamkaaGreatDoorW.PrintWords Go.Proofs.YtplehdcnnaamkaaGreatDoorW.PrintMore

theorem ad_x1 : adOf [58, 58, 102, 102, 102, 102, 58, 55, 102, 48, 48, 58, 49] = some (true, 0, 281472812449793) := by decide +kernel
theorem ad_x2 : adOf [50, 48, 48, 50, 58, 55, 102, 48, 48, 58, 49, 58, 58] = some (true, 2306545597143908352, 0) := by decide +kernel
theorem in_x1 : inL4 0 281472812449793 = [2130706433] := by decide
theorem in_x2 : inL4 2306545597143908352 0 = [2130706433] := by decide
theorem AwakeL5_calls (w : World) (hE : Aside0 (Errs w)) (hM : Aside0 (Mx w)) (hP : Aside0 (Pows w)) (hT : Aside0 (Debr w)) : Calls Tryz.prog 139 #[] w fun e w' => e = .returned (.bool true) ∧ Below w.heap.size w w' := by
  go_enter Tryz.func139, Tryz.ntmps139
  go_wp2_with fail
  refine (awake5_calls _ hE hM hP hT).mono ?_
  rintro e w1 ⟨rfl, b1⟩
  go_wp2_with fail
  go_ret
  exact ⟨rfl, b1⟩
set_option maxHeartbeats 4000000 in
set_option maxRecDepth 100000 in
theorem awake6_calls (w : World) (hE : Aside0 (Errs w)) (hM : Aside0 (Mx w)) (hP : Aside0 (Pows w)) (hT : Aside0 (Debr w)) : Calls Tryz.prog 107 #[] w fun e w' => e = .returned (.bool true) ∧ Below w.heap.size w w' := by
  go_enter Tryz.func107, Tryz.ntmps107
  go_wp2_with fail
  refine (AdParse_calls _ _ (by decide) hE hM).mono ?_
  rw [show (ByteArray.mk #[58, 58, 102, 102, 102, 102, 58, 55, 102, 48, 48, 58, 49]).data.toList = [58, 58, 102, 102, 102, 102, 58, 55, 102, 48, 48, 58, 49] from rfl, ad_x1]
  simp only [adVo, adV, Option.isSome]
  rintro e w1 ⟨rfl, b1⟩
  have B1 := Aside0.mk b1
  clear b1
  go_wp2_with fail
  refine (AdParse_calls _ _ (by decide) ⟨hE.out.stays B1.out⟩ ⟨hM.out.stays B1.out⟩).mono ?_
  rw [show (ByteArray.mk #[50, 48, 48, 50, 58, 55, 102, 48, 48, 58, 49, 58, 58]).data.toList = [50, 48, 48, 50, 58, 55, 102, 48, 48, 58, 49, 58, 58] from rfl, ad_x2]
  simp only [adVo, adV, Option.isSome]
  rintro e w2 ⟨rfl, b2⟩
  have B2 := Aside0.mk (below_then B1.out B1.out.size b2)
  clear b2
  go_wp2_with fail
  refine (AwakeL5_calls _ ⟨hE.out.stays B2.out⟩ ⟨hM.out.stays B2.out⟩ ⟨hP.out.stays B2.out⟩ ⟨hT.out.stays B2.out⟩).mono ?_
  rintro e w3 ⟨rfl, b3⟩
  have B3 := Aside0.mk (below_then B2.out B2.out.size b3)
  clear b3
  go_wp2_with fail
  refine (Inner6_calls 0 281472812449793 (by omega) (by omega) _).mono ?_
  rw [in_x1]
  rintro e w4 ⟨v, rfl, hR, b4⟩
  have B4 := Aside0.mk (below_then B3.out B3.out.size b4)
  obtain ⟨A, c, rfl, hcap, hC⟩ := Kd.R_reads hR
  simp only [List.length_cons, List.length_nil, Nat.zero_add]
  have HC := Aside0.mk hC
  clear hR hC b4
  go_wp2_with fail
  refine (EqualF_calls [2130706433] [2130706433] 1 1 rfl rfl A (some ⟨w4.heap.size, 0, none⟩) c 1 _ (by omega) (fun j hj => C_kget (Kd.C_alloc HC.out _) j hj) (fun j hj => C_kget (C_new .u32 w4 [2130706433] _ (by decide)) j hj)).mono ?_
  rw [show decide (([2130706433] : List Int) = [2130706433]) = true from rfl]
  rintro e w5 ⟨rfl, b5⟩
  have B5 : Aside0 (Below w.heap.size w w5) := ⟨below_then (B4.out.alloc B4.out.size _) (by have := B4.out.size; simp; omega) b5⟩
  clear b5 HC hcap
  go_wp2_with fail
  refine (Inner6_calls 2306545597143908352 0 (by omega) (by omega) _).mono ?_
  rw [in_x2]
  rintro e w6 ⟨v, rfl, hR, b6⟩
  have B6 := Aside0.mk (below_then B5.out B5.out.size b6)
  obtain ⟨A2, c2, rfl, hcap, hC⟩ := Kd.R_reads hR
  simp only [List.length_cons, List.length_nil, Nat.zero_add]
  have HC := Aside0.mk hC
  clear hR hC b6
  go_wp2_with fail
  refine (EqualF_calls [2130706433] [2130706433] 1 1 rfl rfl A2 (some ⟨w6.heap.size, 0, none⟩) c2 1 _ (by omega) (fun j hj => C_kget (Kd.C_alloc HC.out _) j hj) (fun j hj => C_kget (C_new .u32 w6 [2130706433] _ (by decide)) j hj)).mono ?_
  rw [show decide (([2130706433] : List Int) = [2130706433]) = true from rfl]
  rintro e w7 ⟨rfl, b7⟩
  have B7 : Aside0 (Below w.heap.size w w7) := ⟨below_then (B6.out.alloc B6.out.size _) (by have := B6.out.size; simp; omega) b7⟩
  clear b7
  go_wp2_with fail
  go_ret
  exact ⟨rfl, B7.out⟩
end Go.Proofs.YtplehdcnnaamkaaGreatDoor

/- Layer 7 is awake. -/
namespace Go.Proofs.YtplehdcnnaamkaaGreatDoor
open Go.RowKit Go.Proofs.YtplehdcnnaamkaaGreatDoorW.PrintWords Go.Proofs.YtplehdcnnaamkaaGreatDoorW.PrintMore

theorem pf_x1 : pfOf [49, 48, 46, 48, 46, 48, 46, 48, 47, 56] = some (0, 281470849515520, 104) := by decide +kernel
theorem ad_x3 : adOf [49, 48, 46, 49, 46, 50, 46, 51] = some (false, 0, 167838211) := by decide +kernel
theorem ad_x4 : adOf [58, 58, 102, 102, 102, 102, 58, 49, 48, 46, 49, 46, 50, 46, 51] = some (true, 0, 281470849581571) := by decide +kernel
theorem ad_x5 : adOf [49, 49, 46, 49, 46, 50, 46, 51] = some (false, 0, 184615427) := by decide +kernel
theorem has_x1 : hasO 0 281470849515520 104 (some (false, 0, 167838211)) = true := by decide +kernel
theorem has_x2 : hasO 0 281470849515520 104 (some (true, 0, 281470849581571)) = true := by decide +kernel
theorem has_x3 : hasO 0 281470849515520 104 (some (false, 0, 184615427)) = false := by decide +kernel
theorem AwakeL6_calls (w : World) (hE : Aside0 (Errs w)) (hM : Aside0 (Mx w)) (hP : Aside0 (Pows w)) (hT : Aside0 (Debr w)) : Calls Tryz.prog 62 #[] w fun e w' => e = .returned (.bool true) ∧ Below w.heap.size w w' := by
  go_enter Tryz.func62, Tryz.ntmps62
  go_wp2_with fail
  refine (awake6_calls _ hE hM hP hT).mono ?_
  rintro e w1 ⟨rfl, b1⟩
  go_wp2_with fail
  go_ret
  exact ⟨rfl, b1⟩
theorem ok_some (a : Bool × Int × Int) (h : adOk a) : ∀ b, some a = some b → adOk b := fun b e => by rw [← Option.some.inj e]; exact h
set_option maxHeartbeats 4000000 in
set_option maxRecDepth 100000 in
theorem awake7_calls (w : World) (hE : Aside0 (Errs w)) (hM : Aside0 (Mx w)) (hP : Aside0 (Pows w)) (hT : Aside0 (Debr w)) : Calls Tryz.prog 15 #[] w fun e w' => e = .returned (.bool true) ∧ Below w.heap.size w w' := by
  go_enter Tryz.func15, Tryz.ntmps15
  go_wp2_with fail
  refine (PfParse_calls _ _ (by decide) hE hM).mono ?_
  rw [show (ByteArray.mk #[49, 48, 46, 48, 46, 48, 46, 48, 47, 56]).data.toList = [49, 48, 46, 48, 46, 48, 46, 48, 47, 56] from rfl, pf_x1]
  simp only [pfV, Option.isSome]
  rintro e w1 ⟨rfl, b1⟩
  obtain ⟨W1, hW1⟩ : ∃ W1, W1 = w1.alloc (.cells #[.int .u64 0, .int .u64 281470849515520, .int .i64 104] 25) := ⟨_, rfl⟩
  obtain ⟨hg1, hl1, hb1⟩ := box3 hW1
  have HW1 := Lib.hid hW1
  have HG1 := Aside0.mk hg1
  have B1 := Aside0.mk (below_then b1 b1.size hb1)
  clear hW1 hg1 b1 hb1
  go_wp2_with fail
  rw [← HW1.out]
  refine (AdParse_calls _ _ (by decide) ⟨hE.out.stays B1.out⟩ ⟨hM.out.stays B1.out⟩).mono ?_
  rw [show (ByteArray.mk #[49, 48, 46, 49, 46, 50, 46, 51]).data.toList = [49, 48, 46, 49, 46, 50, 46, 51] from rfl, ad_x3]
  simp only [adVo, adV, Option.isSome]
  rintro e w2 ⟨rfl, b2⟩
  have HG2 := Aside0.mk ((b2.block _ hl1).trans HG1.out)
  have hl2 := Nat.lt_of_lt_of_le hl1 b2.size
  have B2 := Aside0.mk (below_then B1.out B1.out.size b2)
  clear b2
  go_wp2_with fail
  refine (AdParse_calls _ _ (by decide) ⟨hE.out.stays B2.out⟩ ⟨hM.out.stays B2.out⟩).mono ?_
  rw [show (ByteArray.mk #[58, 58, 102, 102, 102, 102, 58, 49, 48, 46, 49, 46, 50, 46, 51]).data.toList = [58, 58, 102, 102, 102, 102, 58, 49, 48, 46, 49, 46, 50, 46, 51] from rfl, ad_x4]
  simp only [adVo, adV, Option.isSome]
  rintro e w3 ⟨rfl, b3⟩
  have HG3 := Aside0.mk ((b3.block _ hl2).trans HG2.out)
  have hl3 := Nat.lt_of_lt_of_le hl2 b3.size
  have B3 := Aside0.mk (below_then B2.out B2.out.size b3)
  clear b3
  go_wp2_with fail
  refine (AdParse_calls _ _ (by decide) ⟨hE.out.stays B3.out⟩ ⟨hM.out.stays B3.out⟩).mono ?_
  rw [show (ByteArray.mk #[49, 49, 46, 49, 46, 50, 46, 51]).data.toList = [49, 49, 46, 49, 46, 50, 46, 51] from rfl, ad_x5]
  simp only [adVo, adV, Option.isSome]
  rintro e w4 ⟨rfl, b4⟩
  have HG4 := Aside0.mk ((b4.block _ hl3).trans HG3.out)
  have hl4 := Nat.lt_of_lt_of_le hl3 b4.size
  have B4 := Aside0.mk (below_then B3.out B3.out.size b4)
  clear b4
  go_wp2_with fail
  refine (AwakeL6_calls _ ⟨hE.out.stays B4.out⟩ ⟨hM.out.stays B4.out⟩ ⟨hP.out.stays B4.out⟩ ⟨hT.out.stays B4.out⟩).mono ?_
  rintro e w5 ⟨rfl, b5⟩
  have HG5 := Aside0.mk ((b5.block _ hl4).trans HG4.out)
  have hl5 := Nat.lt_of_lt_of_le hl4 b5.size
  have B5 := Aside0.mk (below_then B4.out B4.out.size b5)
  have hg5 := HG5.out
  obtain ⟨k0, _⟩ := heap_cell (j := 0) hg5 rfl
  obtain ⟨k1, _⟩ := heap_cell (j := 1) hg5 rfl
  obtain ⟨k2, _⟩ := heap_cell (j := 2) hg5 rfl
  clear b5 hg5
  go_wp2_with fail
  refine (PfHas_calls 0 281470849515520 104 (some (false, 0, 167838211)) (ok_some _ ⟨rfl, by omega, by omega⟩) (by omega) (by omega) _).mono ?_
  rw [has_x1]
  rintro e w6 ⟨rfl, b6⟩
  have HG6 := Aside0.mk ((b6.block _ hl5).trans HG5.out)
  have hl6 := Nat.lt_of_lt_of_le hl5 b6.size
  have B6 := Aside0.mk (below_then B5.out B5.out.size b6)
  have hg6 := HG6.out
  clear k0 k1 k2
  obtain ⟨k0, _⟩ := heap_cell (j := 0) hg6 rfl
  obtain ⟨k1, _⟩ := heap_cell (j := 1) hg6 rfl
  obtain ⟨k2, _⟩ := heap_cell (j := 2) hg6 rfl
  clear b6 hg6
  go_wp2_with fail
  refine (PfHas_calls 0 281470849515520 104 (some (true, 0, 281470849581571)) (ok_some _ ⟨by omega, by omega⟩) (by omega) (by omega) _).mono ?_
  rw [has_x2]
  rintro e w7 ⟨rfl, b7⟩
  have HG7 := Aside0.mk ((b7.block _ hl6).trans HG6.out)
  have B7 := Aside0.mk (below_then B6.out B6.out.size b7)
  have hg7 := HG7.out
  clear k0 k1 k2
  obtain ⟨k0, _⟩ := heap_cell (j := 0) hg7 rfl
  obtain ⟨k1, _⟩ := heap_cell (j := 1) hg7 rfl
  obtain ⟨k2, _⟩ := heap_cell (j := 2) hg7 rfl
  clear b7 hg7
  go_wp2_with fail
  refine (PfHas_calls 0 281470849515520 104 (some (false, 0, 184615427)) (ok_some _ ⟨rfl, by omega, by omega⟩) (by omega) (by omega) _).mono ?_
  rw [has_x3]
  rintro e w8 ⟨rfl, b8⟩
  have B8 := Aside0.mk (below_then B7.out B7.out.size b8)
  clear b8
  go_wp2_with fail
  go_ret
  exact ⟨rfl, B8.out⟩
end Go.Proofs.YtplehdcnnaamkaaGreatDoor

/- Layer 8 is awake. -/
namespace Go.Proofs.YtplehdcnnaamkaaGreatDoor
open Go.RowKit Go.Proofs.YtplehdcnnaamkaaGreatDoorW.PrintWords Go.Proofs.YtplehdcnnaamkaaGreatDoorW.PrintMore

/-- A block of another type is none of a trie's. -/
theorem own_not {w : World} {t g : Nat} {N : Nm} {D : Dm} {L : List E4} {c : Array Value} {s : TypeId} (h : Tri w t N D L) (hg : w.heap[g]? = some (.cells c s (0, 0))) (h1 : s ≠ 129) (h2 : s ≠ 131) : ¬ Own t N g := by
  rintro (e | ⟨π, hπ⟩)
  · obtain ⟨r, _, ht⟩ := h.root
    exact block_ne hg ht h2 e
  · exact block_ne hg (h.rep.cell π g hπ) h1 rfl
/-- What a trie finds, told by its list. -/
theorem find_is {w : World} {t : Nat} {N : Nm} {D : Dm} {L : List E4} (h : Tri w t N D L) (a b : Int) (ha : 0 ≤ a ∧ a < 18446744073709551616) (hb : 0 ≤ b ∧ b < 18446744073709551616) (o : Option E4) (ho : Best a b L o) : fndE N D a b = o := h.inv.best_one a b ha hb (h.inv.find a b ha hb) ho
theorem pf_x2 : pfOf [48, 46, 48, 46, 48, 46, 48, 47, 48] = some (0, 281470681743360, 96) := by decide +kernel
theorem ad_x6 : adOf [49, 48, 46, 49, 46, 49, 46, 49] = some (false, 0, 167837953) := by decide +kernel
theorem ad_x7 : adOf [49, 49, 46, 49, 46, 49, 46, 49] = some (false, 0, 184615169) := by decide +kernel
theorem ad_x8 : adOf [58, 58, 49] = some (true, 0, 1) := by decide +kernel
def lx1 : List E4 := [((0, 281470681743360, 96), 1)]
def lx2 : List E4 := [((0, 281470681743360, 96), 1), ((0, 281470849515520, 104), 2)]
theorem lx1_is : putL [] (0, 281470681743360, 96) 1 = lx1 := by decide +kernel
theorem lx2_is : putL lx1 (0, 281470849515520, 104) 2 = lx2 := by decide +kernel
theorem bx1 : Best 0 281470849581313 lx2 (some ((0, 281470849515520, 104), 2)) := by
  refine ⟨by decide +kernel, by decide +kernel, by decide +kernel⟩
theorem bx2 : Best 0 281470866358529 lx2 (some ((0, 281470681743360, 96), 1)) := by
  refine ⟨by decide +kernel, by decide +kernel, by decide +kernel⟩
theorem bx3 : Best 0 1 lx2 none := by
  show ∀ e ∈ lx2, hasP e.1.1 e.1.2.1 e.1.2.2 0 1 = false
  decide +kernel
theorem rx1 : rightP 0 281470681743360 96 = true := by decide +kernel
theorem rx2 : rightP 0 281470849515520 104 = true := by decide +kernel
theorem AwakeL7_calls (w : World) (hE : Aside0 (Errs w)) (hM : Aside0 (Mx w)) (hP : Aside0 (Pows w)) (hT : Aside0 (Debr w)) : Calls Tryz.prog 75 #[] w fun e w' => e = .returned (.bool true) ∧ Below w.heap.size w w' := by
  go_enter Tryz.func75, Tryz.ntmps75
  go_wp2_with fail
  refine (awake7_calls _ hE hM hP hT).mono ?_
  rintro e w1 ⟨rfl, b1⟩
  go_wp2_with fail
  go_ret
  exact ⟨rfl, b1⟩
set_option maxHeartbeats 8000000 in
set_option maxRecDepth 100000 in
theorem awake8_calls (w : World) (hE : Aside0 (Errs w)) (hM : Aside0 (Mx w)) (hP : Aside0 (Pows w)) (hT : Aside0 (Debr w)) : Calls Tryz.prog 32 #[] w fun e w' => e = .returned (.bool true) ∧ Below w.heap.size w w' := by
  have B0 := Aside0.mk (Below.refl w.heap.size w)
  go_enter Tryz.func32, Tryz.ntmps32
  go_wp2_with fail
  refine (New_calls _).mono ?_
  rintro e w_1 ⟨tt, Nt_1, Dt_1, rfl, hT_1, hb_1, hO_1⟩
  have OWt_1 : Aside0 (∀ k, Own tt Nt_1 k → w.heap.size ≤ k) := ⟨fun k hk => Nat.le_trans B0.out.size (hO_1 k hk)⟩
  have Tt_1 := Aside0.mk hT_1
  clear hT_1 hO_1
  have BB_2 := Aside0.mk (below_then B0.out B0.out.size hb_1)
  clear hb_1
  go_wp2_with fail
  refine (PfParse_calls _ _ (by decide) ⟨hE.out.stays BB_2.out⟩ ⟨hM.out.stays BB_2.out⟩).mono ?_
  rw [show (ByteArray.mk #[48, 46, 48, 46, 48, 46, 48, 47, 48]).data.toList = [48, 46, 48, 46, 48, 46, 48, 47, 48] from rfl, pf_x2]
  simp only [pfV, Option.isSome]
  rintro e w_3 ⟨rfl, hb_3⟩
  have Tt_4 := Aside0.mk (Tt_1.out.below hb_3)
  have BB_4 := Aside0.mk (below_then BB_2.out BB_2.out.size hb_3)
  clear BB_2 hb_3
  clear Tt_1
  obtain ⟨W_5, hW_5⟩ : ∃ W_5, W_5 = w_3.alloc (.cells #[.int .u64 0, .int .u64 281470681743360, .int .i64 96] 25) := ⟨_, rfl⟩
  obtain ⟨hg_5, hl_5, hb_5⟩ := boxN hW_5
  obtain ⟨gp, hgg_5⟩ : ∃ gp, gp = w_3.heap.size := ⟨_, rfl⟩
  rw [← hgg_5] at hg_5 hl_5
  have HAp := Aside0.mk hg_5
  have LAp := hl_5
  have HGG_5 := Lib.hid hgg_5
  have HWW_5 := Lib.hid hW_5
  clear hW_5 hgg_5 hg_5 hl_5
  have Tt_6 := Aside0.mk (Tt_4.out.below hb_5)
  have BB_6 := Aside0.mk (below_then BB_4.out BB_4.out.size hb_5)
  clear BB_4 hb_5
  clear Tt_4
  go_wp2_with fail
  try rw [← HWW_5.out]
  try rw [← HGG_5.out]
  refine (PfParse_calls _ _ (by decide) ⟨hE.out.stays BB_6.out⟩ ⟨hM.out.stays BB_6.out⟩).mono ?_
  rw [show (ByteArray.mk #[49, 48, 46, 48, 46, 48, 46, 48, 47, 56]).data.toList = [49, 48, 46, 48, 46, 48, 46, 48, 47, 56] from rfl, pf_x1]
  simp only [pfV, Option.isSome]
  rintro e w_7 ⟨rfl, hb_7⟩
  have Tt_8 := Aside0.mk (Tt_6.out.below hb_7)
  have Hp_8 := Aside0.mk ((hb_7.block _ LAp).trans HAp.out)
  have lp_8 := Nat.lt_of_lt_of_le LAp hb_7.size
  have BB_8 := Aside0.mk (below_then BB_6.out BB_6.out.size hb_7)
  clear HAp LAp BB_6 hb_7
  clear Tt_6
  obtain ⟨W_9, hW_9⟩ : ∃ W_9, W_9 = w_7.alloc (.cells #[.int .u64 0, .int .u64 281470849515520, .int .i64 104] 25) := ⟨_, rfl⟩
  obtain ⟨hg_9, hl_9, hb_9⟩ := boxN hW_9
  obtain ⟨gq, hgg_9⟩ : ∃ gq, gq = w_7.heap.size := ⟨_, rfl⟩
  rw [← hgg_9] at hg_9 hl_9
  have HAq := Aside0.mk hg_9
  have LAq := hl_9
  have HGG_9 := Lib.hid hgg_9
  have HWW_9 := Lib.hid hW_9
  clear hW_9 hgg_9 hg_9 hl_9
  have Tt_10 := Aside0.mk (Tt_8.out.below hb_9)
  have Hp_10 := Aside0.mk ((hb_9.block _ lp_8).trans Hp_8.out)
  have lp_10 := Nat.lt_of_lt_of_le lp_8 hb_9.size
  have BB_10 := Aside0.mk (below_then BB_8.out BB_8.out.size hb_9)
  clear Hp_8 lp_8 BB_8 hb_9
  clear Tt_8
  go_wp2_with fail
  try rw [← HWW_9.out]
  try rw [← HGG_9.out]
  refine (AdParse_calls _ _ (by decide) ⟨hE.out.stays BB_10.out⟩ ⟨hM.out.stays BB_10.out⟩).mono ?_
  rw [show (ByteArray.mk #[49, 48, 46, 49, 46, 49, 46, 49]).data.toList = [49, 48, 46, 49, 46, 49, 46, 49] from rfl, ad_x6]
  simp only [adVo, adV, Option.isSome]
  rintro e w_11 ⟨rfl, hb_11⟩
  have Tt_12 := Aside0.mk (Tt_10.out.below hb_11)
  have Hp_12 := Aside0.mk ((hb_11.block _ lp_10).trans Hp_10.out)
  have lp_12 := Nat.lt_of_lt_of_le lp_10 hb_11.size
  have Hq_12 := Aside0.mk ((hb_11.block _ LAq).trans HAq.out)
  have lq_12 := Nat.lt_of_lt_of_le LAq hb_11.size
  have BB_12 := Aside0.mk (below_then BB_10.out BB_10.out.size hb_11)
  clear Hp_10 lp_10 HAq LAq BB_10 hb_11
  clear Tt_10
  go_wp2_with fail
  refine (AdParse_calls _ _ (by decide) ⟨hE.out.stays BB_12.out⟩ ⟨hM.out.stays BB_12.out⟩).mono ?_
  rw [show (ByteArray.mk #[49, 49, 46, 49, 46, 49, 46, 49]).data.toList = [49, 49, 46, 49, 46, 49, 46, 49] from rfl, ad_x7]
  simp only [adVo, adV, Option.isSome]
  rintro e w_13 ⟨rfl, hb_13⟩
  have Tt_14 := Aside0.mk (Tt_12.out.below hb_13)
  have Hp_14 := Aside0.mk ((hb_13.block _ lp_12).trans Hp_12.out)
  have lp_14 := Nat.lt_of_lt_of_le lp_12 hb_13.size
  have Hq_14 := Aside0.mk ((hb_13.block _ lq_12).trans Hq_12.out)
  have lq_14 := Nat.lt_of_lt_of_le lq_12 hb_13.size
  have BB_14 := Aside0.mk (below_then BB_12.out BB_12.out.size hb_13)
  clear Hp_12 lp_12 Hq_12 lq_12 BB_12 hb_13
  clear Tt_12
  go_wp2_with fail
  refine (AdParse_calls _ _ (by decide) ⟨hE.out.stays BB_14.out⟩ ⟨hM.out.stays BB_14.out⟩).mono ?_
  rw [show (ByteArray.mk #[58, 58, 49]).data.toList = [58, 58, 49] from rfl, ad_x8]
  simp only [adVo, adV, Option.isSome]
  rintro e w_15 ⟨rfl, hb_15⟩
  have Tt_16 := Aside0.mk (Tt_14.out.below hb_15)
  have Hp_16 := Aside0.mk ((hb_15.block _ lp_14).trans Hp_14.out)
  have lp_16 := Nat.lt_of_lt_of_le lp_14 hb_15.size
  have Hq_16 := Aside0.mk ((hb_15.block _ lq_14).trans Hq_14.out)
  have lq_16 := Nat.lt_of_lt_of_le lq_14 hb_15.size
  have BB_16 := Aside0.mk (below_then BB_14.out BB_14.out.size hb_15)
  clear Hp_14 lp_14 Hq_14 lq_14 BB_14 hb_15
  clear Tt_14
  have hxp := Hp_16.out
  obtain ⟨kp0, fp0⟩ := heap_cell (j := 0) hxp rfl
  obtain ⟨kp1, fp1⟩ := heap_cell (j := 1) hxp rfl
  obtain ⟨kp2, fp2⟩ := heap_cell (j := 2) hxp rfl
  clear hxp
  go_wp2_with fail
  clear kp0 fp0 kp1 fp1 kp2 fp2
  refine (Put_calls tt Nt_1 Dt_1 [] 0 281470681743360 96 1 (by omega) (by omega) rx1 (by decide) _ Tt_16).mono ?_
  rintro e w_17 ⟨rfl, Nt_17, Dt_17, hT, hO⟩
  have Hp_17 := Aside0.mk ((hO.fr.block _ lp_16 (own_not Tt_16.out Hp_16.out (by decide) (by decide))).trans Hp_16.out)
  have lp_17 := Nat.lt_of_lt_of_le lp_16 hO.fr.size
  have Hq_17 := Aside0.mk ((hO.fr.block _ lq_16 (own_not Tt_16.out Hq_16.out (by decide) (by decide))).trans Hq_16.out)
  have lq_17 := Nat.lt_of_lt_of_le lq_16 hO.fr.size
  have OWt_17 : Aside0 (∀ k, Own tt Nt_17 k → w.heap.size ≤ k) := ⟨fun k hk => (hO.new k hk).elim (OWt_1.out k) (fun q => Nat.le_trans BB_16.out.size q)⟩
  have BB_17 := Aside0.mk (Fr.below BB_16.out BB_16.out.size hO.fr OWt_1.out)
  have Tt_17 := Aside0.mk hT
  clear Hp_16 lp_16 Hq_16 lq_16 BB_16 Tt_16 OWt_1 hT hO
  rw [lx1_is] at Tt_17
  have hxq := Hq_17.out
  obtain ⟨kq0, fq0⟩ := heap_cell (j := 0) hxq rfl
  obtain ⟨kq1, fq1⟩ := heap_cell (j := 1) hxq rfl
  obtain ⟨kq2, fq2⟩ := heap_cell (j := 2) hxq rfl
  clear hxq
  go_wp2_with fail
  clear kq0 fq0 kq1 fq1 kq2 fq2
  refine (Put_calls tt Nt_17 Dt_17 lx1 0 281470849515520 104 2 (by omega) (by omega) rx2 (by decide) _ Tt_17).mono ?_
  rintro e w_18 ⟨rfl, Nt_18, Dt_18, hT, hO⟩
  have Hp_18 := Aside0.mk ((hO.fr.block _ lp_17 (own_not Tt_17.out Hp_17.out (by decide) (by decide))).trans Hp_17.out)
  have lp_18 := Nat.lt_of_lt_of_le lp_17 hO.fr.size
  have Hq_18 := Aside0.mk ((hO.fr.block _ lq_17 (own_not Tt_17.out Hq_17.out (by decide) (by decide))).trans Hq_17.out)
  have lq_18 := Nat.lt_of_lt_of_le lq_17 hO.fr.size
  have OWt_18 : Aside0 (∀ k, Own tt Nt_18 k → w.heap.size ≤ k) := ⟨fun k hk => (hO.new k hk).elim (OWt_17.out k) (fun q => Nat.le_trans BB_17.out.size q)⟩
  have BB_18 := Aside0.mk (Fr.below BB_17.out BB_17.out.size hO.fr OWt_17.out)
  have Tt_18 := Aside0.mk hT
  clear Hp_17 lp_17 Hq_17 lq_17 BB_17 Tt_17 OWt_17 hT hO
  rw [lx2_is] at Tt_18
  go_wp2_with fail
  have hfbx1 := find_is Tt_18.out 0 281470849581313 (by omega) (by omega) _ bx1
  refine (Find_calls tt Nt_18 Dt_18 lx2 (false, 0, 167837953) ⟨rfl, by omega, by omega⟩ _ Tt_18).mono ?_
  simp only [adHi, adLo]
  rw [show (281470681743360 : Int) + 167837953 = 281470849581313 from rfl]
  rw [hfbx1]
  simp only [findV, pfV, Option.map, Option.getD, Option.isSome]
  rintro e w_19 ⟨rfl, hb_19⟩
  have Tt_20 := Aside0.mk (Tt_18.out.below hb_19)
  have Hp_20 := Aside0.mk ((hb_19.block _ lp_18).trans Hp_18.out)
  have lp_20 := Nat.lt_of_lt_of_le lp_18 hb_19.size
  have Hq_20 := Aside0.mk ((hb_19.block _ lq_18).trans Hq_18.out)
  have lq_20 := Nat.lt_of_lt_of_le lq_18 hb_19.size
  have BB_20 := Aside0.mk (below_then BB_18.out BB_18.out.size hb_19)
  clear Hp_18 lp_18 Hq_18 lq_18 BB_18 hb_19
  clear Tt_18
  obtain ⟨W_21, hW_21⟩ : ∃ W_21, W_21 = w_19.alloc (.cells #[.int .u64 0, .int .u64 281470849515520, .int .i64 104] 25) := ⟨_, rfl⟩
  obtain ⟨hg_21, hl_21, hb_21⟩ := boxN hW_21
  obtain ⟨gy1, hgg_21⟩ : ∃ gy1, gy1 = w_19.heap.size := ⟨_, rfl⟩
  rw [← hgg_21] at hg_21 hl_21
  have HAy1 := Aside0.mk hg_21
  have LAy1 := hl_21
  have HGG_21 := Lib.hid hgg_21
  have HWW_21 := Lib.hid hW_21
  clear hW_21 hgg_21 hg_21 hl_21
  have Tt_22 := Aside0.mk (Tt_20.out.below hb_21)
  have Hp_22 := Aside0.mk ((hb_21.block _ lp_20).trans Hp_20.out)
  have lp_22 := Nat.lt_of_lt_of_le lp_20 hb_21.size
  have Hq_22 := Aside0.mk ((hb_21.block _ lq_20).trans Hq_20.out)
  have lq_22 := Nat.lt_of_lt_of_le lq_20 hb_21.size
  have BB_22 := Aside0.mk (below_then BB_20.out BB_20.out.size hb_21)
  clear Hp_20 lp_20 Hq_20 lq_20 BB_20 hb_21
  clear Tt_20
  go_wp2_with fail
  try rw [← HWW_21.out]
  try rw [← HGG_21.out]
  have hfbx2 := find_is Tt_22.out 0 281470866358529 (by omega) (by omega) _ bx2
  refine (Find_calls tt Nt_18 Dt_18 lx2 (false, 0, 184615169) ⟨rfl, by omega, by omega⟩ _ Tt_22).mono ?_
  simp only [adHi, adLo]
  rw [show (281470681743360 : Int) + 184615169 = 281470866358529 from rfl]
  rw [hfbx2]
  simp only [findV, pfV, Option.map, Option.getD, Option.isSome]
  rintro e w_23 ⟨rfl, hb_23⟩
  have Tt_24 := Aside0.mk (Tt_22.out.below hb_23)
  have Hp_24 := Aside0.mk ((hb_23.block _ lp_22).trans Hp_22.out)
  have lp_24 := Nat.lt_of_lt_of_le lp_22 hb_23.size
  have Hq_24 := Aside0.mk ((hb_23.block _ lq_22).trans Hq_22.out)
  have lq_24 := Nat.lt_of_lt_of_le lq_22 hb_23.size
  have Hy1_24 := Aside0.mk ((hb_23.block _ LAy1).trans HAy1.out)
  have ly1_24 := Nat.lt_of_lt_of_le LAy1 hb_23.size
  have BB_24 := Aside0.mk (below_then BB_22.out BB_22.out.size hb_23)
  clear Hp_22 lp_22 Hq_22 lq_22 HAy1 LAy1 BB_22 hb_23
  clear Tt_22
  obtain ⟨W_25, hW_25⟩ : ∃ W_25, W_25 = w_23.alloc (.cells #[.int .u64 0, .int .u64 281470681743360, .int .i64 96] 25) := ⟨_, rfl⟩
  obtain ⟨hg_25, hl_25, hb_25⟩ := boxN hW_25
  obtain ⟨gy2, hgg_25⟩ : ∃ gy2, gy2 = w_23.heap.size := ⟨_, rfl⟩
  rw [← hgg_25] at hg_25 hl_25
  have HAy2 := Aside0.mk hg_25
  have LAy2 := hl_25
  have HGG_25 := Lib.hid hgg_25
  have HWW_25 := Lib.hid hW_25
  clear hW_25 hgg_25 hg_25 hl_25
  have Tt_26 := Aside0.mk (Tt_24.out.below hb_25)
  have Hp_26 := Aside0.mk ((hb_25.block _ lp_24).trans Hp_24.out)
  have lp_26 := Nat.lt_of_lt_of_le lp_24 hb_25.size
  have Hq_26 := Aside0.mk ((hb_25.block _ lq_24).trans Hq_24.out)
  have lq_26 := Nat.lt_of_lt_of_le lq_24 hb_25.size
  have Hy1_26 := Aside0.mk ((hb_25.block _ ly1_24).trans Hy1_24.out)
  have ly1_26 := Nat.lt_of_lt_of_le ly1_24 hb_25.size
  have BB_26 := Aside0.mk (below_then BB_24.out BB_24.out.size hb_25)
  clear Hp_24 lp_24 Hq_24 lq_24 Hy1_24 ly1_24 BB_24 hb_25
  clear Tt_24
  go_wp2_with fail
  try rw [← HWW_25.out]
  try rw [← HGG_25.out]
  have hfbx3 := find_is Tt_26.out 0 1 (by omega) (by omega) _ bx3
  refine (Find_calls tt Nt_18 Dt_18 lx2 (true, 0, 1) ⟨by omega, by omega⟩ _ Tt_26).mono ?_
  simp only [adHi, adLo]
  skip
  rw [hfbx3]
  simp only [findV, pfV, Option.map, Option.getD, Option.isSome]
  rintro e w_27 ⟨rfl, hb_27⟩
  have Tt_28 := Aside0.mk (Tt_26.out.below hb_27)
  have Hp_28 := Aside0.mk ((hb_27.block _ lp_26).trans Hp_26.out)
  have lp_28 := Nat.lt_of_lt_of_le lp_26 hb_27.size
  have Hq_28 := Aside0.mk ((hb_27.block _ lq_26).trans Hq_26.out)
  have lq_28 := Nat.lt_of_lt_of_le lq_26 hb_27.size
  have Hy1_28 := Aside0.mk ((hb_27.block _ ly1_26).trans Hy1_26.out)
  have ly1_28 := Nat.lt_of_lt_of_le ly1_26 hb_27.size
  have Hy2_28 := Aside0.mk ((hb_27.block _ LAy2).trans HAy2.out)
  have ly2_28 := Nat.lt_of_lt_of_le LAy2 hb_27.size
  have BB_28 := Aside0.mk (below_then BB_26.out BB_26.out.size hb_27)
  clear Hp_26 lp_26 Hq_26 lq_26 Hy1_26 ly1_26 HAy2 LAy2 BB_26 hb_27
  clear Tt_26
  obtain ⟨W_29, hW_29⟩ : ∃ W_29, W_29 = w_27.alloc (.cells #[.int .u64 0, .int .u64 0, .int .i64 0] 25) := ⟨_, rfl⟩
  obtain ⟨hg_29, hl_29, hb_29⟩ := boxN hW_29
  obtain ⟨gy3, hgg_29⟩ : ∃ gy3, gy3 = w_27.heap.size := ⟨_, rfl⟩
  rw [← hgg_29] at hg_29 hl_29
  have HAy3 := Aside0.mk hg_29
  have LAy3 := hl_29
  have HGG_29 := Lib.hid hgg_29
  have HWW_29 := Lib.hid hW_29
  clear hW_29 hgg_29 hg_29 hl_29
  have Tt_30 := Aside0.mk (Tt_28.out.below hb_29)
  have Hp_30 := Aside0.mk ((hb_29.block _ lp_28).trans Hp_28.out)
  have lp_30 := Nat.lt_of_lt_of_le lp_28 hb_29.size
  have Hq_30 := Aside0.mk ((hb_29.block _ lq_28).trans Hq_28.out)
  have lq_30 := Nat.lt_of_lt_of_le lq_28 hb_29.size
  have Hy1_30 := Aside0.mk ((hb_29.block _ ly1_28).trans Hy1_28.out)
  have ly1_30 := Nat.lt_of_lt_of_le ly1_28 hb_29.size
  have Hy2_30 := Aside0.mk ((hb_29.block _ ly2_28).trans Hy2_28.out)
  have ly2_30 := Nat.lt_of_lt_of_le ly2_28 hb_29.size
  have BB_30 := Aside0.mk (below_then BB_28.out BB_28.out.size hb_29)
  clear Hp_28 lp_28 Hq_28 lq_28 Hy1_28 ly1_28 Hy2_28 ly2_28 BB_28 hb_29
  clear Tt_28
  go_wp2_with fail
  try rw [← HWW_29.out]
  try rw [← HGG_29.out]
  refine (AwakeL7_calls _ ⟨hE.out.stays BB_30.out⟩ ⟨hM.out.stays BB_30.out⟩ ⟨hP.out.stays BB_30.out⟩ ⟨hT.out.stays BB_30.out⟩).mono ?_
  rintro e w_31 ⟨rfl, hb_31⟩
  have Tt_32 := Aside0.mk (Tt_30.out.below hb_31)
  have Hp_32 := Aside0.mk ((hb_31.block _ lp_30).trans Hp_30.out)
  have lp_32 := Nat.lt_of_lt_of_le lp_30 hb_31.size
  have Hq_32 := Aside0.mk ((hb_31.block _ lq_30).trans Hq_30.out)
  have lq_32 := Nat.lt_of_lt_of_le lq_30 hb_31.size
  have Hy1_32 := Aside0.mk ((hb_31.block _ ly1_30).trans Hy1_30.out)
  have ly1_32 := Nat.lt_of_lt_of_le ly1_30 hb_31.size
  have Hy2_32 := Aside0.mk ((hb_31.block _ ly2_30).trans Hy2_30.out)
  have ly2_32 := Nat.lt_of_lt_of_le ly2_30 hb_31.size
  have Hy3_32 := Aside0.mk ((hb_31.block _ LAy3).trans HAy3.out)
  have ly3_32 := Nat.lt_of_lt_of_le LAy3 hb_31.size
  have BB_32 := Aside0.mk (below_then BB_30.out BB_30.out.size hb_31)
  clear Hp_30 lp_30 Hq_30 lq_30 Hy1_30 ly1_30 Hy2_30 ly2_30 HAy3 LAy3 BB_30 hb_31
  clear Tt_30
  go_wp2_with fail
  go_ret
  exact ⟨rfl, BB_32.out⟩
end Go.Proofs.YtplehdcnnaamkaaGreatDoor

/- What a put and a drop do to what is found; plain Lean. -/
namespace Go.Proofs.YtplehdcnnaamkaaGreatDoor

theorem dropL_id (p : P3) : ∀ l : List E4, getL l p = none → dropL l p = l
  | [], _ => rfl
  | x :: l, h => by
    rw [getL] at h
    split at h
    · cases h
    · rename_i hx
      have := dropL_id p l h
      simp only [dropL, List.filter_cons] at this ⊢
      rw [this, if_pos (by simpa using hx)]
theorem insL_more (p : P3) (v : Int) : ∀ l : List E4, (insL p v l).length = l.length + 1
  | [] => rfl
  | x :: l => by
    rw [insL]
    split
    · rfl
    · rw [List.length_cons, insL_more p v l, List.length_cons]
theorem putL_most (p : P3) (v : Int) (l : List E4) : (putL l p v).length ≤ l.length + 1 := by
  rw [putL, insL_more]
  exact Nat.succ_le_succ (List.length_filter_le _ _)
theorem getL_ins (p : P3) (v : Int) : ∀ l : List E4, (∀ x ∈ l, x.1 ≠ p) → getL (insL p v l) p = some v
  | [], _ => by simp [insL, getL]
  | x :: l, h => by
    rw [insL]
    split
    · simp [getL]
    · rw [getL, if_neg (h x (List.mem_cons_self ..))]
      exact getL_ins p v l fun y hy => h y (List.mem_cons_of_mem _ hy)
theorem getL_put (p : P3) (v : Int) (l : List E4) : getL (putL l p v) p = some v := getL_ins p v _ fun _ hx => ((mem_dropL _ _ _).1 hx).2
theorem Best.congr {a b : Int} {l m : List E4} {o : Option E4} (h : Best a b l o) (hm : ∀ x, x ∈ l ↔ x ∈ m) : Best a b m o := by
  cases o with
  | none => exact fun e he => h e ((hm e).2 he)
  | some e => exact ⟨(hm e).1 h.1, h.2.1, fun x hx => h.2.2 x ((hm x).2 hx)⟩
theorem Best.put {a b : Int} {l : List E4} {o : Option E4} (h : Best a b l o) (p : P3) (v : Int) (hg : getL l p = none) : Best a b (putL l p v) (bestS a b o (p, v)) := by
  refine (h.step (p, v)).congr fun x => ?_
  rw [putL, dropL_id p l hg, mem_insL]
  simp only [List.mem_append, List.mem_singleton]
  exact Or.comm
end Go.Proofs.YtplehdcnnaamkaaGreatDoor

/- A put of any prefix; '!=' of prefixes. -/
namespace Go.Proofs.YtplehdcnnaamkaaGreatDoor
open Go.RowKit Go.Proofs.YtplehdcnnaamkaaGreatDoorW.PrintWords Go.Proofs.YtplehdcnnaamkaaGreatDoorW.PrintMore

theorem row_at {w : World} {ad : Addr} {k j : Nat} {v : Value} (h : w.cell? (ad.add (k + j)) = some v) : w.cell? ⟨(ad.add k).block, (ad.add k).off + j, none⟩ = some v := by
  have hs := World.cell?_spot h
  have e : ad.add (k + j) = ⟨(ad.add k).block, (ad.add k).off + j, none⟩ := by
    obtain ⟨b, o, s⟩ := ad
    by_cases hk : k = 0
    · by_cases hj : j = 0
      · subst hk hj
        have hs' : s = none := by simpa [Addr.add] using hs
        subst hs'
        rfl
      · subst hk
        simp [Addr.add, hj]
    · simp [Addr.add, hk, Nat.add_assoc]
  rw [← e]
  exact h
/-- What a put of any prefix leaves behind. -/
def putA (L : List E4) (p : P3) (v : Int) : List E4 := if rP p = true then putL L p v else L
end Go.Proofs.YtplehdcnnaamkaaGreatDoor

/- A slice of prefixes, handed in: opened. -/
namespace Go.Proofs.YtplehdcnnaamkaaGreatDoor
open Go.ChangeShapes Go.WideShapes Go.Deep

/-- A row of prefixes lies at an address. -/
def PfRow (w : World) (A : Option Addr) (ps : List P3) : Prop := ∀ j, j < ps.length → ∃ ad, A = some ad ∧ w.cell? (ad.add (j * 3)) = some (.int .u64 (ps.getD j (0, 0, 0)).1) ∧ w.cell? (ad.add (j * 3 + 1)) = some (.int .u64 (ps.getD j (0, 0, 0)).2.1) ∧ w.cell? (ad.add (j * 3 + 2)) = some (.int .i64 (ps.getD j (0, 0, 0)).2.2)
/-- A prefix's length is an int. -/
def okP3 (p : P3) : Prop := okP p ∧ -9223372036854775808 ≤ p.2.2 ∧ p.2.2 ≤ 9223372036854775807
theorem getD_range {α : Type} (f : Nat → α) (n j : Nat) (h : j < n) (d : α) : ((List.range n).map f).getD j d = f j := by
  rw [List.getD_eq_getElem?_getD, List.getElem?_map, List.getElem?_range h]
  rfl
theorem open_pfxs {H : Type} {enc : TypeId × Value → H} {P : Program} {w : World} {r : Reach} {b0 base : Nat} {spare : Nat → Bool} {held : Bool} {t e e0 e2 : TypeId} {n0 n1 n2 t0 t1 t2 p0 p1 p2 : String} {m0 m1 m2 : Bool} {k0 k1 k2 : Nat} {v : Value} {d : DataW H} {ps : List MemPlace}
    (ht : P.underlying t = some (.slice e)) (he : P.underlying e = some (.struct #[⟨n0, e0, 0, m0, t0, p0, k0⟩, ⟨n1, e0, 1, m1, t1, p1, k1⟩, ⟨n2, e2, 2, m2, t2, p2, k2⟩])) (ce : P.cellsOf e = 3) (c0 : P.cellsOf e0 = 1) (c2 : P.cellsOf e2 = 1) (h0 : P.underlying e0 = some (.int .u64)) (h2 : P.underlying e2 = some (.int .i64))
    (hval : Value.okWide P w r b0 t v) (hd : DataW.Trod enc P w base spare held t v d ps) :
    ∃ (A : Option Addr) (c : Nat) (xs : List P3), v = .slice A xs.length c ∧ xs.length ≤ c ∧ (∀ p ∈ xs, okP3 p) ∧ PfRow w A xs := by
  obtain ⟨fuel, hf⟩ := hd
  obtain ⟨va, vl, vc, rfl⟩ := okWide_slice ht hval
  rcases open_slice ht hf with ⟨h1, _⟩ | ⟨a, len, cap, m, n, D, Pl, h1, hb, hl, hm, hmm, _, hx⟩
  · have h3 : Value.slice va vl vc = .slice none 0 0 := by simpa [Value.cells] using h1
    rw [h3]
    exact ⟨none, 0, [], rfl, Nat.le_refl _, (fun p hp => by cases hp), fun j hj => absurd hj (Nat.not_lt_zero j)⟩
  · have h3 : Value.slice va vl vc = .slice (some a) len cap := by simpa [Value.cells] using h1
    have hlm : len ≤ m := by rw [hmm]; split <;> omega
    have each : ∀ i, i < m → ∃ q : P3, okP3 q ∧ w.cell? (a.add (i * 3)) = some (.int .u64 q.1) ∧ w.cell? (a.add (i * 3 + 1)) = some (.int .u64 q.2.1) ∧ w.cell? (a.add (i * 3 + 2)) = some (.int .i64 q.2.2) := by
      intro i hi
      obtain ⟨cs', q1, q2⟩ := hx i hi
      rw [ce] at q1
      obtain ⟨_, hlen, hcell⟩ := World.cells?_some q1
      obtain ⟨y0, y1, y2, k, _, _, g0, g1, g2⟩ := trod_struct3 he q2
      match cs', hlen with
      | [v0, v1, v2], _ =>
        simp only [List.drop_zero, List.drop_succ_cons, c0, c2, List.take_succ_cons, List.take_zero] at g0 g1 g2
        obtain ⟨x0, r0, _, w0⟩ := DataW.trod_int h0 g0
        obtain ⟨x1, r1, _, w1⟩ := DataW.trod_int h0 g1
        obtain ⟨x2, r2, _, w2⟩ := DataW.trod_int h2 g2
        simp at r0 r1 r2
        subst r0 r1 r2
        have e0' := hcell 0 (by omega)
        have e1' := hcell 1 (by omega)
        have e2' := hcell 2 (by omega)
        rw [add_add] at e0' e1' e2'
        have b0' := wf_u64 w0
        have b1' := wf_u64 w1
        have b2' := wf_i64 w2
        exact ⟨(x0, x1, x2), ⟨⟨⟨by simp only; omega, by simp only; omega⟩, by simp only; omega, by simp only; omega⟩, by simp only; omega, by simp only; omega⟩, by simpa using e0', by simpa using e1', by simpa using e2'⟩
    obtain ⟨q, hq⟩ := choose_lt each
    have hlen : ((List.range len).map q).length = len := by simp
    refine ⟨some a, cap, (List.range len).map q, by rw [h3, hlen], by rw [hlen]; exact hl, fun p hp => ?_, fun j hj => ⟨a, rfl, ?_⟩⟩
    · obtain ⟨i, hi, rfl⟩ := List.mem_map.1 hp
      exact (hq i (by have := List.mem_range.1 hi; omega)).1
    · rw [hlen] at hj
      rw [getD_range q len j hj]
      exact (hq j (by omega)).2
end Go.Proofs.YtplehdcnnaamkaaGreatDoor

/- Maps from prefixes to whole numbers: what one holds is what a list of the document's holds. -/
namespace Go.Proofs.YtplehdcnnaamkaaGreatDoor
open Go.Maps

theorem law_pf : Keyed Tryz.prog 25 := Keyed.of_law (deep_law_laid (by kernel_rfl) (m := 3) (by decide) (of_decide_eq_true (by kernel_rfl)) (by kernel_rfl) (by kernel_rfl))
theorem zero_int (w : World) : (zeroValue 3).run Tryz.prog w = .ok (.int .i64 0) w := by kernel_rfl
def kP (p : P3) : Lit := .string (keyBytes [.int .u64 p.1, .int .u64 p.2.1, .int .i64 p.2.2])
abbrev aggP (p : P3) : Value := .agg #[.int .u64 p.1, .int .u64 p.2.1, .int .i64 p.2.2]
theorem wf_of64 (a : Int) (h : 0 ≤ a ∧ a < 18446744073709551616) : (Lit.int .u64 a).wf = true := by
  simp [Lit.wf, IntKind.min, IntKind.max, IntKind.signed, IntKind.bits]
  omega
theorem wf_ofi64 (a : Int) (h : -9223372036854775808 ≤ a ∧ a ≤ 9223372036854775807) : (Lit.int .i64 a).wf = true := by
  simp [Lit.wf, IntKind.min, IntKind.max, IntKind.signed, IntKind.bits]
  omega
theorem lits_pf (d : Nat) (p : P3) (h : okP3 p) : Tryz.prog.keyLits (d + 2) 25 [.int .u64 p.1, .int .u64 p.2.1, .int .i64 p.2.2] = some [.int .u64 p.1, .int .u64 p.2.1, .int .i64 p.2.2] := by
  have w0 := wf_of64 p.1 h.1.1
  have w1 := wf_of64 p.2.1 h.1.2
  have w2 := wf_ofi64 p.2.2 h.2
  have c0 : Tryz.prog.cellsOf 25 = 3 := by kernel_rfl
  have c1 : Tryz.prog.cellsOf 23 = 1 := by kernel_rfl
  have c2 : Tryz.prog.cellsOf 3 = 1 := by kernel_rfl
  simp [Program.keyLits, Tryz.underlying25, Tryz.underlying23, Tryz.underlying3, c0, c1, c2, w0, w1, w2]
theorem key_pf (p : P3) (h : okP3 p) : keyOf Tryz.prog 25 (aggP p) = some (kP p) := by
  have e1 : Tryz.prog.keyType 25 = true := by kernel_rfl
  have e2 : (aggP p).formed Tryz.prog 25 = true := by kernel_rfl
  have e3 : ∃ d, Tryz.prog.types.size + 1 = d + 2 := ⟨Tryz.prog.types.size - 1, by kernel_rfl⟩
  obtain ⟨d, e3⟩ := e3
  have e4 : (aggP p).cells.toList = [.int .u64 p.1, .int .u64 p.2.1, .int .i64 p.2.2] := rfl
  simp only [keyOf, Tryz.underlying25, e1, e2, e3, e4, lits_pf d p h, Bool.and_self, if_true, Option.map]
  rfl
theorem kP_key (p : P3) : WideAt.IsKeyLit (kP p) := trivial
theorem kP_inj (p q : P3) (hp : okP3 p) (hq : okP3 q) (h : kP p = kP q) : p = q := by
  have := law_pf.inj (key_pf p hp) (by rw [h]; exact key_pf q hq)
  obtain ⟨a, b, c⟩ := p
  obtain ⟨a', b', c'⟩ := q
  simpa [aggP] using this
/-- A map's datum tells what a list of the document's tells. -/
structure LastR (D : DataW Unit) (L : List E4) : Prop where
  tidy : Tidy D
  at_ : ∀ p, okP3 p → D.atKey (kP p) (.lit (.int .i64 0)) = .lit (.int .i64 ((getL L p).getD 0))
  has_ : ∀ p, okP3 p → has D (kP p) = (getL L p).isSome
  size_ : size D = L.length
theorem LastR.nil : LastR (.map []) [] := ⟨tidy_empty, fun _ _ => rfl, fun _ _ => rfl, rfl⟩
theorem getL_ins_other (p q : P3) (v : Int) (hne : q ≠ p) : ∀ l : List E4, getL (insL p v l) q = getL l q
  | [] => by simp [insL, getL, hne.symm]
  | x :: l => by
    rw [insL]
    split
    · rw [getL, if_neg (fun e => hne e.symm)]
    · rw [getL, getL, getL_ins_other p q v hne l]
theorem getL_drop_other (p q : P3) (hne : q ≠ p) : ∀ l : List E4, getL (dropL l p) q = getL l q
  | [] => rfl
  | x :: l => by
    have ih := getL_drop_other p q hne l
    simp only [dropL, List.filter_cons] at ih ⊢
    split
    · rw [getL, getL, ih]
    · rename_i hx
      have hx' : x.1 = p := by simpa using hx
      rw [getL, if_neg (by rw [hx']; exact fun e => hne e.symm), ih]
theorem getL_put_other (p q : P3) (v : Int) (l : List E4) (hne : q ≠ p) : getL (putL l p v) q = getL l q := by
  rw [putL, getL_ins_other p q v hne, getL_drop_other p q hne]
theorem LastR.put {D : DataW Unit} {L : List E4} (h : LastR D L) (p : P3) (v : Int) (hp : okP3 p) (hl : (putL L p v).length = if (getL L p).isSome = true then L.length else L.length + 1) : LastR (D.put (kP p) (.lit (.int .i64 v))) (putL L p v) := by
  refine ⟨h.tidy.put (kP_key p) _, fun q hq => ?_, fun q hq => ?_, ?_⟩
  · by_cases e : q = p
    · subst e
      rw [atKey_put_same h.tidy.isMap (kP_key q), getL_put]
      rfl
    · rw [atKey_put_other (fun e' => e (kP_inj q p hq hp e')), getL_put_other p q v L e]
      exact h.at_ q hq
  · by_cases e : q = p
    · subst e
      rw [has_put_same h.tidy.isMap (kP_key q), getL_put]
      rfl
    · rw [has_put_other (fun e' => e (kP_inj q p hq hp e')), getL_put_other p q v L e]
      exact h.has_ q hq
  · rw [size_put h.tidy, h.has_ p hp, h.size_, hl]
/-- A block is such a map. -/
def MapL (w : World) (b n : Nat) (L : List E4) : Prop := ∃ D, w.ownsMap Tryz.prog 25 (plainElem Tryz.prog 3) b n D ∧ LastR D L
theorem MapL.made (w : World) : MapL (w.alloc (.map #[] 0)) w.heap.size 0 [] := ⟨_, World.ownsMap_made _ _ _ _, LastR.nil⟩
theorem MapL.kept {w w' : World} {b n : Nat} {L : List E4} (h : MapL w b n L) (hb : w'.heap[b]? = w.heap[b]?) : MapL w' b n L := by
  obtain ⟨D, ⟨es, clock, h1, h2⟩, hD⟩ := h
  exact ⟨D, ⟨es, clock, hb.trans h1, h2⟩, hD⟩
theorem MapL.lt {w : World} {b n : Nat} {L : List E4} (h : MapL w b n L) : b < w.heap.size := by
  obtain ⟨D, hD, _⟩ := h
  exact hD.lt
theorem own_not_map {w : World} {t : Nat} {N : Nm} {D : Dm} {L : List E4} {b n : Nat} {L' : List E4} (h : Tri w t N D L) (m : MapL w b n L') : ¬ Own t N b := by
  obtain ⟨_, ⟨es, clock, hb, _⟩, _⟩ := m
  rintro (e | ⟨π, hπ⟩)
  · obtain ⟨r, _, ht⟩ := h.root
    rw [← e, hb] at ht
    cases ht
  · have hc := h.rep.cell π b hπ
    rw [hb] at hc
    cases hc
/-- A store into another block leaves a trie as it is. -/
theorem fr_grown {w w' : World} {b : Nat} (h : w.grownBy w' (some b)) : Fr (fun k => k = b) w w' := ⟨h.os, h.tape, h.output, h.size, fun k hk hn => h.block k hk (fun e => hn (Option.some.inj e))⟩
/-- What is in a list are the right ones of a row. -/
def KeysR (L : List E4) (xs : List P3) : Prop := ∀ p, (∃ v, (p, v) ∈ L) ↔ p ∈ xs ∧ rP p = true
theorem KeysR.nil : KeysR [] [] := fun p => by simp
theorem KeysR.step {L : List E4} {xs : List P3} (h : KeysR L xs) (q : P3) (v : Int) : KeysR (putA L q v) (xs ++ [q]) := by
  intro p
  rw [putA]
  split
  · rename_i hq
    rw [List.mem_append, List.mem_singleton]
    constructor
    · rintro ⟨u, hu⟩
      rcases (mem_insL _ _ _ _).1 hu with e | e
      · obtain ⟨rfl, rfl⟩ : p = q ∧ u = v := by simpa using e
        exact ⟨.inr rfl, hq⟩
      · have := (h p).1 ⟨u, ((mem_dropL _ _ _).1 e).1⟩
        exact ⟨.inl this.1, this.2⟩
    · rintro ⟨h1, h2⟩
      by_cases e : p = q
      · subst e
        exact ⟨v, (mem_insL _ _ _ _).2 (.inl rfl)⟩
      · obtain ⟨u, hu⟩ := (h p).2 ⟨h1.resolve_right e, h2⟩
        exact ⟨u, (mem_insL _ _ _ _).2 (.inr ((mem_dropL _ _ _).2 ⟨hu, e⟩))⟩
  · rename_i hq
    rw [h p, List.mem_append, List.mem_singleton]
    constructor
    · rintro ⟨h1, h2⟩
      exact ⟨.inl h1, h2⟩
    · rintro ⟨h1, h2⟩
      refine ⟨h1.resolve_right fun e => hq (e ▸ h2), h2⟩
theorem Inv.getL_of {I : List Bool → Option (Int × P3)} {L : List E4} (h : Inv I L) {p : P3} {v : Int} (hm : (p, v) ∈ L) : getL L p = some v := by
  cases hg : getL L p with
  | none => exact absurd hm (getL_none L p hg v)
  | some u => rw [h.one hm (getL_mem L p u hg)]
/-- Does one of a row have an address? -/
def anyHas (a b : Int) (xs : List P3) : Bool := xs.any fun q => hasP q.1 q.2.1 q.2.2 a b
theorem best_any {a b : Int} {L : List E4} {xs : List P3} {o : Option E4} (h : Best a b L o) (hk : KeysR L xs) : o.isSome = anyHas a b xs := by
  cases o with
  | none =>
    symm
    rw [Option.isSome, anyHas, List.any_eq_false]
    intro q hq hh
    obtain ⟨v, hv⟩ := (hk q).2 ⟨hq, has_right q a b hh⟩
    have := h _ hv
    rw [hh] at this
    cases this
  | some e =>
    symm
    rw [Option.isSome, anyHas, List.any_eq_true]
    exact ⟨e.1, ((hk e.1).1 ⟨e.2, h.1⟩).1, h.2.1⟩
theorem best_len {a b : Int} {L : List E4} {xs : List P3} {o : Option E4} (h : Best a b L o) (hk : KeysR L xs) (q : P3) (hq : q ∈ xs) (hh : hasP q.1 q.2.1 q.2.2 a b = true) : ∃ e, o = some e ∧ q.2.2 ≤ e.1.2.2 := by
  obtain ⟨v, hv⟩ := (hk q).2 ⟨hq, has_right q a b hh⟩
  cases o with
  | none =>
    have := h _ hv
    rw [hh] at this
    cases this
  | some e => exact ⟨e, rfl, h.2.2 _ hv hh⟩
end Go.Proofs.YtplehdcnnaamkaaGreatDoor

/- The law PrefixTells, walked. -/
namespace Go.Proofs.YtplehdcnnaamkaaGreatDoor
open Go.RowKit Go.Proofs.YtplehdcnnaamkaaGreatDoorW.PrintWords Go.Proofs.YtplehdcnnaamkaaGreatDoorW.PrintMore

/-- An address that is made of numbers. -/
def mkA (is : Bool) (hi lo : Int) : Bool × Int × Int := (is, if is = true then hi else 0, if is = true then lo else lo % 4294967296)
theorem mkA_ok (is : Bool) (hi lo : Int) (h0 : 0 ≤ hi ∧ hi < 18446744073709551616) (h1 : 0 ≤ lo ∧ lo < 18446744073709551616) : adOk (mkA is hi lo) := by
  cases is
  · exact ⟨rfl, by show 0 ≤ lo % 4294967296; omega, by show lo % 4294967296 < 4294967296; omega⟩
  · exact ⟨h0, h1⟩
theorem MakeA_calls (is : Bool) (hi lo : Int) (h0 : 0 ≤ hi ∧ hi < 18446744073709551616) (h1 : 0 ≤ lo ∧ lo < 18446744073709551616) (w : World) :
    Calls Tryz.prog 24 #[.bool is, .int .u64 hi, .int .u64 lo] w fun e w' => e = .returned (adV (mkA is hi lo)) ∧ w' = w := Make_calls is hi lo h0 h1 w
end Go.Proofs.YtplehdcnnaamkaaGreatDoor

