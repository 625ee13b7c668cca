/- Package scalar: the functions that range over a string. -/
import Derived.Test.YtfieiigefllekaaGreatDoorJA
import Derived.Test.YtfieiigefllekaaGreatDoorShelfB
import Derived.Test.YtfieiigefllekaaGreatDoorJB
namespace Go.Proofs.YtfieiigefllekaaGreatDoor
open Go.RowKit Go.Proofs.YtfieiigefllekaaGreatDoorW.PrintWords Go.Proofs.YtfieiigefllekaaGreatDoorW.PrintLast Go.Proofs.YtfieiigefllekaaGreatDoorW.PrintMore

set_option maxHeartbeats 400000 in
theorem scalar_Scalars_calls (s : ByteArray) (w : World) (hs : s.size ≤ 1000000) :
    Calls Tryz.prog 166 #[.string s] w fun e w' => ∃ v : Value, e = .returned v ∧ Kd.R (Kd.int .i32) 21 w' w.heap.size (fun _ => True) v (rn s) ∧ Below w.heap.size w w' := by
  go_enter Tryz.func166, Tryz.ntmps166
  go_wp2
  go_loopw [3] (fun v wr => ∃ (pos f : Nat) (l : List Int), wr.heap[w.heap.size]? = some (.stringIter s pos) ∧ Aside0 (l ++ rnF s f pos = rn s) ∧ s.size ≤ pos + f ∧ l.length ≤ pos ∧ Aside0 (Kd.R (Kd.int .i32) 21 wr w.heap.size (fun _ => True) v l) ∧ Aside0 (Below w.heap.size w wr)) (fun _ wr => s.size - wr.iterPos w.heap.size)
  case atStart => exact ⟨0, s.size, [], World.iter_heap w s 0, ⟨rfl⟩, by omega, by simp, ⟨Kd.R_nil _ _ _ _ _⟩, ⟨(Below.refl _ _).alloc (Nat.le_refl _) _⟩⟩
  case round =>
    obtain ⟨pos, f, l, hit, hr, hf, hl, HO, HB⟩ := hrel
    by_cases hp : pos < s.size
    · have hnx : ∀ ty, (Instr.next (.pointer (some ⟨w.heap.size, 0, none⟩)) true ty).run Tryz.prog wr = _ := fun ty => Lib.run_next_any_at wr w.heap.size s pos ty hit hp
      have hwd := width_pos s pos hp
      have hd1 := decode_le s pos
      obtain ⟨g, rfl, hg0⟩ := rnF_step s f pos hp hf
      have hg1 := Aside0.mk hg0
      clear hg0
      have hit2 := Lib.iterAt_heap wr w.heap.size s pos (pos + (Utf8.decode s pos).2) hit
      have HO2 := Aside0.mk (R_iterAt HO.out hit (pos + (Utf8.decode s pos).2))
      have HB2 := Aside0.mk (Lib.below_iterAt HB.out (k := w.heap.size) (Nat.le_refl _) s (pos + (Utf8.decode s pos).2))
      have hsz : w.heap.size < wr.heap.size := (Array.getElem?_eq_some_iff.1 hit).1
      clear HO HB
      go_wp2_with ((with_reducible refine gate_builtin (b := .append) (xs := #[.tmp 11, .tmp 13]) rfl ?_); at_builtin; refine Kd.R_append (Kd.int .i32) (w0 := w) w.heap.size rfl (.tmp 11) (.tmp 13) 203 21 (.int .i32 0) 4 rfl Tryz.underlying203 info_rune rfl (by decide) (by omega) u3 l ((Utf8.decode s pos).1 : Int) [.int .i32 (Utf8.decode s pos).1] (fun _ => True) (fun _ => False) rfl rfl ?aP (fun _ hk => hk.elim) ?aF ?aO ?aB ?aS ?aL ?_; (case aP => exact rfl); (case aF => exact fun _ _ => trivial); (case aO => exact HO2.out); (case aB => exact HB2.out); (case aS => rw [Lib.iterAt_size]; omega); (case aL => omega); intro v1 w1 ho hb hg _)
      have hit3 := iter_grown HO2.out hg hit2
      refine ⟨⟨pos + (Utf8.decode s pos).2, g, l ++ [((Utf8.decode s pos).1 : Int)], hit3, ⟨by have := hr.out; rw [hg1.out] at this; rw [← this, List.append_assoc]; rfl⟩, by omega, by rw [List.length_append]; simp only [List.length_cons, List.length_nil]; omega, ⟨ho⟩, ⟨hb⟩⟩, ?_⟩
      simp only [World.iterPos, hit3, hit]
      omega
    · have hnx : ∀ ty, (Instr.next (.pointer (some ⟨w.heap.size, 0, none⟩)) true ty).run Tryz.prog wr = _ := fun ty => Lib.run_next_end_at wr w.heap.size s pos ty hit hp
      go_wp2
      go_ret
      have he := hr.out
      rw [rnF_end s f pos hp, List.append_nil] at he
      exact ⟨_, rfl, by rw [← he]; exact HO.out, HB.out⟩

def scalar_Scalars.f (a0 : ByteArray) : Option (List Int) := if a0.size ≤ 1000000 then some (rn a0) else none
theorem scalar_Scalars.calls (a0 : ByteArray) (r : List Int) (w : World) (h : scalar_Scalars.f a0 = some r) :
    Calls Tryz.prog 166 #[.string a0] w fun e w' => ∃ v0_ : Value, e = .returned (v0_) ∧ Kd.R (Kd.int .i32) 21 w' w.heap.size (fun _ => True) v0_ r ∧ Below w.heap.size w w' := by
  unfold scalar_Scalars.f at h
  by_cases hs : a0.size ≤ 1000000
  · rw [if_pos hs] at h
    obtain rfl := Option.some.inj h
    exact scalar_Scalars_calls a0 w hs
  · rw [if_neg hs] at h
    cases h
end Go.Proofs.YtfieiigefllekaaGreatDoor

/- Walks of package percent's functions that range over a string. -/
namespace Go.Proofs.YtfieiigefllekaaGreatDoor
open Go.RowKit

def hasRune (s : ByteArray) (r : Int) : Bool := (rn s).contains r

set_option maxHeartbeats 400000 in
theorem hasRune_calls (s : ByteArray) (r : Int) (w : World) :
    Calls Tryz.prog 168 #[.string s, .int .i32 r] w fun e w' => e = .returned (.bool (hasRune s r)) ∧ Below w.heap.size w w' := by
  go_enter Tryz.func168, Tryz.ntmps168
  go_wp2
  go_loopw [] (fun wr => ∃ (pos f : Nat), wr = w.iter s pos ∧ (rnF s f pos).contains r = hasRune s r ∧ s.size ≤ pos + f) (fun wr => s.size - wr.iterPos w.heap.size)
  case atStart => exact ⟨0, s.size, rfl, rfl, by omega⟩
  case round =>
    obtain ⟨pos, f, rfl, hr, hf⟩ := hrel
    by_cases hp : pos < s.size
    · have hnx : ∀ ty, (Instr.next (.pointer (some ⟨w.heap.size, 0, none⟩)) true ty).run Tryz.prog (w.iter s pos) = _ := fun ty => run_next_any w s pos ty hp
      have hwd := width_pos s pos hp
      have hd1 := decode_le s pos
      obtain ⟨g, rfl, hg⟩ := rnF_step s f pos hp hf
      rw [hg] at hr
      have Hr := Lib.hid hr
      clear hr hg
      go_wp2
      · have h1 : (((Utf8.decode s pos).1 : Int) == r) = true := by assumption
        have h2 : hasRune s r = true := by rw [← Hr.out, List.contains_cons, BEq.comm, h1]; rfl
        go_ret
        exact ⟨by rw [h2]; rfl, (Below.refl _ _).alloc (Nat.le_refl _) _⟩
      · have h1 : (((Utf8.decode s pos).1 : Int) == r) = false := by assumption
        refine ⟨⟨_, g, rfl, ?_, by omega⟩, by simp only [World.iterPos_iter]; omega⟩
        rw [← Hr.out, List.contains_cons, BEq.comm, h1]; rfl
    · have hnx : ∀ ty, (Instr.next (.pointer (some ⟨w.heap.size, 0, none⟩)) true ty).run Tryz.prog (w.iter s pos) = _ := fun ty => run_next_end w s pos ty hp
      go_wp2
      go_ret
      rw [rnF_end s f pos hp] at hr
      exact ⟨by rw [← hr]; rfl, (Below.refl _ _).alloc (Nat.le_refl _) _⟩

def percent_hasRune.f (a0 : ByteArray) (a1 : Int) : Option Bool := some (hasRune a0 a1)
theorem percent_hasRune.calls (a0 : ByteArray) (a1 : Int) (r : Bool) (w : World) (h : percent_hasRune.f a0 a1 = some r) :
    Calls Tryz.prog 168 #[.string a0, .int .i32 a1] w fun e w' => e = .returned (.bool r) ∧ Below w.heap.size w w' := by
  obtain rfl := Option.some.inj h
  exact hasRune_calls a0 a1 w
end Go.Proofs.YtfieiigefllekaaGreatDoor

/- percent.Byte and percent.In, marks. -/
namespace Go.Proofs.YtfieiigefllekaaGreatDoor
open Go.RowKit Go.Proofs.YtfieiigefllekaaGreatDoorW.PrintWords Go.Proofs.YtfieiigefllekaaGreatDoorW.PrintMore

def marks (s : Int) : ByteArray :=
  if s = 1 then ⟨#[32, 34, 60, 62, 96]⟩ else if s = 2 then ⟨#[32, 34, 35, 60, 62]⟩ else if s = 3 then ⟨#[32, 34, 35, 60, 62, 39]⟩
  else if s = 4 then ⟨#[32, 34, 35, 60, 62, 63, 94, 96, 123, 125]⟩ else if s = 5 then ⟨#[32, 34, 35, 60, 62, 63, 94, 96, 123, 125, 47, 58, 59, 61, 64, 91, 92, 93, 124]⟩ else ⟨#[]⟩

set_option maxHeartbeats 400000 in
theorem marks_calls (s : Int) (w : World) : Calls Tryz.prog 169 #[.int .u8 s] w fun e w' => e = .returned (.string (marks s)) ∧ w = w' := by
  go_enter Tryz.func169, Tryz.ntmps169
  go_wp2
  all_goals (go_ret; exact ⟨by simp_all [marks], rfl⟩)

/-- A digit to the base 16, as a byte. -/
def hexD (n : Int) : UInt8 := if n < 10 then UInt8.ofNat (48 + n.toNat) else UInt8.ofNat (55 + n.toNat)
/-- A byte as % and two digits. -/
def byteL (c : Int) : List UInt8 := [37, hexD (c / 16), hexD (c % 16)]
theorem hex_at (n : Int) (h0 : 0 ≤ n) (h1 : n < 16) (h : n.toNat < (⟨#[48, 49, 50, 51, 52, 53, 54, 55, 56, 57, 65, 66, 67, 68, 69, 70]⟩ : ByteArray).size) :
    UInt8.ofNat (((⟨#[48, 49, 50, 51, 52, 53, 54, 55, 56, 57, 65, 66, 67, 68, 69, 70]⟩ : ByteArray)[n.toNat]'h).toNat : Int).toNat = hexD n := by
  have : n = 0 ∨ n = 1 ∨ n = 2 ∨ n = 3 ∨ n = 4 ∨ n = 5 ∨ n = 6 ∨ n = 7 ∨ n = 8 ∨ n = 9 ∨ n = 10 ∨ n = 11 ∨ n = 12 ∨ n = 13 ∨ n = 14 ∨ n = 15 := by omega
  rcases this with rfl | rfl | rfl | rfl | rfl | rfl | rfl | rfl | rfl | rfl | rfl | rfl | rfl | rfl | rfl | rfl <;> rfl

set_option maxHeartbeats 400000 in
theorem Byte_calls (c : Int) (h0 : 0 ≤ c) (h1 : c ≤ 255) (w : World) : Calls Tryz.prog 163 #[.int .u8 c] w fun e w' => e = .returned (.string ⟨(byteL c).toArray⟩) ∧ Below w.heap.size w w' := by
  go_enter Tryz.func163, Tryz.ntmps163
  have b1 : 0 ≤ c / 16 := by omega
  have b2 : c / 16 < 16 := by omega
  have b3 : 0 ≤ c % 16 := by omega
  have b4 : c % 16 < 16 := by omega
  have hcv : ∀ x y z : Int, (convert 138 9 (.slice (some ⟨w.heap.size, 0, none⟩) 3 3)).run Tryz.prog (w.alloc (.cells #[.int .u8 x, .int .u8 y, .int .u8 z] 5)).drew = .ok (.string (strOfNums [x, y, z])) (w.alloc (.cells #[.int .u8 x, .int .u8 y, .int .u8 z] 5)).drew := fun x y z =>
    run_convert_bytes_arg _ 138 5 Tryz.underlying138 Tryz.underlying5 w.heap.size 0 3 3 [x, y, z] rfl (by
      intro i hi
      have : i = 0 ∨ i = 1 ∨ i = 2 := by omega
      rcases this with rfl | rfl | rfl <;> simp) 9 Tryz.underlying9
  go_wp2
  go_region
  go_wp2
  go_ret
  refine ⟨ret_string ?_, ((Below.refl _ _).alloc (Nat.le_refl _) _).drew⟩
  simp only [strOfNums, List.map_cons, List.map_nil, byteL, hex_at (c / 16) b1 b2, hex_at (c % 16) b3 b4]
  rfl

/-- Is a code point in a set? -/
def inSet (s r : Int) : Bool := if 5 < s then false else decide (r < 32) || decide (126 < r) || hasRune (marks s) r
set_option maxHeartbeats 400000 in
theorem In_calls (s r : Int) (w : World) : Calls Tryz.prog 162 #[.int .u8 s, .int .i32 r] w fun e w' => e = .returned (.bool (inSet s r)) ∧ Below w.heap.size w w' := by
  by_cases h5 : 5 < s
  · go_enter Tryz.func162, Tryz.ntmps162
    go_wp2
    go_ret
    exact ⟨by simp [inSet, h5], Below.refl _ _⟩
  · by_cases h32 : r < 32
    · go_enter Tryz.func162, Tryz.ntmps162
      go_wp2
      go_ret
      exact ⟨by simp [inSet, h5, h32], Below.refl _ _⟩
    · by_cases h126 : 126 < r
      · go_enter Tryz.func162, Tryz.ntmps162
        go_wp2
        go_ret
        exact ⟨by simp [inSet, h5, h126], Below.refl _ _⟩
      · have e : inSet s r = hasRune (marks s) r := by simp [inSet, h5, h32, h126]
        have E := Lib.hid e
        clear e
        go_enter Tryz.func162, Tryz.ntmps162
        go_wp2_with fail
        refine (marks_calls s _).mono ?_
        rintro e w1 ⟨rfl, rfl⟩
        go_wp2_with fail
        refine (hasRune_calls _ r _).mono ?_
        rintro e w1 ⟨rfl, hb⟩
        go_wp2
        go_ret
        exact ⟨by rw [E.out]; rfl, hb⟩
end Go.Proofs.YtfieiigefllekaaGreatDoor

/- scalar.Text: a Builder in a range over a slice. -/
namespace Go.Proofs.YtfieiigefllekaaGreatDoor
open Go.RowKit Go.Proofs.YtfieiigefllekaaGreatDoorW.PrintWords Go.Proofs.YtfieiigefllekaaGreatDoorW.PrintLast Go.Proofs.YtfieiigefllekaaGreatDoorW.PrintMore

set_option maxHeartbeats 400000 in
theorem scalar_Text_calls (A : Option Addr) (c : Nat) (l : List Int) (w : World) (hr : Kd.C (Kd.int .i32) w A l.length l) (hb : ∀ x ∈ l, -2147483648 ≤ x ∧ x ≤ 2147483647) (hl : l.length ≤ 1000000) :
    Calls Tryz.prog 161 #[.slice A l.length c] w fun e w' => e = .returned (.string (textOf l)) ∧ Below w.heap.size w w' := by
  have Hb := Lib.hid hb
  clear hb
  obtain ⟨ad, hA⟩ : ∃ ad : Addr, 0 < l.length → A = some ad := by
    by_cases h : 0 < l.length
    · obtain ⟨ad, e⟩ := C_some hr h
      exact ⟨ad, fun _ => e⟩
    · exact ⟨⟨0, 0, none⟩, fun h' => absurd h' h⟩
  have HA := Lib.hid hA
  have Hr := Lib.hid hr
  clear hA hr
  go_enter Tryz.func161, Tryz.ntmps161
  go_wp2
  go_loopw [8] (fun i wr => ∃ (j : Nat), i = .int .i64 j ∧ j ≤ l.length ∧ Aside0 (Lib.IsBuilderF 140 5 w.heap.size w.heap.size (Lib.byteCells (textL (l.take j))) wr) ∧ Aside0 (Below w.heap.size w wr)) (fun i _ => l.length - (intOf i).toNat)
  case atStart =>
    exact ⟨0, rfl, Nat.zero_le _, ⟨Lib.IsBuilderF.of (Lib.fresh_isBuilder 140 5 w)⟩, ⟨(Below.refl _ w).alloc (Nat.le_refl _) _⟩⟩
  case round =>
    obtain ⟨j, rfl, hj, HI, HB⟩ := hrel
    by_cases hlt : j < l.length
    · have hA := HA.out (by omega)
      subst hA
      have hcell := C_int_at (Kd.C_below Hr.out HB.out) j hlt
      have hbj := Hb.out _ (List.getElem_mem hlt)
      have hl4 := textL_length (l.take j)
      have hlj : (l.take j).length = j := by rw [List.length_take]; omega
      rw [hlj] at hl4
      have hsz := HB.out.size
      clear hlj
      go_wp2_with fail
      refine (Tryz.Builder_WriteRune_k w.heap.size w.heap.size _ _ hbj.1 hbj.2 _ HI.out (by rw [Lib.byteCells_length]; omega) hsz).mono ?_
      rintro e W1 ⟨rfl, h1, b1, _⟩
      have H1 := Aside0.mk h1
      have HB1 := Aside0.mk (HB.out.trans b1)
      clear h1 b1 HI HB
      go_wp2
      refine ⟨⟨j + 1, by go_num, by omega, ⟨?_⟩, HB1⟩, by simp [intOf]; omega⟩
      rw [List.take_succ_eq_append_getElem hlt, textL_snoc, Lib.byteCells_append, Lib.byteCells_encodeRune]
      exact Or.inr H1.out
    · have he : l.take j = l := List.take_of_length_le (by omega)
      have hsz := HB.out.size
      have HI2 := HI.out
      rw [he] at HI2
      have HI3 := Aside0.mk HI2
      clear he HI2 HI
      go_wp2_with fail
      refine (Tryz.Builder_String_any_k w.heap.size w.heap.size _ _ HI3.out hsz).mono ?_
      rintro e W1 ⟨rfl, _, b1, _⟩
      go_wp2
      go_ret
      exact ⟨rfl, HB.out.trans b1⟩
/-- Of one code point that was just laid. -/
theorem Text_one (r : Int) (h0 : -2147483648 ≤ r) (h1 : r ≤ 2147483647) (w : World) :
    Calls Tryz.prog 161 #[.slice (some ⟨w.heap.size, 0, none⟩) 1 1] (w.alloc (.cells #[.int .i32 r] 21)) fun e w' => ∃ q : ByteArray, Aside0 (q.data.toList = Lib.encodeRune r) ∧ e = .returned (.string q) ∧ Below (w.heap.size + 1) (w.alloc (.cells #[.int .i32 r] 21)) w' := by
  refine (scalar_Text_calls (some ⟨w.heap.size, 0, none⟩) 1 [r] _ (C_one .i32 w r _) (by simpa using ⟨h0, h1⟩) (by simp)).mono ?_
  rintro e w' ⟨rfl, hb⟩
  refine ⟨_, ⟨?_⟩, rfl, ?_⟩
  · simp [textOf, textL]
  · simpa using hb

def scalar_Text.f (l0 : List Int) : Option ByteArray := if l0.length ≤ 1000000 ∧ ∀ x ∈ l0, -2147483648 ≤ x ∧ x ≤ 2147483647 then some (textOf l0) else none
theorem scalar_Text.calls (A0 : Option Addr) (c0 : Nat) (l0 : List Int) (r : ByteArray) (w : World) (hr0 : Kd.C (Kd.int .i32) w A0 l0.length l0) (_hc0 : l0.length ≤ c0) (h : scalar_Text.f l0 = some r) :
    Calls Tryz.prog 161 #[.slice A0 l0.length c0] w fun e w' => e = .returned (.string r) ∧ Below w.heap.size w w' := by
  unfold scalar_Text.f at h
  by_cases hs : l0.length ≤ 1000000 ∧ ∀ x ∈ l0, -2147483648 ≤ x ∧ x ≤ 2147483647
  · rw [if_pos hs] at h
    obtain rfl := Option.some.inj h
    exact scalar_Text_calls A0 c0 l0 w hr0 hs.2 hs.1
  · rw [if_neg hs] at h
    cases h
end Go.Proofs.YtfieiigefllekaaGreatDoor

/- percent.Encode: a Builder in a range over a string, with a loop inside. -/
namespace Go.Proofs.YtfieiigefllekaaGreatDoor
open Go.RowKit Go.Proofs.YtfieiigefllekaaGreatDoorW.PrintWords Go.Proofs.YtfieiigefllekaaGreatDoorW.PrintMore

/-- What a code point is written as, by a set. -/
def encOne (s r : Int) : List UInt8 := if inSet s r = true then (Lib.encodeRune r).flatMap (fun b => byteL (b.toNat : Int)) else Lib.encodeRune r
def encL (s : Int) (l : List Int) : List UInt8 := l.flatMap (encOne s)
def encOf (s : Int) (t : ByteArray) : ByteArray := ⟨(encL s (rn t)).toArray⟩
theorem encL_snoc (s : Int) (l : List Int) (r : Int) : encL s (l ++ [r]) = encL s l ++ encOne s r := by simp [encL]
theorem byteL_length (c : Int) : (byteL c).length = 3 := rfl
theorem bytesL_length (l : List UInt8) : (l.flatMap (fun b => byteL (b.toNat : Int))).length = 3 * l.length := by
  induction l with
  | nil => rfl
  | cons x l ih => simp only [List.flatMap_cons, List.length_append, byteL_length, ih, List.length_cons]; omega
theorem encOne_length (s r : Int) : (encOne s r).length ≤ 12 := by
  have := encodeRune_length r
  unfold encOne
  split
  · rw [bytesL_length]; omega
  · omega
theorem encL_length (s : Int) (l : List Int) : (encL s l).length ≤ 12 * l.length := by
  induction l with
  | nil => simp [encL]
  | cons r l ih =>
    have := encOne_length s r
    simp only [encL, List.flatMap_cons, List.length_append, List.length_cons] at *
    omega

set_option maxHeartbeats 1000000 in
theorem Encode_calls (s : Int) (t : ByteArray) (w : World) (ht : t.size ≤ 1000000) :
    Calls Tryz.prog 158 #[.int .u8 s, .string t] w fun e w' => e = .returned (.string (encOf s t)) ∧ Below w.heap.size w w' := by
  go_enter Tryz.func158, Tryz.ntmps158
  go_wp2
  go_loopw [] (fun wr => ∃ (pos f : Nat) (l : List Int), wr.heap[w.heap.size + 1]? = some (.stringIter t pos) ∧ Aside0 (l ++ rnF t f pos = rn t) ∧ t.size ≤ pos + f ∧ l.length ≤ pos ∧ Aside0 (Lib.IsBuilderF 140 5 w.heap.size w.heap.size (Lib.byteCells (encL s l)) wr) ∧ Aside0 (Below w.heap.size w wr)) (fun wr => t.size - wr.iterPos (w.heap.size + 1))
  case atStart =>
    refine ⟨0, t.size, [], ?_, ⟨rfl⟩, by omega, by simp, ⟨(Lib.IsBuilderF.of (Lib.fresh_isBuilder 140 5 w)).alloc _⟩, ⟨((Below.refl _ w).alloc (Nat.le_refl _) _).alloc (by simp) _⟩⟩
    have := World.iter_heap (w.alloc (.cells #[.pointer none, .slice none 0 0] 140)) t 0
    simpa using this
  case round =>
    obtain ⟨pos, f, l, hit, hr, hf, hl, HI, HB⟩ := hrel
    have hsz : w.heap.size + 1 < wr.heap.size := (Array.getElem?_eq_some_iff.1 hit).1
    have hll := encL_length s l
    by_cases hp : pos < t.size
    · have hnx : ∀ ty, (Instr.next (.pointer (some ⟨w.heap.size + 1, 0, none⟩)) true ty).run Tryz.prog wr = _ := fun ty => Lib.run_next_any_at wr (w.heap.size + 1) t pos ty hit hp
      have hwd := width_pos t pos hp
      have hd1 := decode_le t pos
      obtain ⟨g, rfl, hg0⟩ := rnF_step t f pos hp hf
      have hg1 := Aside0.mk hg0
      clear hg0
      have hit2 := Aside0.mk (Lib.iterAt_heap wr (w.heap.size + 1) t pos (pos + (Utf8.decode t pos).2) hit)
      have HI2 := Aside0.mk (HI.out.iterAt hit (pos + (Utf8.decode t pos).2))
      have HB2 := Aside0.mk (Lib.below_iterAt HB.out (k := w.heap.size + 1) (by omega) t (pos + (Utf8.decode t pos).2))
      have hsz2 : w.heap.size + 1 < (wr.iterAt (w.heap.size + 1) t (pos + (Utf8.decode t pos).2)).heap.size := by rw [Lib.iterAt_size]; omega
      clear HI HB
      generalize hW : wr.iterAt (w.heap.size + 1) t (pos + (Utf8.decode t pos).2) = W at hnx hit2 HI2 HB2 hsz2
      have HW := Lib.hid hW
      clear hW
      go_wp2_with fail
      refine (Text_one _ (by omega) (by omega) _).mono ?_
      rintro e W1 ⟨q, hq, rfl, b1⟩
      have b1' : Below (W.alloc (.cells #[.int .i32 (Utf8.decode t pos).1] 21)).heap.size (W.alloc (.cells #[.int .i32 (Utf8.decode t pos).1] 21)) W1 := by simpa using b1
      have HI3 := Aside0.mk (IsBuilderF_below (HI2.out.alloc _) b1')
      have HB3 := Aside0.mk (below_then (HB2.out.alloc (by omega) (.cells #[.int .i32 (Utf8.decode t pos).1] 21)) (by simp; omega) b1')
      have hit3 := Aside0.mk (iter_below b1' ((Lib.alloc_old W _ _ (by omega)).trans hit2.out))
      have hsz3 : w.heap.size + 1 < W1.heap.size := by have := b1'.size; simp at this; omega
      have hqs : q.size ≤ 4 := by have := encodeRune_length (Utf8.decode t pos).1; rw [← hq.out] at this; simpa using this
      clear HI2 HB2 hit2 b1 b1'
      go_wp2_with fail
      refine (In_calls s _ _).mono ?_
      rintro e W2 ⟨rfl, b2⟩
      have HI4 := Aside0.mk (IsBuilderF_below HI3.out b2)
      have HB4 := Aside0.mk (below_then HB3.out (by omega) b2)
      have hit4 := Aside0.mk (iter_below b2 hit3.out)
      have hsz4 : w.heap.size + 1 < W2.heap.size := by have := b2.size; omega
      clear HI3 HB3 hit3 b2
      have hlr : l ++ [((Utf8.decode t pos).1 : Int)] ++ rnF t g (pos + (Utf8.decode t pos).2) = rn t := by
        have := hr.out; rw [hg1.out] at this; rw [← this, List.append_assoc]; rfl
      have Hlr := Aside0.mk hlr
      clear hlr
      cases hin : inSet s ((Utf8.decode t pos).1 : Int)
      · have Hin := Lib.hid hin
        clear hin
        go_wp2_with fail
        refine (Tryz.Builder_WriteString_k w.heap.size w.heap.size _ q _ HI4.out (by rw [Lib.byteCells_length]; omega) (by omega)).mono ?_
        rintro e W3 ⟨rfl, h3, b3, k3⟩
        go_wp2
        have hit5 := k3.iter hit4.out (by omega)
        refine ⟨⟨pos + (Utf8.decode t pos).2, g, l ++ [((Utf8.decode t pos).1 : Int)], hit5, Hlr, by omega, by simp; omega, ⟨?_⟩, ⟨HB4.out.trans b3⟩⟩, ?_⟩
        · rw [encL_snoc, Lib.byteCells_append, encOne, Hin.out, ← hq.out]
          exact Or.inr h3
        · simp only [World.iterPos, hit5, hit]
          omega
      · have Hin := Lib.hid hin
        clear hin
        go_wp2
        go_loopw [26] (fun i wi => ∃ (j : Nat), i = .int .i64 j ∧ j ≤ q.size ∧ Aside0 (wi.heap[w.heap.size + 1]? = some (.stringIter t (pos + (Utf8.decode t pos).2))) ∧ Aside0 (Lib.IsBuilderF 140 5 w.heap.size w.heap.size (Lib.byteCells (encL s l ++ (q.data.toList.take j).flatMap (fun b => byteL (b.toNat : Int)))) wi) ∧ Aside0 (Below w.heap.size w wi)) (fun i _ => q.size - (intOf i).toNat)
        case atStart => exact ⟨0, rfl, Nat.zero_le _, hit4, ⟨by simpa using HI4.out⟩, HB4⟩
        case round =>
          clear HI4 HB4 hit4 hsz4 hsz3 hsz2 hsz
          obtain ⟨j, rfl, hj, hit5, HI5, HB5⟩ := hrel
          have hsz5 : w.heap.size + 1 < wr.heap.size := (Array.getElem?_eq_some_iff.1 hit5.out).1
          have hlj := bytesL_length (q.data.toList.take j)
          have hlj2 : (q.data.toList.take j).length ≤ 4 := by rw [List.length_take]; simp; omega
          by_cases hlt : j < q.size
          · have hb0 := (q[j]'hlt).toNat_lt
            go_wp2_with fail
            refine (Byte_calls _ (by omega) (by omega) _).mono ?_
            rintro e W3 ⟨rfl, b3⟩
            have HI6 := Aside0.mk (IsBuilderF_below HI5.out b3)
            have HB6 := Aside0.mk (below_then HB5.out (by omega) b3)
            have hit6 := Aside0.mk (iter_below b3 hit5.out)
            have hsz6 : w.heap.size + 1 < W3.heap.size := by have := b3.size; omega
            go_wp2_with fail
            refine (Tryz.Builder_WriteString_k w.heap.size w.heap.size _ _ _ HI6.out (by rw [Lib.byteCells_length, List.length_append, hlj]; show _ + 3 ≤ _; omega) (by omega)).mono ?_
            rintro e W4 ⟨rfl, h4, b4, k4⟩
            go_wp2
            refine ⟨⟨j + 1, by go_num, by omega, ⟨k4.iter hit6.out (by omega)⟩, ⟨?_⟩, ⟨HB6.out.trans b4⟩⟩, by simp [intOf]; omega⟩
            rw [take_byte q j hlt, List.flatMap_append, ← List.append_assoc, Lib.byteCells_append]
            refine Or.inr ?_
            rw [Lib.strCells_eq] at h4
            simpa using h4
          · have hqe : q.data.toList.take j = q.data.toList := List.take_of_length_le (by simp; omega)
            have HI6 := HI5.out
            rw [hqe, hq.out] at HI6
            have HI7 := Aside0.mk HI6
            clear hqe HI6
            go_wp2
            refine ⟨⟨pos + (Utf8.decode t pos).2, g, l ++ [((Utf8.decode t pos).1 : Int)], hit5.out, Hlr, by omega, by simp; omega, ⟨?_⟩, HB5⟩, ?_⟩
            · rw [encL_snoc, encOne, if_pos Hin.out]
              exact HI7.out
            · simp only [World.iterPos, hit5.out, hit]
              omega
    · have hnx : ∀ ty, (Instr.next (.pointer (some ⟨w.heap.size + 1, 0, none⟩)) true ty).run Tryz.prog wr = _ := fun ty => Lib.run_next_end_at wr (w.heap.size + 1) t pos ty hit hp
      have he := hr.out
      rw [rnF_end t f pos hp, List.append_nil] at he
      have He := Lib.hid he
      clear he
      go_wp2_with fail
      refine (Tryz.Builder_String_any_k w.heap.size w.heap.size _ _ HI.out (by omega)).mono ?_
      rintro e W1 ⟨rfl, _, b1, _⟩
      go_wp2
      go_ret
      exact ⟨ret_string (by rw [encOf, He.out]), HB.out.trans b1⟩
end Go.Proofs.YtfieiigefllekaaGreatDoor

/- slices.Equal of code points; the examples of the chapters 1 and 2. -/
namespace Go.Proofs.YtfieiigefllekaaGreatDoor
open Go.RowKit Go.Proofs.YtfieiigefllekaaGreatDoorW.PrintWords Go.Proofs.YtfieiigefllekaaGreatDoorW.PrintMore

theorem eq_of_take (l m : List Int) (h : l.length = m.length) (j : Nat) (hj : l.length ≤ j) (he : l.take j = m.take j) : l = m := by
  rw [List.take_of_length_le hj, List.take_of_length_le (by omega)] at he
  exact he

set_option maxHeartbeats 1000000 in
theorem EqualRune_calls (A B : Option Addr) (c d : Nat) (l m : List Int) (w : World) (hl : Kd.C (Kd.int .i32) w A l.length l) (hm : Kd.C (Kd.int .i32) w B m.length m) (hlen : l.length ≤ 1000000) (hlen2 : m.length ≤ 1000000) :
    Calls Tryz.prog 165 #[.slice A l.length c, .slice B m.length d] w fun e w' => e = .returned (.bool (decide (l = m))) ∧ Drawn0 w w' := by
  by_cases hne : l.length = m.length
  · have h1 : ((l.length : Int) != (m.length : Int)) = false := by simp [hne]
    have h2 : (l.length != m.length) = false := by simp [hne]
    have Hne := Lib.hid hne
    have HL := Lib.hid hl
    have HM := Lib.hid hm
    have hA : ∃ ad : Addr, 0 < l.length → A = some ad := by
      by_cases h : 0 < l.length
      · obtain ⟨ad, e⟩ := C_some hl h
        exact ⟨ad, fun _ => e⟩
      · exact ⟨⟨0, 0, none⟩, fun h' => absurd h' h⟩
    have hB : ∃ ad : Addr, 0 < l.length → B = some ad := by
      by_cases h : 0 < l.length
      · obtain ⟨ad, e⟩ := C_some hm (by omega)
        exact ⟨ad, fun _ => e⟩
      · exact ⟨⟨0, 0, none⟩, fun h' => absurd h' h⟩
    obtain ⟨ad, hA⟩ := hA
    obtain ⟨bd, hB⟩ := hB
    have HA := Lib.hid hA
    have HB := Lib.hid hB
    clear hl hm hA hB hne
    go_enter Tryz.func165, Tryz.ntmps165
    go_wp2
    go_loopw [13] (fun i wr => ∃ (j : Nat), i = .int .i64 j ∧ j ≤ l.length ∧ Aside0 (l.take j = m.take j) ∧ Aside0 (Drawn0 w wr)) (fun i _ => l.length - (intOf i).toNat)
    case atStart => exact ⟨0, rfl, by omega, ⟨rfl⟩, ⟨Drawn0.refl _⟩⟩
    case round =>
      obtain ⟨j, rfl, hj, hr, HD⟩ := hrel
      by_cases hlt : j < l.length
      · have hA := HA.out (by omega)
        have hB := HB.out (by omega)
        subst hA hB
        have hlt2 : j < m.length := by have := Hne.out; omega
        have c1 := C_int_at (Kd.C_below HL.out HD.out.below) j hlt
        have c2 := C_int_at (Kd.C_below HM.out HD.out.below) j hlt2
        have i1 : 0 ≤ (j : Int) := by omega
        have i2 : (j : Int) < (l.length : Int) := by omega
        have i3 : (j : Int) < (m.length : Int) := by omega
        cases hx : (l[j] != m[j])
        · have HX := Lib.hid hx
          go_wp2_with fail
          go_quiet (fail)
          go_wp2_with fail
          refine ⟨⟨j + 1, by go_num, by omega, ⟨?_⟩, ⟨HD.out.step _⟩⟩, by simp [intOf]; omega⟩
          have := HX.out
          rw [bne_eq_false_iff_eq] at this
          rw [List.take_succ_eq_append_getElem hlt, List.take_succ_eq_append_getElem hlt2, hr.out, this]
        · have HX := Lib.hid hx
          go_wp2_with fail
          go_quiet (fail)
          go_wp2_with fail
          go_ret
          refine ⟨ret_bool ?_, HD.out.step _⟩
          have := HX.out
          rw [bne_iff_ne] at this
          rw [eq_comm, decide_eq_false_iff_not]
          rintro rfl
          exact this rfl
      · go_wp2_with fail
        go_ret
        refine ⟨ret_bool ?_, HD.out⟩
        rw [eq_comm, decide_eq_true_eq]
        exact eq_of_take l m Hne.out j (by omega) hr.out
  · have h1 : ((l.length : Int) != (m.length : Int)) = true := by simp; omega
    have h2 : (l.length != m.length) = true := by simp; omega
    have Hne := Lib.hid hne
    clear hne
    go_enter Tryz.func165, Tryz.ntmps165
    go_wp2
    go_ret
    refine ⟨ret_bool ?_, Drawn0.refl _⟩
    rw [eq_comm, decide_eq_false_iff_not]
    rintro rfl
    exact Hne.out rfl

theorem rn_example : rn ⟨#[97, 255, 98]⟩ = [97, 65533, 98] := by decide +kernel
theorem enc_example : encOf 4 ⟨#[97, 32, 98]⟩ = ⟨#[97, 37, 50, 48, 98]⟩ := by decide +kernel
theorem dec_example : decL [37, 50, 53, 52, 49] = [37, 52, 49] := by decide +kernel

set_option maxHeartbeats 1000000 in
theorem awake1_calls (w : World) : Calls Tryz.prog 160 #[] w fun e w' => e = .returned (.bool true) ∧ Below w.heap.size w w' := by
  go_enter Tryz.func160, Tryz.ntmps160
  go_wp2_with fail
  refine (scalar_Scalars_calls _ _ (by decide)).mono ?_
  rintro e w1 ⟨v, rfl, hv, hb⟩
  rw [rn_example] at hv
  obtain ⟨A, c, rfl, _, hC⟩ := Kd.R_reads hv
  have HC := Lib.hid hC
  have HB := Aside0.mk hb
  clear hv hC hb
  go_wp2_with fail
  refine (EqualRune_calls A (some ⟨w1.heap.size, 0, none⟩) c 3 [97, 65533, 98] [97, 65533, 98] _ (Kd.C_below HC.out ((Below.refl _ _).alloc (Nat.le_refl _) _)) (C_new .i32 w1 [97, 65533, 98] _ (by decide)) (by decide) (by decide)).mono ?_
  rintro e w2 ⟨rfl, hd⟩
  go_wp2
  go_ret
  have hs := HB.out.size
  exact ⟨rfl, below_then (HB.out.alloc hs _) (by simp; omega) hd.below⟩

theorem Awake1_calls (w : World) : Calls Tryz.prog 157 #[] w fun e w' => e = .returned (.bool true) ∧ Below w.heap.size w w' := by
  go_enter Tryz.func157, Tryz.ntmps157
  go_wp2_with fail
  refine (awake1_calls _).mono ?_
  rintro e w1 ⟨rfl, hb⟩
  go_wp2
  go_ret
  exact ⟨rfl, hb⟩

set_option maxHeartbeats 1000000 in
theorem awake2_calls (w : World) : Calls Tryz.prog 154 #[] w fun e w' => e = .returned (.bool true) ∧ Below w.heap.size w w' := by
  go_enter Tryz.func154, Tryz.ntmps154
  go_wp2_with fail
  refine (Awake1_calls _).mono ?_
  rintro e w1 ⟨rfl, hb⟩
  go_wp2_with fail
  refine (Encode_calls 4 _ _ (by decide)).mono ?_
  rintro e w2 ⟨rfl, hb2⟩
  rw [enc_example]
  go_wp2_with fail
  refine (Decode_calls _ (by decide) _).mono ?_
  rintro e w3 ⟨rfl, hb3⟩
  rw [show (ByteArray.mk #[37, 50, 53, 52, 49]).data.toList = [37, 50, 53, 52, 49] from rfl, dec_example]
  go_wp2
  go_ret
  exact ⟨rfl, below_then (below_then hb hb.size hb2) (Nat.le_trans hb.size hb2.size) hb3⟩

theorem Awake2_calls (w : World) : Calls Tryz.prog 154 #[] w fun e w' => e = .returned (.bool true) ∧ Below w.heap.size w w' := awake2_calls w
end Go.Proofs.YtfieiigefllekaaGreatDoor

/- The chapters' examples of layers 2 and 3, walked. -/
namespace Go.Proofs.YtfieiigefllekaaGreatDoor
open Go.RowKit Go.Proofs.YtfieiigefllekaaGreatDoorW.PrintWords Go.Proofs.YtfieiigefllekaaGreatDoorW.PrintMore

theorem parse_x1 : parseN [48, 120, 55, 102] = 127 ∧ parseOk [48, 120, 55, 102] = true := by decide +kernel
theorem parse_x2 : parseN [48, 49, 55] = 15 ∧ parseOk [48, 49, 55] = true := by decide +kernel
theorem parse_x3 : parseOk [48, 56] = false := by decide +kernel
theorem ends_x : endsL [97, 46, 48, 120] = true := by decide +kernel

theorem AwakeL2_calls (w : World) : Calls Tryz.prog 145 #[] w fun e w' => e = .returned (.bool true) ∧ Below w.heap.size w w' := by
  go_enter Tryz.func145, Tryz.ntmps145
  go_wp2_with fail
  refine (awake2_calls _).mono ?_
  rintro e w1 ⟨rfl, hb⟩
  go_wp2
  go_ret
  exact ⟨rfl, hb⟩

set_option maxHeartbeats 1000000 in
theorem awake3_calls (w : World) : Calls Tryz.prog 127 #[] w fun e w' => e = .returned (.bool true) ∧ Below w.heap.size w w' := by
  go_enter Tryz.func127, Tryz.ntmps127
  go_wp2_with fail
  refine (Parse_calls _ (by decide) _).mono ?_
  rintro e w1 ⟨rfl, b1⟩
  rw [show (ByteArray.mk #[48, 120, 55, 102]).data.toList = [48, 120, 55, 102] from rfl, parse_x1.1, parse_x1.2]
  go_wp2_with fail
  refine (Parse_calls _ (by decide) _).mono ?_
  rintro e w2 ⟨rfl, b2⟩
  rw [show (ByteArray.mk #[48, 49, 55]).data.toList = [48, 49, 55] from rfl, parse_x2.1, parse_x2.2]
  go_wp2_with fail
  refine (Parse_calls _ (by decide) _).mono ?_
  rintro e w3 ⟨rfl, b3⟩
  rw [show (ByteArray.mk #[48, 56]).data.toList = [48, 56] from rfl, parse_x3]
  go_wp2_with fail
  refine (AwakeL2_calls _).mono ?_
  rintro e w4 ⟨rfl, b4⟩
  go_wp2_with fail
  refine (Ends_calls _ _ (by decide)).mono ?_
  rintro e w5 ⟨rfl, b5⟩
  rw [show (ByteArray.mk #[97, 46, 48, 120]).data.toList = [97, 46, 48, 120] from rfl, ends_x]
  go_wp2
  go_ret
  have B2 := below_then b1 b1.size b2
  have B3 := below_then B2 B2.size b3
  have B4 := below_then B3 B3.size b4
  exact ⟨rfl, below_then B4 B4.size b5⟩
end Go.Proofs.YtfieiigefllekaaGreatDoor
