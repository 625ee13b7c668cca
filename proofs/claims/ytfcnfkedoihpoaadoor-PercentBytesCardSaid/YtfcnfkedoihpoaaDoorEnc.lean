/- percent.Encode: a Builder in a range over a string, with a loop inside. -/
import Derived.Test.YtfcnfkedoihpoaaDoorBase
import Derived.Test.YtfcnfkedoihpoaaDoorByte
import Derived.Test.YtfcnfkedoihpoaaDoorText
namespace Go.Proofs.YtfcnfkedoihpoaaDoor
open Go.RowKit Go.Proofs.YtfcnfkedoihpoaaDoorW.PrintWords Go.Proofs.YtfcnfkedoihpoaaDoorW.PrintMore

/-- What a code point is written as, by a set. -/
def encOne (s r : Int) : List UInt8 := if inSet s r = true then (Lib.encodeRune r).flatMap (fun b => byteL (b.toNat : Int)) else Lib.encodeRune r
def encL (s : Int) (l : List Int) : List UInt8 := l.flatMap (encOne s)
def encOf (s : Int) (t : ByteArray) : ByteArray := ⟨(encL s (rn t)).toArray⟩
theorem encL_snoc (s : Int) (l : List Int) (r : Int) : encL s (l ++ [r]) = encL s l ++ encOne s r := by simp [encL]
theorem byteL_length (c : Int) : (byteL c).length = 3 := rfl
theorem bytesL_length (l : List UInt8) : (l.flatMap (fun b => byteL (b.toNat : Int))).length = 3 * l.length := by
  induction l with
  | nil => rfl
  | cons x l ih => simp only [List.flatMap_cons, List.length_append, byteL_length, ih, List.length_cons]; omega
theorem encOne_length (s r : Int) : (encOne s r).length ≤ 12 := by
  have := encodeRune_length r
  unfold encOne
  split
  · rw [bytesL_length]; omega
  · omega
theorem encL_length (s : Int) (l : List Int) : (encL s l).length ≤ 12 * l.length := by
  induction l with
  | nil => simp [encL]
  | cons r l ih =>
    have := encOne_length s r
    simp only [encL, List.flatMap_cons, List.length_append, List.length_cons] at *
    omega

set_option maxHeartbeats 1000000 in
theorem Encode_calls (s : Int) (t : ByteArray) (w : World) (ht : t.size ≤ 1000000) :
    Calls Tryd.prog 30 #[.int .u8 s, .string t] w fun e w' => e = .returned (.string (encOf s t)) ∧ Below w.heap.size w w' := by
  go_enter Tryd.func30, Tryd.ntmps30
  go_wp2
  go_loopw [] (fun wr => ∃ (pos f : Nat) (l : List Int), wr.heap[w.heap.size + 1]? = some (.stringIter t pos) ∧ Aside0 (l ++ rnF t f pos = rn t) ∧ t.size ≤ pos + f ∧ l.length ≤ pos ∧ Aside0 (Lib.IsBuilderF 64 5 w.heap.size w.heap.size (Lib.byteCells (encL s l)) wr) ∧ Aside0 (Below w.heap.size w wr)) (fun wr => t.size - wr.iterPos (w.heap.size + 1))
  case atStart =>
    refine ⟨0, t.size, [], ?_, ⟨rfl⟩, by omega, by simp, ⟨(Lib.IsBuilderF.of (Lib.fresh_isBuilder 64 5 w)).alloc _⟩, ⟨((Below.refl _ w).alloc (Nat.le_refl _) _).alloc (by simp) _⟩⟩
    have := World.iter_heap (w.alloc (.cells #[.pointer none, .slice none 0 0] 64)) t 0
    simpa using this
  case round =>
    obtain ⟨pos, f, l, hit, hr, hf, hl, HI, HB⟩ := hrel
    have hsz : w.heap.size + 1 < wr.heap.size := (Array.getElem?_eq_some_iff.1 hit).1
    have hll := encL_length s l
    by_cases hp : pos < t.size
    · have hnx : ∀ ty, (Instr.next (.pointer (some ⟨w.heap.size + 1, 0, none⟩)) true ty).run Tryd.prog wr = _ := fun ty => Lib.run_next_any_at wr (w.heap.size + 1) t pos ty hit hp
      have hwd := width_pos t pos hp
      have hd1 := decode_le t pos
      obtain ⟨g, rfl, hg0⟩ := rnF_step t f pos hp hf
      have hg1 := Aside0.mk hg0
      clear hg0
      have hit2 := Aside0.mk (Lib.iterAt_heap wr (w.heap.size + 1) t pos (pos + (Utf8.decode t pos).2) hit)
      have HI2 := Aside0.mk (HI.out.iterAt hit (pos + (Utf8.decode t pos).2))
      have HB2 := Aside0.mk (Lib.below_iterAt HB.out (k := w.heap.size + 1) (by omega) t (pos + (Utf8.decode t pos).2))
      have hsz2 : w.heap.size + 1 < (wr.iterAt (w.heap.size + 1) t (pos + (Utf8.decode t pos).2)).heap.size := by rw [Lib.iterAt_size]; omega
      clear HI HB
      generalize hW : wr.iterAt (w.heap.size + 1) t (pos + (Utf8.decode t pos).2) = W at hnx hit2 HI2 HB2 hsz2
      have HW := Lib.hid hW
      clear hW
      go_wp2_with fail
      refine (Text_one _ (by omega) (by omega) _).mono ?_
      rintro e W1 ⟨q, hq, rfl, b1⟩
      have b1' : Below (W.alloc (.cells #[.int .i32 (Utf8.decode t pos).1] 21)).heap.size (W.alloc (.cells #[.int .i32 (Utf8.decode t pos).1] 21)) W1 := by simpa using b1
      have HI3 := Aside0.mk (IsBuilderF_below (HI2.out.alloc _) b1')
      have HB3 := Aside0.mk (below_then (HB2.out.alloc (by omega) (.cells #[.int .i32 (Utf8.decode t pos).1] 21)) (by simp; omega) b1')
      have hit3 := Aside0.mk (iter_below b1' ((Lib.alloc_old W _ _ (by omega)).trans hit2.out))
      have hsz3 : w.heap.size + 1 < W1.heap.size := by have := b1'.size; simp at this; omega
      have hqs : q.size ≤ 4 := by have := encodeRune_length (Utf8.decode t pos).1; rw [← hq.out] at this; simpa using this
      clear HI2 HB2 hit2 b1 b1'
      go_wp2_with fail
      refine (In_calls s _ _).mono ?_
      rintro e W2 ⟨rfl, b2⟩
      have HI4 := Aside0.mk (IsBuilderF_below HI3.out b2)
      have HB4 := Aside0.mk (below_then HB3.out (by omega) b2)
      have hit4 := Aside0.mk (iter_below b2 hit3.out)
      have hsz4 : w.heap.size + 1 < W2.heap.size := by have := b2.size; omega
      clear HI3 HB3 hit3 b2
      have hlr : l ++ [((Utf8.decode t pos).1 : Int)] ++ rnF t g (pos + (Utf8.decode t pos).2) = rn t := by
        have := hr.out; rw [hg1.out] at this; rw [← this, List.append_assoc]; rfl
      have Hlr := Aside0.mk hlr
      clear hlr
      cases hin : inSet s ((Utf8.decode t pos).1 : Int)
      · have Hin := Lib.hid hin
        clear hin
        go_wp2_with fail
        refine (Tryd.Builder_WriteString_k w.heap.size w.heap.size _ q _ HI4.out (by rw [Lib.byteCells_length]; omega) (by omega)).mono ?_
        rintro e W3 ⟨rfl, h3, b3, k3⟩
        go_wp2
        have hit5 := k3.iter hit4.out (by omega)
        refine ⟨⟨pos + (Utf8.decode t pos).2, g, l ++ [((Utf8.decode t pos).1 : Int)], hit5, Hlr, by omega, by simp; omega, ⟨?_⟩, ⟨HB4.out.trans b3⟩⟩, ?_⟩
        · rw [encL_snoc, Lib.byteCells_append, encOne, Hin.out, ← hq.out]
          exact Or.inr h3
        · simp only [World.iterPos, hit5, hit]
          omega
      · have Hin := Lib.hid hin
        clear hin
        go_wp2
        go_loopw [26] (fun i wi => ∃ (j : Nat), i = .int .i64 j ∧ j ≤ q.size ∧ Aside0 (wi.heap[w.heap.size + 1]? = some (.stringIter t (pos + (Utf8.decode t pos).2))) ∧ Aside0 (Lib.IsBuilderF 64 5 w.heap.size w.heap.size (Lib.byteCells (encL s l ++ (q.data.toList.take j).flatMap (fun b => byteL (b.toNat : Int)))) wi) ∧ Aside0 (Below w.heap.size w wi)) (fun i _ => q.size - (intOf i).toNat)
        case atStart => exact ⟨0, rfl, Nat.zero_le _, hit4, ⟨by simpa using HI4.out⟩, HB4⟩
        case round =>
          clear HI4 HB4 hit4 hsz4 hsz3 hsz2 hsz
          obtain ⟨j, rfl, hj, hit5, HI5, HB5⟩ := hrel
          have hsz5 : w.heap.size + 1 < wr.heap.size := (Array.getElem?_eq_some_iff.1 hit5.out).1
          have hlj := bytesL_length (q.data.toList.take j)
          have hlj2 : (q.data.toList.take j).length ≤ 4 := by rw [List.length_take]; simp; omega
          by_cases hlt : j < q.size
          · have hb0 := (q[j]'hlt).toNat_lt
            go_wp2_with fail
            refine (Byte_calls _ (by omega) (by omega) _).mono ?_
            rintro e W3 ⟨rfl, b3⟩
            have HI6 := Aside0.mk (IsBuilderF_below HI5.out b3)
            have HB6 := Aside0.mk (below_then HB5.out (by omega) b3)
            have hit6 := Aside0.mk (iter_below b3 hit5.out)
            have hsz6 : w.heap.size + 1 < W3.heap.size := by have := b3.size; omega
            go_wp2_with fail
            refine (Tryd.Builder_WriteString_k w.heap.size w.heap.size _ _ _ HI6.out (by rw [Lib.byteCells_length, List.length_append, hlj]; show _ + 3 ≤ _; omega) (by omega)).mono ?_
            rintro e W4 ⟨rfl, h4, b4, k4⟩
            go_wp2
            refine ⟨⟨j + 1, by go_num, by omega, ⟨k4.iter hit6.out (by omega)⟩, ⟨?_⟩, ⟨HB6.out.trans b4⟩⟩, by simp [intOf]; omega⟩
            rw [take_byte q j hlt, List.flatMap_append, ← List.append_assoc, Lib.byteCells_append]
            refine Or.inr ?_
            rw [Lib.strCells_eq] at h4
            simpa using h4
          · have hqe : q.data.toList.take j = q.data.toList := List.take_of_length_le (by simp; omega)
            have HI6 := HI5.out
            rw [hqe, hq.out] at HI6
            have HI7 := Aside0.mk HI6
            clear hqe HI6
            go_wp2
            refine ⟨⟨pos + (Utf8.decode t pos).2, g, l ++ [((Utf8.decode t pos).1 : Int)], hit5.out, Hlr, by omega, by simp; omega, ⟨?_⟩, HB5⟩, ?_⟩
            · rw [encL_snoc, encOne, if_pos Hin.out]
              exact HI7.out
            · simp only [World.iterPos, hit5.out, hit]
              omega
    · have hnx : ∀ ty, (Instr.next (.pointer (some ⟨w.heap.size + 1, 0, none⟩)) true ty).run Tryd.prog wr = _ := fun ty => Lib.run_next_end_at wr (w.heap.size + 1) t pos ty hit hp
      have he := hr.out
      rw [rnF_end t f pos hp, List.append_nil] at he
      have He := Lib.hid he
      clear he
      go_wp2_with fail
      refine (Tryd.Builder_String_any_k w.heap.size w.heap.size _ _ HI.out (by omega)).mono ?_
      rintro e W1 ⟨rfl, _, b1, _⟩
      go_wp2
      go_ret
      exact ⟨ret_string (by rw [encOf, He.out]), HB.out.trans b1⟩
end Go.Proofs.YtfcnfkedoihpoaaDoor
