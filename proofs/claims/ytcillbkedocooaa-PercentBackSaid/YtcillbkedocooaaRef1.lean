/- The document's Scalars, One, Text, Has. -/
import Derived.Test.YtcillbkedocooaaNext
import Derived.Test.YtcillbkedocooaaDec
namespace Go.Proofs.Ytcillbkedocooaa
open Go.RowKit Go.Proofs.YtcillbkedocooaaW.PrintWords Go.Proofs.YtcillbkedocooaaW.PrintMore

theorem width_le (s : ByteArray) (i : Nat) : (Utf8.decode s i).2 ≤ 4 := by
  unfold Utf8.decode
  simp only
  split
  · simp
  · split
    · split <;> simp
    · split
      · split <;> simp
      · split
        · split <;> simp
        · simp

set_option maxHeartbeats 1000000 in
theorem rScalars_calls (s : ByteArray) (w : World) (hs : s.size ≤ 1000000) :
    Calls Try.prog 19 #[.string s] w fun e w' => ∃ v : Value, e = .returned v ∧ Kd.R (Kd.int .i32) 21 w' w.heap.size (fun _ => True) v (rn s) ∧ Below w.heap.size w w' := by
  go_enter Try.func19, Try.ntmps19
  go_wp2
  go_loopw [3, 4] (fun v i wr => ∃ (pos f : Nat) (l : List Int), i = .int .i64 pos ∧ Aside0 (l ++ rnF s f pos = rn s) ∧ s.size ≤ pos + f ∧ l.length ≤ pos ∧ pos ≤ 1000004 ∧ Aside0 (Kd.R (Kd.int .i32) 21 wr w.heap.size (fun _ => True) v l) ∧ Aside0 (Below w.heap.size w wr)) (fun _ i _ => s.size - (intOf i).toNat)
  case atStart => exact ⟨0, s.size, [], rfl, ⟨rfl⟩, by omega, by simp, by omega, ⟨Kd.R_nil _ _ _ _ _⟩, ⟨Below.refl _ _⟩⟩
  case round =>
    obtain ⟨pos, f, l, rfl, hr, hf, hl, hpb, HO, HB⟩ := hrel
    have hsz : w.heap.size ≤ wr.heap.size := HB.out.size
    by_cases hp : pos < s.size
    · have hwd := width_pos s pos hp
      have hwl := width_le s pos
      have hd1 := decode_le s pos
      obtain ⟨g, rfl, hg0⟩ := rnF_step s f pos hp hf
      have hg1 := Aside0.mk hg0
      clear hg0
      go_wp2_with fail
      refine (next_calls s pos hp hs _).mono ?_
      rintro e w1 ⟨rfl, rfl⟩
      go_wp2_with ((with_reducible refine gate_builtin (b := .append) (xs := #[.tmp 17, .tmp 19]) rfl ?_); at_builtin; refine Kd.R_append (Kd.int .i32) (w0 := w) w.heap.size rfl (.tmp 17) (.tmp 19) 34 21 (.int .i32 0) 4 rfl Try.underlying34 info_rune rfl (by decide) (by omega) u3 l ((Utf8.decode s pos).1 : Int) [.int .i32 (Utf8.decode s pos).1] (fun _ => True) (fun _ => False) rfl rfl ?aP (fun _ hk => hk.elim) ?aF ?aO ?aB ?aS ?aL ?_; (case aP => exact rfl); (case aF => exact fun _ _ => trivial); (case aO => exact HO.out); (case aB => exact HB.out); (case aS => omega); (case aL => omega); intro v1 w1 ho hb hg _)
      refine ⟨⟨pos + (Utf8.decode s pos).2, g, l ++ [((Utf8.decode s pos).1 : Int)], by go_num, ⟨by have := hr.out; rw [hg1.out] at this; rw [← this, List.append_assoc]; rfl⟩, by omega, by rw [List.length_append]; simp only [List.length_cons, List.length_nil]; omega, by omega, ⟨ho⟩, ⟨hb⟩⟩, by simp [intOf]; omega⟩
    · go_wp2
      go_ret
      have he := hr.out
      rw [rnF_end s f pos hp, List.append_nil] at he
      exact ⟨_, rfl, by rw [← he]; exact HO.out, HB.out⟩

/-- A new row of bytes as a string. -/
theorem conv_new (w : World) (xs : List Int) (n : Nat) (hn : xs.length = n) :
    (convert 41 9 (.slice (some ⟨w.heap.size, 0, none⟩) n n)).run Try.prog (w.alloc (.cells (xs.map (Value.int .u8)).toArray 5)) = .ok (.string (strOfNums xs)) (w.alloc (.cells (xs.map (Value.int .u8)).toArray 5)) := by
  subst hn
  refine run_convert_bytes_arg _ 41 5 Try.underlying41 Try.underlying5 w.heap.size 0 _ _ xs rfl (fun i hi => ?_) 9 Try.underlying9
  simp only [Nat.zero_add, World.cell?, heap_alloc_new]
  simp [hi]

set_option maxHeartbeats 1000000 in
theorem One_calls (r : Int) (h0 : -2147483648 ≤ r) (h1 : r ≤ 2147483647) (w : World) :
    Calls Try.prog 27 #[.int .i32 r] w fun e w' => e = .returned (.string ⟨(Lib.encodeRune r).toArray⟩) ∧ Below w.heap.size w w' := by
  have c1 : ∀ x : Int, _ := fun x => conv_new w [x] 1 rfl
  have c2 : ∀ x y : Int, _ := fun x y => conv_new w [x, y] 2 rfl
  have c3 : ∀ x y z : Int, _ := fun x y z => conv_new w [x, y, z] 3 rfl
  have c4 : ∀ x y z u : Int, _ := fun x y z u => conv_new w [x, y, z, u] 4 rfl
  simp only [List.map_cons, List.map_nil] at c1 c2 c3 c4
  have hb : Below w.heap.size w (w.alloc (.cells #[] 0)) := (Below.refl _ _).alloc (Nat.le_refl _) _
  cases hI : isR r
  · have hz : Lib.encodeRune r = [239, 191, 189] := by
      simp only [Lib.encodeRune, Lib.encodeRuneZ_bad (show r < 0 ∨ (55296 ≤ r ∧ r ≤ 57343) ∨ 1114111 < r by simp [isR] at hI; omega)]
      rfl
    have HZ := Lib.hid hz
    have HI := Lib.hid hI
    clear hz hI hb
    go_enter Try.func27, Try.ntmps27
    go_wp2_with fail
    refine (Is_calls _ _).mono ?_
    rintro e w1 ⟨rfl, rfl⟩
    rw [HI.out]
    go_wp2_with fail
    go_ret
    exact ⟨ret_string (by rw [HZ.out]; rfl), (Below.refl _ _).alloc (Nat.le_refl _) _⟩
  · have hR : 0 ≤ r ∧ r ≤ 1114111 ∧ (r < 55296 ∨ 57343 < r) := by simp [isR] at hI; omega
    obtain ⟨hR1, hR2, hR3⟩ := hR
    have HR3 := Lib.hid hR3
    have HI := Lib.hid hI
    clear hI hb hR3
    by_cases h128 : r < 128
    · have HZ := Lib.hid (Lib.encodeRuneZ_one hR1 (by omega))
      go_enter Try.func27, Try.ntmps27
      go_wp2_with fail
      refine (Is_calls _ _).mono ?_
      rintro e w1 ⟨rfl, rfl⟩
      rw [HI.out]
      go_wp2_with fail
      go_ret
      exact ⟨ret_string (by rw [Lib.encodeRune, HZ.out]; rfl), (Below.refl _ _).alloc (Nat.le_refl _) _⟩
    · by_cases h2048 : r < 2048
      · have HZ := Lib.hid (Lib.encodeRuneZ_two (r := r) (by omega) (by omega))
        go_enter Try.func27, Try.ntmps27
        go_wp2_with fail
        refine (Is_calls _ _).mono ?_
        rintro e w1 ⟨rfl, rfl⟩
        rw [HI.out]
        go_wp2_with fail
        go_ret
        exact ⟨ret_string (by rw [Lib.encodeRune, HZ.out]; rfl), (Below.refl _ _).alloc (Nat.le_refl _) _⟩
      · by_cases h65536 : r < 65536
        · have HZ := Lib.hid (Lib.encodeRuneZ_three (r := r) (by have := HR3.out; omega))
          go_enter Try.func27, Try.ntmps27
          go_wp2_with fail
          refine (Is_calls _ _).mono ?_
          rintro e w1 ⟨rfl, rfl⟩
          rw [HI.out]
          go_wp2_with fail
          go_ret
          exact ⟨ret_string (by rw [Lib.encodeRune, HZ.out]; rfl), (Below.refl _ _).alloc (Nat.le_refl _) _⟩
        · have HZ := Lib.hid (Lib.encodeRuneZ_four (r := r) (by omega) (by omega))
          go_enter Try.func27, Try.ntmps27
          go_wp2_with fail
          refine (Is_calls _ _).mono ?_
          rintro e w1 ⟨rfl, rfl⟩
          rw [HI.out]
          go_wp2_with fail
          go_ret
          exact ⟨ret_string (by rw [Lib.encodeRune, HZ.out]; rfl), (Below.refl _ _).alloc (Nat.le_refl _) _⟩

/-- Is a number one of a text's bytes? -/
def hasL (l : List UInt8) (c : Int) : Bool := (intsOf l).contains c
set_option maxHeartbeats 1000000 in
theorem Has_calls (s : ByteArray) (c : Int) (hs : s.size ≤ 1000000) (w : World) :
    Calls Try.prog 23 #[.string s, .int .u8 c] w fun e w' => e = .returned (.bool (hasL s.data.toList c)) ∧ w = w' := by
  go_enter Try.func23, Try.ntmps23
  go_wp2
  go_loop [5] (fun i => ∃ j : Nat, i = .int .i64 j ∧ j ≤ s.size ∧ Aside0 (hasL (s.data.toList.drop j) c = hasL s.data.toList c)) (fun i => s.size - (intOf i).toNat)
  case atStart => exact ⟨0, rfl, by omega, ⟨rfl⟩⟩
  case round =>
    obtain ⟨j, rfl, hj, hr⟩ := hrel
    by_cases hlt : j < s.size
    · have hst : hasL (s.data.toList.drop j) c = (c == ((s[j]'hlt).toNat : Int) || hasL (s.data.toList.drop (j + 1)) c) := by
        rw [drop_byte s j hlt]; rfl
      have Hst := Lib.hid hst
      cases hc : (((s[j]'hlt).toNat : Int) == c)
      · have Hc := Lib.hid hc
        clear hst
        go_wp2
        refine ⟨⟨j + 1, by go_num, by omega, ⟨?_⟩⟩, by simp [intOf]; omega⟩
        rw [← hr.out, Hst.out, BEq.comm, Hc.out]; rfl
      · have Hc := Lib.hid hc
        clear hst
        go_wp2
        go_ret
        exact ⟨ret_bool (by rw [← hr.out, Hst.out, BEq.comm, Hc.out]; rfl), rfl⟩
    · go_wp2
      go_ret
      have he := hr.out
      rw [List.drop_of_length_le (by simp; omega)] at he
      exact ⟨ret_bool (by rw [← he]; rfl), rfl⟩
end Go.Proofs.Ytcillbkedocooaa
