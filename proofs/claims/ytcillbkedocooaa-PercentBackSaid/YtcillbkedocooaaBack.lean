/- The law PercentBack, walked. -/
import Derived.Test.YtcillbkedocooaaBackP
import Derived.Test.YtcillbkedocooaaRText
import Derived.Test.YtcillbkedocooaaAwake
import Derived.Test.YtcillbkedocooaaSh
import Derived.Lib.IndexAny
namespace Go.Proofs.Ytcillbkedocooaa
open Go.RowKit Go.Proofs.YtcillbkedocooaaW.PrintWords Go.Proofs.YtcillbkedocooaaW.PrintMore

theorem hasPct_no (t : ByteArray) (h : decide (0 ≤ Lib.indexByte t.data.toList 37) = false) : (37 : Int) ∉ rn t := by
  rw [← Lib.contains_iff_indexByte] at h
  refine rn_byte t 37 (by omega) (by omega) (fun b hb e => ?_)
  have e' : b = 37 := UInt8.toNat_inj.1 (by have : (37 : UInt8).toNat = 37 := rfl; omega)
  subst e'
  rw [Bool.eq_false_iff] at h
  exact h (by simpa using hb)

set_option maxHeartbeats 2000000 in
set_option maxRecDepth 100000 in
theorem PercentBack_calls (s : Int) (t : ByteArray) (w : World) (hs : (Lit.int .u8 s).wf = true) (ht : t.size ≤ 140737488351232) :
    Calls Try.prog 5 #[.int .u8 s, .string t] w fun e w' => e = .returned (.bool true) ∧ Below w.heap.size w w' := by
  obtain ⟨hs0, hs1⟩ := wf_u8 hs
  clear hs
  have hn0 : 0 ≤ s % 6 := by omega
  have hn5 : s % 6 ≤ 5 := by omega
  by_cases h : t.size ≤ 2000
  · go_enter Try.func5, Try.ntmps5
    go_wp2_with fail
    refine (awake2_calls _).mono ?_
    rintro e w1 ⟨rfl, b1⟩
    go_wp2_with fail
    refine (Try.strings_Contains_one t 37 _).mono ?_
    rintro e w2 ⟨rfl, rfl⟩
    cases hp : decide (0 ≤ Lib.indexByte t.data.toList 37)
    · have hno := hasPct_no t hp
      have HNo := Lib.hid hno
      have HB1 := Aside0.mk b1
      have E1 := Lib.hid (encOf_none (s % 6) hn0 hn5 t)
      have E2 := Lib.hid (encOf_again (s % 6) hn0 hn5 t)
      have E3 := Lib.hid (decL_enc (s % 6) hn5 (rn t) hno)
      have E4 := Lib.hid (right_enc (s % 6) hn5 (rn t) hno)
      have hle := encL_length (s % 6) (rn t)
      have hln := rn_length t
      have hes : (encOf (s % 6) t).size ≤ 24000 := by
        have : (encOf (s % 6) t).size = (encL (s % 6) (rn t)).length := by rw [← encOf_list]; simp
        omega
      clear hp hno b1 hle
      go_wp2_with fail
      refine (Encode_calls _ _ _ (by omega)).mono ?_
      rintro e w3 ⟨rfl, b3⟩
      have HB3 := Aside0.mk (below_then HB1.out HB1.out.size b3)
      have EL := Lib.hid (encOf_list (s % 6) t)
      clear b3 HB1
      generalize encOf (s % 6) t = q at EL E1 E2 hes ⊢
      have h1 : w.heap.size ≤ w3.heap.size := HB3.out.size
      go_wp2_with fail
      go_loopw [] (fun wr => ∃ (pos f : Nat), wr = w3.iter q pos ∧ Aside0 (∀ x ∈ rnF q f pos, inSet (s % 6) x = false) ∧ q.size ≤ pos + f) (fun wr => q.size - wr.iterPos w3.heap.size)
      case atStart => exact ⟨0, q.size, rfl, ⟨E1.out⟩, by omega⟩
      case round =>
        obtain ⟨pos, f, rfl, hr, hf⟩ := hrel
        by_cases hp : pos < q.size
        · have hnx : ∀ ty, (Instr.next (.pointer (some ⟨w3.heap.size, 0, none⟩)) true ty).run Try.prog (w3.iter q pos) = _ := fun ty => run_next_any w3 q pos ty hp
          have hwd := width_pos q pos hp
          have hd1 := decode_le q pos
          obtain ⟨g, rfl, hg⟩ := rnF_step q f pos hp hf
          have Hg := Lib.hid hg
          clear hg
          go_wp2_with fail
          refine (rIn_calls _ _ hn0 (by omega) _).mono ?_
          rintro e w4 ⟨rfl, rfl⟩
          rw [hr.out _ (by rw [Hg.out]; simp)]
          go_wp2_with fail
          refine ⟨⟨_, g, rfl, ⟨fun x hx => hr.out x (by rw [Hg.out]; simp [hx])⟩, by omega⟩, by simp only [World.iterPos_iter]; omega⟩
        · have hnx : ∀ ty, (Instr.next (.pointer (some ⟨w3.heap.size, 0, none⟩)) true ty).run Try.prog (w3.iter q pos) = _ := fun ty => run_next_end w3 q pos ty hp
          have HB4 := Aside0.mk (HB3.out.alloc h1 (.stringIter q pos))
          have h2 : w.heap.size ≤ (w3.iter q pos).heap.size := by simp [World.iter]; omega
          go_wp2_with fail
          refine (Decode_calls q (by omega) _).mono ?_
          rintro e w4 ⟨rfl, b4⟩
          have HB5 := Aside0.mk (below_then HB4.out h2 b4)
          rw [EL.out, E3.out]
          clear b4 HB4
          go_wp2_with fail
          refine (rScalars_calls t _ (by omega)).mono ?_
          rintro e w5 ⟨v, rfl, hv, b5⟩
          obtain ⟨A, c, rfl, _, hC⟩ := Kd.R_reads hv
          have HC := Lib.hid hC
          have HB6 := Aside0.mk (below_then HB5.out HB5.out.size b5)
          clear hv hC b5 HB5
          go_wp2_with fail
          refine (rText_calls A c (rn t) _ HC.out (fun x hx => by have := rn_bd t x hx; omega) (by omega)).mono ?_
          rintro e w6 ⟨rfl, b6⟩
          have HB7 := Aside0.mk (below_then HB6.out HB6.out.size b6)
          clear b6 HB6
          have et : (⟨(textL (rn t)).toArray⟩ : ByteArray) = textOf (rn t) := rfl
          rw [et]
          go_wp2_with fail
          refine (Encode_calls _ _ _ (by omega)).mono ?_
          rintro e w7 ⟨rfl, b7⟩
          have HB8 := Aside0.mk (below_then HB7.out HB7.out.size b7)
          rw [E2.out]
          clear b7 HB7
          go_wp2_with fail
          refine (Right_calls q (by omega) _).mono ?_
          rintro e w8 ⟨rfl, b8⟩
          rw [EL.out, E4.out]
          go_wp2_with fail
          go_ret
          exact ⟨rfl, below_then HB8.out HB8.out.size b8.below⟩
    · go_wp2_with fail
      go_ret
      exact ⟨rfl, b1⟩
  · go_enter Try.func5, Try.ntmps5
    go_wp2_with fail
    refine (awake2_calls _).mono ?_
    rintro e w1 ⟨rfl, b1⟩
    go_wp2
    go_ret
    exact ⟨rfl, b1⟩
end Go.Proofs.Ytcillbkedocooaa
