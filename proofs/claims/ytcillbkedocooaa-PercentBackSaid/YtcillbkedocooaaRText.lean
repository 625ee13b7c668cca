/- The document's Text. -/
import Derived.Test.YtcillbkedocooaaREnc
namespace Go.Proofs.Ytcillbkedocooaa
open Go.RowKit Go.Proofs.YtcillbkedocooaaW.PrintWords Go.Proofs.YtcillbkedocooaaW.PrintMore

set_option maxHeartbeats 1000000 in
theorem rText_calls (A : Option Addr) (c : Nat) (l : List Int) (w : World) (hr : Kd.C (Kd.int .i32) w A l.length l) (hb : ∀ x ∈ l, -2147483648 ≤ x ∧ x ≤ 2147483647) (hl : l.length ≤ 1000000) :
    Calls Try.prog 18 #[.slice A l.length c] w fun e w' => e = .returned (.string (textOf l)) ∧ Below w.heap.size w w' := by
  have Hb := Lib.hid hb
  have HC := Lib.hid hr
  obtain ⟨ad, hA⟩ : ∃ ad : Addr, 0 < l.length → A = some ad := by
    by_cases h : 0 < l.length
    · obtain ⟨ad, e⟩ := C_some hr h
      exact ⟨ad, fun _ => e⟩
    · exact ⟨⟨0, 0, none⟩, fun h' => absurd h' h⟩
  have HA := Lib.hid hA
  clear hb hA hr
  go_enter Try.func18, Try.ntmps18
  go_wp2
  go_loopw [3, 8] (fun o i wr => ∃ (j : Nat), i = .int .i64 j ∧ j ≤ l.length ∧ o = .string ⟨(textL (l.take j)).toArray⟩ ∧ Aside0 (Below w.heap.size w wr)) (fun _ i _ => l.length - (intOf i).toNat)
  case atStart => exact ⟨0, rfl, by omega, rfl, ⟨Below.refl _ _⟩⟩
  case round =>
    obtain ⟨j, rfl, hj, rfl, HB⟩ := hrel
    have hel := textL_length (l.take j)
    rw [List.length_take] at hel
    by_cases hlt : j < l.length
    · have hA := HA.out (by omega)
      subst hA
      have hcell := C_int_at (Kd.C_below HC.out HB.out) j hlt
      have hx := Hb.out _ (List.getElem_mem hlt)
      have hel2 := encodeRune_length (l[j]'hlt)
      go_wp2_with fail
      refine (One_calls _ hx.1 hx.2 _).mono ?_
      rintro e w2 ⟨rfl, b2⟩
      have HB2 := Aside0.mk (below_then HB.out HB.out.size b2)
      clear b2 HB hcell
      go_wp2_with fail
      refine ⟨⟨j + 1, by go_num, by omega, ?_, HB2⟩, by simp [intOf]; omega⟩
      congr 1
      rw [append_bytes, List.take_succ_eq_append_getElem hlt, textL_snoc]
    · go_wp2_with fail
      go_ret
      exact ⟨ret_string (by rw [List.take_of_length_le (by omega), textOf]), HB.out⟩
end Go.Proofs.Ytcillbkedocooaa
