/- scalar.Text: a Builder in a range over a slice. -/
import Derived.Test.YtfcnfkedoihpoaaDoorBase
import Derived.Test.YtfcnfkedoihpoaaDoorShelfB
namespace Go.Proofs.YtfcnfkedoihpoaaDoor
open Go.RowKit Go.Proofs.YtfcnfkedoihpoaaDoorW.PrintWords Go.Proofs.YtfcnfkedoihpoaaDoorW.PrintLast Go.Proofs.YtfcnfkedoihpoaaDoorW.PrintMore

set_option maxHeartbeats 400000 in
theorem scalar_Text_calls (A : Option Addr) (c : Nat) (l : List Int) (w : World) (hr : Kd.C (Kd.int .i32) w A l.length l) (hb : ∀ x ∈ l, -2147483648 ≤ x ∧ x ≤ 2147483647) (hl : l.length ≤ 1000000) :
    Calls Tryd.prog 55 #[.slice A l.length c] w fun e w' => e = .returned (.string (textOf l)) ∧ Below w.heap.size w w' := by
  have Hb := Lib.hid hb
  clear hb
  obtain ⟨ad, hA⟩ : ∃ ad : Addr, 0 < l.length → A = some ad := by
    by_cases h : 0 < l.length
    · obtain ⟨ad, e⟩ := C_some hr h
      exact ⟨ad, fun _ => e⟩
    · exact ⟨⟨0, 0, none⟩, fun h' => absurd h' h⟩
  have HA := Lib.hid hA
  have Hr := Lib.hid hr
  clear hA hr
  go_enter Tryd.func55, Tryd.ntmps55
  go_wp2
  go_loopw [8] (fun i wr => ∃ (j : Nat), i = .int .i64 j ∧ j ≤ l.length ∧ Aside0 (Lib.IsBuilderF 64 5 w.heap.size w.heap.size (Lib.byteCells (textL (l.take j))) wr) ∧ Aside0 (Below w.heap.size w wr)) (fun i _ => l.length - (intOf i).toNat)
  case atStart =>
    exact ⟨0, rfl, Nat.zero_le _, ⟨Lib.IsBuilderF.of (Lib.fresh_isBuilder 64 5 w)⟩, ⟨(Below.refl _ w).alloc (Nat.le_refl _) _⟩⟩
  case round =>
    obtain ⟨j, rfl, hj, HI, HB⟩ := hrel
    by_cases hlt : j < l.length
    · have hA := HA.out (by omega)
      subst hA
      have hcell := C_int_at (Kd.C_below Hr.out HB.out) j hlt
      have hbj := Hb.out _ (List.getElem_mem hlt)
      have hl4 := textL_length (l.take j)
      have hlj : (l.take j).length = j := by rw [List.length_take]; omega
      rw [hlj] at hl4
      have hsz := HB.out.size
      clear hlj
      go_wp2_with fail
      refine (Tryd.Builder_WriteRune_k w.heap.size w.heap.size _ _ hbj.1 hbj.2 _ HI.out (by rw [Lib.byteCells_length]; omega) hsz).mono ?_
      rintro e W1 ⟨rfl, h1, b1, _⟩
      have H1 := Aside0.mk h1
      have HB1 := Aside0.mk (HB.out.trans b1)
      clear h1 b1 HI HB
      go_wp2
      refine ⟨⟨j + 1, by go_num, by omega, ⟨?_⟩, HB1⟩, by simp [intOf]; omega⟩
      rw [List.take_succ_eq_append_getElem hlt, textL_snoc, Lib.byteCells_append, Lib.byteCells_encodeRune]
      exact Or.inr H1.out
    · have he : l.take j = l := List.take_of_length_le (by omega)
      have hsz := HB.out.size
      have HI2 := HI.out
      rw [he] at HI2
      have HI3 := Aside0.mk HI2
      clear he HI2 HI
      go_wp2_with fail
      refine (Tryd.Builder_String_any_k w.heap.size w.heap.size _ _ HI3.out hsz).mono ?_
      rintro e W1 ⟨rfl, _, b1, _⟩
      go_wp2
      go_ret
      exact ⟨rfl, HB.out.trans b1⟩
/-- Of one code point that was just laid. -/
theorem Text_one (r : Int) (h0 : -2147483648 ≤ r) (h1 : r ≤ 2147483647) (w : World) :
    Calls Tryd.prog 55 #[.slice (some ⟨w.heap.size, 0, none⟩) 1 1] (w.alloc (.cells #[.int .i32 r] 21)) fun e w' => ∃ q : ByteArray, Aside0 (q.data.toList = Lib.encodeRune r) ∧ e = .returned (.string q) ∧ Below (w.heap.size + 1) (w.alloc (.cells #[.int .i32 r] 21)) w' := by
  refine (scalar_Text_calls (some ⟨w.heap.size, 0, none⟩) 1 [r] _ (C_one .i32 w r _) (by simpa using ⟨h0, h1⟩) (by simp)).mono ?_
  rintro e w' ⟨rfl, hb⟩
  refine ⟨_, ⟨?_⟩, rfl, ?_⟩
  · simp [textOf, textL]
  · simpa using hb

def scalar_Text.f (l0 : List Int) : Option ByteArray := if l0.length ≤ 1000000 ∧ ∀ x ∈ l0, -2147483648 ≤ x ∧ x ≤ 2147483647 then some (textOf l0) else none
theorem scalar_Text.calls (A0 : Option Addr) (c0 : Nat) (l0 : List Int) (r : ByteArray) (w : World) (hr0 : Kd.C (Kd.int .i32) w A0 l0.length l0) (_hc0 : l0.length ≤ c0) (h : scalar_Text.f l0 = some r) :
    Calls Tryd.prog 55 #[.slice A0 l0.length c0] w fun e w' => e = .returned (.string r) ∧ Below w.heap.size w w' := by
  unfold scalar_Text.f at h
  by_cases hs : l0.length ≤ 1000000 ∧ ∀ x ∈ l0, -2147483648 ≤ x ∧ x ≤ 2147483647
  · rw [if_pos hs] at h
    obtain rfl := Option.some.inj h
    exact scalar_Text_calls A0 c0 l0 w hr0 hs.2 hs.1
  · rw [if_neg hs] at h
    cases h
end Go.Proofs.YtfcnfkedoihpoaaDoor
