/- Walks of package percent's functions that range over a string. -/
import Derived.Test.YtfcnfkedoihpoaaDoorBase
namespace Go.Proofs.YtfcnfkedoihpoaaDoor
open Go.RowKit

def hasRune (s : ByteArray) (r : Int) : Bool := (rn s).contains r

set_option maxHeartbeats 400000 in
theorem hasRune_calls (s : ByteArray) (r : Int) (w : World) :
    Calls Tryd.prog 31 #[.string s, .int .i32 r] w fun e w' => e = .returned (.bool (hasRune s r)) ∧ Below w.heap.size w w' := by
  go_enter Tryd.func31, Tryd.ntmps31
  go_wp2
  go_loopw [] (fun wr => ∃ (pos f : Nat), wr = w.iter s pos ∧ (rnF s f pos).contains r = hasRune s r ∧ s.size ≤ pos + f) (fun wr => s.size - wr.iterPos w.heap.size)
  case atStart => exact ⟨0, s.size, rfl, rfl, by omega⟩
  case round =>
    obtain ⟨pos, f, rfl, hr, hf⟩ := hrel
    by_cases hp : pos < s.size
    · have hnx : ∀ ty, (Instr.next (.pointer (some ⟨w.heap.size, 0, none⟩)) true ty).run Tryd.prog (w.iter s pos) = _ := fun ty => run_next_any w s pos ty hp
      have hwd := width_pos s pos hp
      have hd1 := decode_le s pos
      obtain ⟨g, rfl, hg⟩ := rnF_step s f pos hp hf
      rw [hg] at hr
      have Hr := Lib.hid hr
      clear hr hg
      go_wp2
      · have h1 : (((Utf8.decode s pos).1 : Int) == r) = true := by assumption
        have h2 : hasRune s r = true := by rw [← Hr.out, List.contains_cons, BEq.comm, h1]; rfl
        go_ret
        exact ⟨by rw [h2]; rfl, (Below.refl _ _).alloc (Nat.le_refl _) _⟩
      · have h1 : (((Utf8.decode s pos).1 : Int) == r) = false := by assumption
        refine ⟨⟨_, g, rfl, ?_, by omega⟩, by simp only [World.iterPos_iter]; omega⟩
        rw [← Hr.out, List.contains_cons, BEq.comm, h1]; rfl
    · have hnx : ∀ ty, (Instr.next (.pointer (some ⟨w.heap.size, 0, none⟩)) true ty).run Tryd.prog (w.iter s pos) = _ := fun ty => run_next_end w s pos ty hp
      go_wp2
      go_ret
      rw [rnF_end s f pos hp] at hr
      exact ⟨by rw [← hr]; rfl, (Below.refl _ _).alloc (Nat.le_refl _) _⟩

def percent_hasRune.f (a0 : ByteArray) (a1 : Int) : Option Bool := some (hasRune a0 a1)
theorem percent_hasRune.calls (a0 : ByteArray) (a1 : Int) (r : Bool) (w : World) (h : percent_hasRune.f a0 a1 = some r) :
    Calls Tryd.prog 31 #[.string a0, .int .i32 a1] w fun e w' => e = .returned (.bool r) ∧ Below w.heap.size w w' := by
  obtain rfl := Option.some.inj h
  exact hasRune_calls a0 a1 w
end Go.Proofs.YtfcnfkedoihpoaaDoor
