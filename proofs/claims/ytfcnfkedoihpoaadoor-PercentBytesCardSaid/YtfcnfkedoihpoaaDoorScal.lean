/- Package scalar: the functions that range over a string. -/
import Derived.Test.YtfcnfkedoihpoaaDoorBase
namespace Go.Proofs.YtfcnfkedoihpoaaDoor
open Go.RowKit Go.Proofs.YtfcnfkedoihpoaaDoorW.PrintWords Go.Proofs.YtfcnfkedoihpoaaDoorW.PrintLast Go.Proofs.YtfcnfkedoihpoaaDoorW.PrintMore

set_option maxHeartbeats 400000 in
theorem scalar_Scalars_calls (s : ByteArray) (w : World) (hs : s.size ≤ 1000000) :
    Calls Tryd.prog 83 #[.string s] w fun e w' => ∃ v : Value, e = .returned v ∧ Kd.R (Kd.int .i32) 21 w' w.heap.size (fun _ => True) v (rn s) ∧ Below w.heap.size w w' := by
  go_enter Tryd.func83, Tryd.ntmps83
  go_wp2
  go_loopw [3] (fun v wr => ∃ (pos f : Nat) (l : List Int), wr.heap[w.heap.size]? = some (.stringIter s pos) ∧ Aside0 (l ++ rnF s f pos = rn s) ∧ s.size ≤ pos + f ∧ l.length ≤ pos ∧ Aside0 (Kd.R (Kd.int .i32) 21 wr w.heap.size (fun _ => True) v l) ∧ Aside0 (Below w.heap.size w wr)) (fun _ wr => s.size - wr.iterPos w.heap.size)
  case atStart => exact ⟨0, s.size, [], World.iter_heap w s 0, ⟨rfl⟩, by omega, by simp, ⟨Kd.R_nil _ _ _ _ _⟩, ⟨(Below.refl _ _).alloc (Nat.le_refl _) _⟩⟩
  case round =>
    obtain ⟨pos, f, l, hit, hr, hf, hl, HO, HB⟩ := hrel
    by_cases hp : pos < s.size
    · have hnx : ∀ ty, (Instr.next (.pointer (some ⟨w.heap.size, 0, none⟩)) true ty).run Tryd.prog wr = _ := fun ty => Lib.run_next_any_at wr w.heap.size s pos ty hit hp
      have hwd := width_pos s pos hp
      have hd1 := decode_le s pos
      obtain ⟨g, rfl, hg0⟩ := rnF_step s f pos hp hf
      have hg1 := Aside0.mk hg0
      clear hg0
      have hit2 := Lib.iterAt_heap wr w.heap.size s pos (pos + (Utf8.decode s pos).2) hit
      have HO2 := Aside0.mk (R_iterAt HO.out hit (pos + (Utf8.decode s pos).2))
      have HB2 := Aside0.mk (Lib.below_iterAt HB.out (k := w.heap.size) (Nat.le_refl _) s (pos + (Utf8.decode s pos).2))
      have hsz : w.heap.size < wr.heap.size := (Array.getElem?_eq_some_iff.1 hit).1
      clear HO HB
      go_wp2_with ((with_reducible refine gate_builtin (b := .append) (xs := #[.tmp 11, .tmp 13]) rfl ?_); at_builtin; refine Kd.R_append (Kd.int .i32) (w0 := w) w.heap.size rfl (.tmp 11) (.tmp 13) 110 21 (.int .i32 0) 4 rfl Tryd.underlying110 info_rune rfl (by decide) (by omega) u3 l ((Utf8.decode s pos).1 : Int) [.int .i32 (Utf8.decode s pos).1] (fun _ => True) (fun _ => False) rfl rfl ?aP (fun _ hk => hk.elim) ?aF ?aO ?aB ?aS ?aL ?_; (case aP => exact rfl); (case aF => exact fun _ _ => trivial); (case aO => exact HO2.out); (case aB => exact HB2.out); (case aS => rw [Lib.iterAt_size]; omega); (case aL => omega); intro v1 w1 ho hb hg _)
      have hit3 := iter_grown HO2.out hg hit2
      refine ⟨⟨pos + (Utf8.decode s pos).2, g, l ++ [((Utf8.decode s pos).1 : Int)], hit3, ⟨by have := hr.out; rw [hg1.out] at this; rw [← this, List.append_assoc]; rfl⟩, by omega, by rw [List.length_append]; simp only [List.length_cons, List.length_nil]; omega, ⟨ho⟩, ⟨hb⟩⟩, ?_⟩
      simp only [World.iterPos, hit3, hit]
      omega
    · have hnx : ∀ ty, (Instr.next (.pointer (some ⟨w.heap.size, 0, none⟩)) true ty).run Tryd.prog wr = _ := fun ty => Lib.run_next_end_at wr w.heap.size s pos ty hit hp
      go_wp2
      go_ret
      have he := hr.out
      rw [rnF_end s f pos hp, List.append_nil] at he
      exact ⟨_, rfl, by rw [← he]; exact HO.out, HB.out⟩

def scalar_Scalars.f (a0 : ByteArray) : Option (List Int) := if a0.size ≤ 1000000 then some (rn a0) else none
theorem scalar_Scalars.calls (a0 : ByteArray) (r : List Int) (w : World) (h : scalar_Scalars.f a0 = some r) :
    Calls Tryd.prog 83 #[.string a0] w fun e w' => ∃ v0_ : Value, e = .returned (v0_) ∧ Kd.R (Kd.int .i32) 21 w' w.heap.size (fun _ => True) v0_ r ∧ Below w.heap.size w w' := by
  unfold scalar_Scalars.f at h
  by_cases hs : a0.size ≤ 1000000
  · rw [if_pos hs] at h
    obtain rfl := Option.some.inj h
    exact scalar_Scalars_calls a0 w hs
  · rw [if_neg hs] at h
    cases h
end Go.Proofs.YtfcnfkedoihpoaaDoor
