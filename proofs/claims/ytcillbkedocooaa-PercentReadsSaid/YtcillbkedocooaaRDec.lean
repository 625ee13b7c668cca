/- The document's Decode. -/
import Derived.Test.YtcillbkedocooaaRight
namespace Go.Proofs.Ytcillbkedocooaa
open Go.RowKit Go.Proofs.YtcillbkedocooaaW.PrintWords Go.Proofs.YtcillbkedocooaaW.PrintMore

theorem three_is (t : ByteArray) (j : Nat) (hj : j < t.size) (h : threeL (t.data.toList.drop j) = true) : (t[j]'hj).toNat = 37 := by
  rcases Nat.decEq (t[j]'hj).toNat 37 with h' | h'
  · rw [three_not t j hj h'] at h; cases h
  · exact h'
set_option maxHeartbeats 1000000 in
theorem rDecode_calls (t : ByteArray) (hs : t.size ≤ 1000000) (w : World) :
    Calls Try.prog 14 #[.string t] w fun e w' => e = .returned (.string ⟨(decL t.data.toList).toArray⟩) ∧ Below w.heap.size w w' := by
  go_enter Try.func14, Try.ntmps14
  go_wp2
  go_loopw [3, 4] (fun v i wr => ∃ (j : Nat) (l : List UInt8), i = .int .i64 j ∧ l.length ≤ j ∧ j ≤ t.size ∧ Aside0 (l ++ decL (t.data.toList.drop j) = decL t.data.toList) ∧ Aside0 (Kd.R (Kd.int .u8) 5 wr w.heap.size (fun _ => True) v (intsOf l)) ∧ Aside0 (Below w.heap.size w wr)) (fun _ i _ => t.size - (intOf i).toNat)
  case atStart => exact ⟨0, [], rfl, by simp, by omega, ⟨rfl⟩, ⟨Kd.R_nil _ _ _ _ _⟩, ⟨Below.refl _ _⟩⟩
  case round =>
    obtain ⟨j, l, rfl, hl, hj, hr, HO, HB⟩ := hrel
    have hsz : w.heap.size ≤ wr.heap.size := HB.out.size
    by_cases hlt : j < t.size
    · go_wp2_with fail
      refine (Three_calls t j hlt hs _).mono ?_
      rintro e w1 ⟨rfl, rfl⟩
      cases h3 : threeL (t.data.toList.drop j)
      · have hx2 := t[j].toNat_lt
        have H3 := Lib.hid h3
        clear h3
        go_wp2_with ((with_reducible refine gate_builtin (b := .append) (xs := #[.tmp 32, .tmp 36]) rfl ?_); at_builtin; refine Kd.R_append (Kd.int .u8) (w0 := w) w.heap.size rfl (.tmp 32) (.tmp 36) 41 5 (.int .u8 0) 1 rfl Try.underlying41 info_u8 rfl (by decide) (by omega) u3 (intsOf l) (t[j].toNat : Int) [.int .u8 (t[j].toNat : Int)] (fun _ => True) (fun _ => False) rfl rfl ?aP (fun _ hk => hk.elim) ?aF ?aO ?aB ?aS ?aL ?_; (case aP => exact rfl); (case aF => exact fun _ _ => trivial); (case aO => exact HO.out); (case aB => exact HB.out); (case aS => omega); (case aL => rw [intsOf, List.length_map]; omega); intro v1 w1 ho hb hg _)
        refine ⟨⟨j + 1, l ++ [t[j]], by go_num, by simp; omega, by omega, ⟨?_⟩, ⟨by rw [intsOf_append]; exact ho⟩, ⟨hb⟩⟩, by simp [intOf]; omega⟩
        have h4 := H3.out
        rw [drop_byte t j hlt] at h4
        rw [← hr.out, drop_byte t j hlt, decL_not _ _ h4, List.append_assoc]
        rfl
      · have hv := valL_bd _ h3
        have hj3 : j + 2 < t.size := by
          rcases Nat.lt_or_ge (j + 2) t.size with h | h
          · exact h
          · rw [three_short t j (by omega)] at h3; cases h3
        have i1 : IntKind.i64.wrap ((j : Int) + 1) = (j : Int) + 1 := IntWalk.i64_in _ (by omega)
        have i2 : IntKind.i64.wrap ((j : Int) + 2) = (j : Int) + 2 := IntWalk.i64_in _ (by omega)
        have p1 : 0 ≤ (j : Int) + 1 := by omega
        have p2 : 0 ≤ (j : Int) + 2 := by omega
        have p3 : (j : Int) + 1 < (t.size : Int) := by omega
        have p4 : (j : Int) + 2 < (t.size : Int) := by omega
        have n1 : ((j : Int) + 1).toNat = j + 1 := by omega
        have n2 : ((j : Int) + 2).toNat = j + 2 := by omega
        have b1 := (t[j+1]'(by omega)).toNat_lt
        have b2 := (t[j+2]'(by omega)).toNat_lt
        have w1 : IntKind.i32.wrap ((t[j+1]'(by omega)).toNat : Int) = ((t[j+1]'(by omega)).toNat : Int) := IntWalk.i32_in _ (by omega)
        have w2 : IntKind.i32.wrap ((t[j+2]'(by omega)).toNat : Int) = ((t[j+2]'(by omega)).toNat : Int) := IntWalk.i32_in _ (by omega)
        have x1 := hexV_bd ((t[j+1]'(by omega)).toNat : Int)
        have x2 := hexV_bd ((t[j+2]'(by omega)).toNat : Int)
        have w3 : IntKind.i64.wrap (16 * hexV ((t[j+1]'(by omega)).toNat : Int)) = 16 * hexV ((t[j+1]'(by omega)).toNat : Int) := IntWalk.i64_in _ (by omega)
        have w4 : IntKind.i64.wrap (16 * hexV ((t[j+1]'(by omega)).toNat : Int) + hexV ((t[j+2]'(by omega)).toNat : Int)) = 16 * hexV ((t[j+1]'(by omega)).toNat : Int) + hexV ((t[j+2]'(by omega)).toNat : Int) := IntWalk.i64_in _ (by omega)
        have hxv := (three_at t j hj3 (three_is t j hlt h3)).2
        obtain ⟨xv, hxe⟩ : ∃ xv, xv = valL (t.data.toList.drop j) := ⟨_, rfl⟩
        have w5 : IntKind.u8.wrap (16 * hexV ((t[j+1]'(by omega)).toNat : Int) + hexV ((t[j+2]'(by omega)).toNat : Int)) = xv := by
          rw [hxe, hxv]
          exact IntWalk.u8_in _ (by rw [← hxv]; exact hv)
        have hx2 : 0 ≤ xv ∧ xv ≤ 255 := by rw [hxe]; exact hv
        have H3 := Lib.hid h3
        have HX := Lib.hid hxe
        clear h3 hxe hxv hv
        go_wp2_with fail
        go_region_law (first | (go_simp; ((with_reducible refine (rValue_byte _ _).mono ?_); rintro e w' ⟨rfl, rfl⟩)) | (refine R_append_drew (Kd.int .u8) (w0 := w) w.heap.size ?h1 (.tmp 12) (.tmp 28) 41 5 (.int .u8 0) 1 ?h2 Try.underlying41 info_u8 rfl (by decide) (by omega) u3 (intsOf l) xv [.int .u8 xv] (fun _ => True) (fun _ => False) ?h3 ?h4 ?h5 (fun _ hk => hk.elim) (fun _ _ => trivial) HO.out HB.out hsz ?aL ?_; (case h1 => rfl); (case h2 => rfl); (case h3 => rfl); (case h4 => rfl); (case h5 => rfl); (case aL => rw [intsOf, List.length_map]; omega); intro v1 w1 ho hb hg _))
        all_goals
          go_wp2
          refine ⟨⟨j + 3, l ++ [UInt8.ofNat xv.toNat], by go_num, by simp; omega, by omega, ⟨?_⟩, ⟨?_⟩, ⟨hb⟩⟩, by simp [intOf]; omega⟩
          · rw [← hr.out, decL_three _ H3.out, HX.out, List.drop_drop, List.append_assoc]
            rfl
          · rw [intsOf_append]
            have : intsOf [UInt8.ofNat xv.toNat] = [xv] := by
              simp [intsOf]; omega
            rw [this]
            exact ho
    · have hcv := own_string (P := Try.prog) Try.underlying41 Try.underlying5 Try.underlying9 (Kd.own_of_R HO.out)
      go_wp2
      go_ret
      have he := hr.out
      rw [List.drop_of_length_le (by simp; omega), decL_nil, List.append_nil] at he
      exact ⟨ret_string (by rw [strOf_ints, he]), HB.out⟩
end Go.Proofs.Ytcillbkedocooaa
