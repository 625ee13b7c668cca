/- The document's Split and Ends. -/
import Derived.Test.YtfcnfkedoihpoaaDoorNumR2
namespace Go.Proofs.YtfcnfkedoihpoaaDoor
open Go.RowKit Go.Proofs.YtfcnfkedoihpoaaDoorW.PrintWords Go.Proofs.YtfcnfkedoihpoaaDoorW.PrintMore

theorem isAt_has (a : ByteArray) (c : UInt8) : hasL a.data.toList (c.toNat : Int) = isAt a c := by
  rw [isAt, ← Lib.contains_iff_indexByte, Bool.eq_iff_iff]
  simp only [hasL, intsOf, List.contains_iff_mem, List.mem_map]
  constructor
  · rintro ⟨x, hx, he⟩
    obtain rfl : x = c := UInt8.toNat_inj.1 (by exact_mod_cast he)
    exact hx
  · intro h
    exact ⟨c, h, rfl⟩
theorem piece_app (s : ByteArray) (k j : Nat) (hk : k ≤ j) (hj : j < s.size) : (⟨(piece s k j).toArray⟩ : ByteArray) ++ s.extract j (j + 1) = ⟨(piece s k (j + 1)).toArray⟩ := by
  rw [extract_piece s j (j + 1), piece_step s j j (by omega) hj, piece_self, piece_step s k j hk hj]
  apply ByteArray.ext
  rw [ByteArray.data_append]
  simp

set_option maxHeartbeats 1000000 in
theorem rSplit_calls (s a : ByteArray) (w : World) (hs : s.size ≤ 1000000) (ha : a.size ≤ 1000000) :
    Calls Tryd.prog 44 #[.string s, .string a] w fun e w' => ∃ v : Value, e = .returned v ∧ Kd.R Kd.string 9 w' w.heap.size (fun _ => True) v (strs (splitL (isAt a) s.data.toList)) ∧ Below w.heap.size w w' := by
  go_enter Tryd.func44, Tryd.ntmps44
  go_wp2
  go_loopw [5, 6, 7] (fun v p i wr => ∃ (j k : Nat) (l : List (List UInt8)), i = .int .i64 j ∧ p = .string ⟨(piece s k j).toArray⟩ ∧ k ≤ j ∧ j ≤ s.size ∧ l.length ≤ j ∧ Aside0 (l ++ glue (piece s k j) (splitL (isAt a) (s.data.toList.drop j)) = splitL (isAt a) s.data.toList) ∧ Aside0 (Kd.R Kd.string 9 wr w.heap.size (fun _ => True) v (strs l)) ∧ Aside0 (Below w.heap.size w wr)) (fun _ _ i _ => s.size - (intOf i).toNat)
  case atStart => exact ⟨0, 0, [], rfl, by rw [piece_self], by omega, by omega, by simp, ⟨by rw [piece_self, glue_nil _ (splitL_ne _ _)]; rfl⟩, ⟨Kd.R_nil _ _ _ _ _⟩, ⟨Below.refl _ _⟩⟩
  case round =>
    obtain ⟨j, k, l, rfl, rfl, hk, hj, hl, hr, HO, HB⟩ := hrel
    have hsz : w.heap.size ≤ wr.heap.size := HB.out.size
    have hll := strs_length l
    have HLL := Lib.hid hll
    clear hll
    by_cases hlt : j < s.size
    · have hb := (s[j]'hlt).toNat_lt
      have Hd := Lib.hid (drop_byte s j hlt)
      have HP := Lib.hid (piece_app s k j hk hlt)
      have hpl : (piece s k j).length ≤ s.size := by rw [← mk_size, ← extract_piece, ByteArray.size_extract]; omega
      go_wp2_with fail
      refine (Has_calls a _ ha _).mono ?_
      rintro e w1 ⟨rfl, rfl⟩
      rw [isAt_has]
      cases hc : isAt a (s[j]'hlt)
      · have Hc := Lib.hid hc
        clear hc
        go_wp2_with fail
        refine ⟨⟨j + 1, k, l, by go_num, ?_, by omega, by omega, by omega, ⟨?_⟩, HO, HB⟩, by simp [intOf]; omega⟩
        · rw [HP.out]
        · rw [← hr.out, Hd.out, split_on _ _ _ _ Hc.out, piece_step s k j hk hlt]
      · have Hc := Lib.hid hc
        clear hc
        go_wp2_with ((with_reducible refine gate_builtin (b := .append) (xs := #[.tmp 19, .tmp 21]) rfl ?_); at_builtin; refine Kd.R_append Kd.string (w0 := w) w.heap.size rfl (.tmp 19) (.tmp 21) 33 9 (.string ⟨#[]⟩) 16 rfl Tryd.underlying33 info_string rfl (by decide) (by omega) u5 (strs l) ⟨(piece s k j).toArray⟩ [.string ⟨(piece s k j).toArray⟩] (fun _ => True) (fun _ => False) rfl rfl ?aP (fun _ hk => hk.elim) ?aF ?aO ?aB ?aS ?aL ?_; (case aP => exact rfl); (case aF => exact fun _ _ => trivial); (case aO => exact HO.out); (case aB => exact HB.out); (case aS => omega); (case aL => rw [HLL.out]; omega); intro v1 w1 ho hb hg _)
        refine ⟨⟨j + 1, j + 1, l ++ [piece s k j], by go_num, by rw [piece_self], by omega, by omega, by simp; omega, ⟨?_⟩, ⟨?_⟩, ⟨hb⟩⟩, by simp [intOf]; omega⟩
        · rw [← hr.out, Hd.out, split_at _ _ _ _ Hc.out, piece_self, glue_nil _ (splitL_ne _ _), List.append_assoc]
          rfl
        · rw [strs_append, show strs [piece s k j] = [⟨(piece s k j).toArray⟩] from rfl]
          exact ho
    · obtain rfl : j = s.size := by omega
      go_wp2_with ((with_reducible refine gate_builtin (b := .append) (xs := #[.tmp 30, .tmp 32]) rfl ?_); at_builtin; refine Kd.R_append Kd.string (w0 := w) w.heap.size rfl (.tmp 30) (.tmp 32) 33 9 (.string ⟨#[]⟩) 16 rfl Tryd.underlying33 info_string rfl (by decide) (by omega) u5 (strs l) ⟨(piece s k s.size).toArray⟩ [.string ⟨(piece s k s.size).toArray⟩] (fun _ => True) (fun _ => False) rfl rfl ?aP (fun _ hk => hk.elim) ?aF ?aO ?aB ?aS ?aL ?_; (case aP => exact rfl); (case aF => exact fun _ _ => trivial); (case aO => exact HO.out); (case aB => exact HB.out); (case aS => omega); (case aL => rw [HLL.out]; omega); intro v1 w1 ho hb hg _)
      go_ret
      refine ⟨_, rfl, ?_, hb⟩
      have he := hr.out
      rw [List.drop_of_length_le (by simp)] at he
      rw [← he, show glue (piece s k s.size) (splitL (isAt a) []) = [piece s k s.size] by simp [splitL, glue], strs_append, show strs [piece s k s.size] = [⟨(piece s k s.size).toArray⟩] from rfl]
      exact ho
end Go.Proofs.YtfcnfkedoihpoaaDoor
