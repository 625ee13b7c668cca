/- scalar.Split and number.Ends. -/
import Derived.Test.YtfcnfkedoihpoaaDoorNum1
import Derived.Test.YtfcnfkedoihpoaaDoorSh
namespace Go.Proofs.YtfcnfkedoihpoaaDoor
open Go.RowKit Go.Proofs.YtfcnfkedoihpoaaDoorW.PrintWords Go.Proofs.YtfcnfkedoihpoaaDoorW.PrintMore

def strs (l : List (List UInt8)) : List ByteArray := l.map fun x => ⟨x.toArray⟩
theorem strs_length (l : List (List UInt8)) : (strs l).length = l.length := by simp [strs]
theorem strs_append (a b : List (List UInt8)) : strs (a ++ b) = strs a ++ strs b := by simp [strs]
/-- A piece of a text. -/
def piece (s : ByteArray) (a b : Nat) : List UInt8 := (s.data.toList.drop a).take (b - a)
theorem extract_piece (s : ByteArray) (a b : Nat) : s.extract a b = ⟨(piece s a b).toArray⟩ := by
  apply ByteArray.ext
  apply Array.ext'
  rw [Lib.extract_data]
  simp [piece]
theorem piece_self (s : ByteArray) (a : Nat) : piece s a a = [] := by simp [piece]
theorem piece_step (s : ByteArray) (a b : Nat) (h : a ≤ b) (hb : b < s.size) : piece s a (b + 1) = piece s a b ++ [s[b]'hb] := by
  unfold piece
  rw [show b + 1 - a = (b - a) + 1 by omega, List.take_succ_eq_append_getElem (by simp; omega)]
  congr 1
  simp
  have : a + (b - a) = b := by omega
  simp only [this]
  rfl
theorem piece_end (s : ByteArray) (a : Nat) : piece s a s.size = s.data.toList.drop a := by
  unfold piece
  rw [List.take_of_length_le (by simp)]
/-- Is a byte one of those to split at? -/
def isAt (at_ : ByteArray) (c : UInt8) : Bool := decide (0 ≤ Lib.indexByte at_.data.toList c)

set_option maxHeartbeats 1000000 in
theorem Split_calls (s a : ByteArray) (w : World) (hs : s.size ≤ 1000000) :
    Calls Tryd.prog 42 #[.string s, .string a] w fun e w' => ∃ v : Value, e = .returned v ∧ Kd.R Kd.string 9 w' w.heap.size (fun _ => True) v (strs (splitL (isAt a) s.data.toList)) ∧ Below w.heap.size w w' := by
  go_enter Tryd.func42, Tryd.ntmps42
  go_wp2
  go_loopw [5, 6, 10] (fun v fr i wr => ∃ (j k : Nat) (l : List (List UInt8)), i = .int .i64 j ∧ fr = .int .i64 k ∧ k ≤ j ∧ j ≤ s.size ∧ l.length ≤ j ∧ Aside0 (l ++ glue (piece s k j) (splitL (isAt a) (s.data.toList.drop j)) = splitL (isAt a) s.data.toList) ∧ Aside0 (Kd.R Kd.string 9 wr w.heap.size (fun _ => True) v (strs l)) ∧ Aside0 (Below w.heap.size w wr)) (fun _ _ i _ => s.size - (intOf i).toNat)
  case atStart => exact ⟨0, 0, [], rfl, rfl, by omega, by omega, by simp, ⟨by rw [piece_self, glue_nil _ (splitL_ne _ _)]; rfl⟩, ⟨Kd.R_nil _ _ _ _ _⟩, ⟨Below.refl _ _⟩⟩
  case round =>
    obtain ⟨j, k, l, rfl, rfl, hk, hj, hl, hr, HO, HB⟩ := hrel
    have hsz : w.heap.size ≤ wr.heap.size := HB.out.size
    have hll := strs_length l
    have HLL := Lib.hid hll
    clear hll
    by_cases hlt : j < s.size
    · have hb := (s[j]'hlt).toNat_lt
      go_wp2_with fail
      refine (Tryd.strings_IndexByte a _ _).mono ?_
      rintro e w1 ⟨rfl, rfl⟩
      have hbyte : ((s[j]'hlt).toNat : Int).toNat.toUInt8 = s[j]'hlt := by simp
      rw [hbyte]
      clear hbyte
      have Hd := Lib.hid (drop_byte s j hlt)
      cases hc : isAt a (s[j]'hlt)
      · have hc' : ¬ 0 ≤ Lib.indexByte a.data.toList (s[j]'hlt) := by simpa [isAt] using hc
        have Hc := Lib.hid hc
        clear hc
        go_wp2_with fail
        refine ⟨⟨j + 1, k, l, by go_num, rfl, by omega, by omega, by omega, ⟨?_⟩, HO, HB⟩, by simp [intOf]; omega⟩
        rw [← hr.out, Hd.out, split_on _ _ _ _ Hc.out, piece_step s k j hk hlt]
      · have hc' : 0 ≤ Lib.indexByte a.data.toList (s[j]'hlt) := by simpa [isAt] using hc
        have Hc := Lib.hid hc
        clear hc
        go_wp2_with ((with_reducible refine gate_builtin (b := .append) (xs := #[.tmp 19, .tmp 24]) rfl ?_); at_builtin; refine Kd.R_append Kd.string (w0 := w) w.heap.size rfl (.tmp 19) (.tmp 24) 33 9 (.string ⟨#[]⟩) 16 rfl Tryd.underlying33 info_string rfl (by decide) (by omega) u5 (strs l) (s.extract k j) [.string (s.extract k j)] (fun _ => True) (fun _ => False) rfl rfl ?aP (fun _ hk => hk.elim) ?aF ?aO ?aB ?aS ?aL ?_; (case aP => exact rfl); (case aF => exact fun _ _ => trivial); (case aO => exact HO.out); (case aB => exact HB.out); (case aS => omega); (case aL => rw [HLL.out]; omega); intro v1 w1 ho hb hg _)
        refine ⟨⟨j + 1, j + 1, l ++ [piece s k j], by go_num, by go_num, by omega, by omega, by simp; omega, ⟨?_⟩, ⟨?_⟩, ⟨hb⟩⟩, by simp [intOf]; omega⟩
        · rw [← hr.out, Hd.out, split_at _ _ _ _ Hc.out, piece_self, glue_nil _ (splitL_ne _ _), List.append_assoc]
          rfl
        · rw [strs_append, show strs [piece s k j] = [s.extract k j] by rw [extract_piece]; rfl]
          exact ho
    · obtain rfl : j = s.size := by omega
      go_wp2_with ((with_reducible refine gate_builtin (b := .append) (xs := #[.tmp 29, .tmp 33]) rfl ?_); at_builtin; refine Kd.R_append Kd.string (w0 := w) w.heap.size rfl (.tmp 29) (.tmp 33) 33 9 (.string ⟨#[]⟩) 16 rfl Tryd.underlying33 info_string rfl (by decide) (by omega) u5 (strs l) (s.extract k s.size) [.string (s.extract k s.size)] (fun _ => True) (fun _ => False) rfl rfl ?aP (fun _ hk => hk.elim) ?aF ?aO ?aB ?aS ?aL ?_; (case aP => exact rfl); (case aF => exact fun _ _ => trivial); (case aO => exact HO.out); (case aB => exact HB.out); (case aS => omega); (case aL => rw [HLL.out]; omega); intro v1 w1 ho hb hg _)
      go_ret
      refine ⟨_, rfl, ?_, hb⟩
      have he := hr.out
      rw [List.drop_of_length_le (by simp)] at he
      rw [← he, show glue (piece s k s.size) (splitL (isAt a) []) = [piece s k s.size] by simp [splitL, glue], strs_append, show strs [piece s k s.size] = [s.extract k s.size] by rw [extract_piece]; rfl]
      exact ho
end Go.Proofs.YtfcnfkedoihpoaaDoor
