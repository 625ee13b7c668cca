/- The document's Has. -/
import Derived.Test.YtfcnfkedoihpoaaDoorKit
import Derived.Test.YtfcnfkedoihpoaaDoorDec
namespace Go.Proofs.YtfcnfkedoihpoaaDoor
open Go.RowKit Go.Proofs.YtfcnfkedoihpoaaDoorW.PrintWords Go.Proofs.YtfcnfkedoihpoaaDoorW.PrintMore

/-- Is a number one of a text's bytes? -/
def hasL (l : List UInt8) (c : Int) : Bool := (intsOf l).contains c
set_option maxHeartbeats 1000000 in
theorem Has_calls (s : ByteArray) (c : Int) (hs : s.size ≤ 1000000) (w : World) :
    Calls Tryd.prog 71 #[.string s, .int .u8 c] w fun e w' => e = .returned (.bool (hasL s.data.toList c)) ∧ w = w' := by
  go_enter Tryd.func71, Tryd.ntmps71
  go_wp2
  go_loop [5] (fun i => ∃ j : Nat, i = .int .i64 j ∧ j ≤ s.size ∧ Aside0 (hasL (s.data.toList.drop j) c = hasL s.data.toList c)) (fun i => s.size - (intOf i).toNat)
  case atStart => exact ⟨0, rfl, by omega, ⟨rfl⟩⟩
  case round =>
    obtain ⟨j, rfl, hj, hr⟩ := hrel
    by_cases hlt : j < s.size
    · have hst : hasL (s.data.toList.drop j) c = (c == ((s[j]'hlt).toNat : Int) || hasL (s.data.toList.drop (j + 1)) c) := by
        rw [drop_byte s j hlt]; rfl
      have Hst := Lib.hid hst
      cases hc : (((s[j]'hlt).toNat : Int) == c)
      · have Hc := Lib.hid hc
        clear hst
        go_wp2
        refine ⟨⟨j + 1, by go_num, by omega, ⟨?_⟩⟩, by simp [intOf]; omega⟩
        rw [← hr.out, Hst.out, BEq.comm, Hc.out]; rfl
      · have Hc := Lib.hid hc
        clear hst
        go_wp2
        go_ret
        exact ⟨ret_bool (by rw [← hr.out, Hst.out, BEq.comm, Hc.out]; rfl), rfl⟩
    · go_wp2
      go_ret
      have he := hr.out
      rw [List.drop_of_length_le (by simp; omega)] at he
      exact ⟨ret_bool (by rw [← he]; rfl), rfl⟩
end Go.Proofs.YtfcnfkedoihpoaaDoor
