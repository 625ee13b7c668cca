/- The code points of a string as the model's range gives them, one by one: plain Lean, of no program. -/
import Derived.Laws.RangeString
import Derived.Laws.RangeAny
import Derived.Lib.OthersKept
namespace Go.Proofs.YtfcnfkedoihpoaaDoor
open Go

theorem width_pos (s : ByteArray) (pos : Nat) (h : pos < s.size) : 1 ≤ (Utf8.decode s pos).2 := by
  by_cases ha : (s[pos]'h).toNat < 128
  · rw [decode_ascii s pos h ha]
    exact Nat.le_refl _
  · exact (decode_high s pos h (by omega)).2

def rnF (s : ByteArray) : Nat → Nat → List Int
  | 0, _ => []
  | f + 1, p => if p < s.size then ((Utf8.decode s p).1 : Int) :: rnF s f (p + (Utf8.decode s p).2) else []
/-- The code points of a string. -/
def rn (s : ByteArray) : List Int := rnF s s.size 0

theorem rnF_end (s : ByteArray) (f p : Nat) (h : ¬ p < s.size) : rnF s f p = [] := by
  cases f with
  | zero => rfl
  | succ f => simp [rnF, h]
theorem rnF_step (s : ByteArray) (f p : Nat) (h : p < s.size) (hf : s.size ≤ p + f) : ∃ g, f = g + 1 ∧ rnF s f p = ((Utf8.decode s p).1 : Int) :: rnF s g (p + (Utf8.decode s p).2) := by
  obtain ⟨g, rfl⟩ : ∃ g, f = g + 1 := ⟨f - 1, by omega⟩
  exact ⟨g, rfl, by simp [rnF, h]⟩

end Go.Proofs.YtfcnfkedoihpoaaDoor
