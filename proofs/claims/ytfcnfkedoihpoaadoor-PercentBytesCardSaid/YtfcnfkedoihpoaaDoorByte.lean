/- percent.Byte and percent.In, marks. -/
import Derived.Test.YtfcnfkedoihpoaaDoorBase
import Derived.Test.YtfcnfkedoihpoaaDoorPct
namespace Go.Proofs.YtfcnfkedoihpoaaDoor
open Go.RowKit Go.Proofs.YtfcnfkedoihpoaaDoorW.PrintWords Go.Proofs.YtfcnfkedoihpoaaDoorW.PrintMore

def marks (s : Int) : ByteArray :=
  if s = 1 then ⟨#[32, 34, 60, 62, 96]⟩ else if s = 2 then ⟨#[32, 34, 35, 60, 62]⟩ else if s = 3 then ⟨#[32, 34, 35, 60, 62, 39]⟩
  else if s = 4 then ⟨#[32, 34, 35, 60, 62, 63, 94, 96, 123, 125]⟩ else if s = 5 then ⟨#[32, 34, 35, 60, 62, 63, 94, 96, 123, 125, 47, 58, 59, 61, 64, 91, 92, 93, 124]⟩ else ⟨#[]⟩

set_option maxHeartbeats 400000 in
theorem marks_calls (s : Int) (w : World) : Calls Tryd.prog 32 #[.int .u8 s] w fun e w' => e = .returned (.string (marks s)) ∧ w = w' := by
  go_enter Tryd.func32, Tryd.ntmps32
  go_wp2
  all_goals (go_ret; exact ⟨by simp_all [marks], rfl⟩)

/-- A digit to the base 16, as a byte. -/
def hexD (n : Int) : UInt8 := if n < 10 then UInt8.ofNat (48 + n.toNat) else UInt8.ofNat (55 + n.toNat)
/-- A byte as % and two digits. -/
def byteL (c : Int) : List UInt8 := [37, hexD (c / 16), hexD (c % 16)]
theorem hex_at (n : Int) (h0 : 0 ≤ n) (h1 : n < 16) (h : n.toNat < (⟨#[48, 49, 50, 51, 52, 53, 54, 55, 56, 57, 65, 66, 67, 68, 69, 70]⟩ : ByteArray).size) :
    UInt8.ofNat (((⟨#[48, 49, 50, 51, 52, 53, 54, 55, 56, 57, 65, 66, 67, 68, 69, 70]⟩ : ByteArray)[n.toNat]'h).toNat : Int).toNat = hexD n := by
  have : n = 0 ∨ n = 1 ∨ n = 2 ∨ n = 3 ∨ n = 4 ∨ n = 5 ∨ n = 6 ∨ n = 7 ∨ n = 8 ∨ n = 9 ∨ n = 10 ∨ n = 11 ∨ n = 12 ∨ n = 13 ∨ n = 14 ∨ n = 15 := by omega
  rcases this with rfl | rfl | rfl | rfl | rfl | rfl | rfl | rfl | rfl | rfl | rfl | rfl | rfl | rfl | rfl | rfl <;> rfl

set_option maxHeartbeats 400000 in
theorem Byte_calls (c : Int) (h0 : 0 ≤ c) (h1 : c ≤ 255) (w : World) : Calls Tryd.prog 10 #[.int .u8 c] w fun e w' => e = .returned (.string ⟨(byteL c).toArray⟩) ∧ Below w.heap.size w w' := by
  go_enter Tryd.func10, Tryd.ntmps10
  have b1 : 0 ≤ c / 16 := by omega
  have b2 : c / 16 < 16 := by omega
  have b3 : 0 ≤ c % 16 := by omega
  have b4 : c % 16 < 16 := by omega
  have hcv : ∀ x y z : Int, (convert 59 9 (.slice (some ⟨w.heap.size, 0, none⟩) 3 3)).run Tryd.prog (w.alloc (.cells #[.int .u8 x, .int .u8 y, .int .u8 z] 5)).drew = .ok (.string (strOfNums [x, y, z])) (w.alloc (.cells #[.int .u8 x, .int .u8 y, .int .u8 z] 5)).drew := fun x y z =>
    run_convert_bytes_arg _ 59 5 Tryd.underlying59 Tryd.underlying5 w.heap.size 0 3 3 [x, y, z] rfl (by
      intro i hi
      have : i = 0 ∨ i = 1 ∨ i = 2 := by omega
      rcases this with rfl | rfl | rfl <;> simp) 9 Tryd.underlying9
  go_wp2
  go_region
  go_wp2
  go_ret
  refine ⟨ret_string ?_, ((Below.refl _ _).alloc (Nat.le_refl _) _).drew⟩
  simp only [strOfNums, List.map_cons, List.map_nil, byteL, hex_at (c / 16) b1 b2, hex_at (c % 16) b3 b4]
  rfl

/-- Is a code point in a set? -/
def inSet (s r : Int) : Bool := if 5 < s then false else decide (r < 32) || decide (126 < r) || hasRune (marks s) r
set_option maxHeartbeats 400000 in
theorem In_calls (s r : Int) (w : World) : Calls Tryd.prog 11 #[.int .u8 s, .int .i32 r] w fun e w' => e = .returned (.bool (inSet s r)) ∧ Below w.heap.size w w' := by
  by_cases h5 : 5 < s
  · go_enter Tryd.func11, Tryd.ntmps11
    go_wp2
    go_ret
    exact ⟨by simp [inSet, h5], Below.refl _ _⟩
  · by_cases h32 : r < 32
    · go_enter Tryd.func11, Tryd.ntmps11
      go_wp2
      go_ret
      exact ⟨by simp [inSet, h5, h32], Below.refl _ _⟩
    · by_cases h126 : 126 < r
      · go_enter Tryd.func11, Tryd.ntmps11
        go_wp2
        go_ret
        exact ⟨by simp [inSet, h5, h126], Below.refl _ _⟩
      · have e : inSet s r = hasRune (marks s) r := by simp [inSet, h5, h32, h126]
        have E := Lib.hid e
        clear e
        go_enter Tryd.func11, Tryd.ntmps11
        go_wp2_with fail
        refine (marks_calls s _).mono ?_
        rintro e w1 ⟨rfl, rfl⟩
        go_wp2_with fail
        refine (hasRune_calls _ r _).mono ?_
        rintro e w1 ⟨rfl, hb⟩
        go_wp2
        go_ret
        exact ⟨by rw [E.out]; rfl, hb⟩
end Go.Proofs.YtfcnfkedoihpoaaDoor
