/- math/bits.TrailingZeros at 8 and 16; internal/strconv.isPowerOfTwo there. -/
import Derived.Test.YtajcndaealonbaaDoorFmt
namespace Go.Proofs.YtajcndaealonbaaDoor
open Go.RowKit Go.ChangeShapes Go.Proofs.YtajcndaealonbaaDoorW.PrintWords Go.Proofs.YtajcndaealonbaaDoorW.PrintMore

/-- The bits' table. -/
def tab64 : List Int := [0, 1, 56, 2, 57, 49, 28, 3, 61, 58, 42, 50, 38, 29, 17, 4, 62, 47, 59, 36, 45, 43, 51, 22, 53, 39, 33, 30, 24, 18, 12, 5, 63, 55, 48, 27, 60, 41, 37, 16, 46, 35, 44, 21, 52, 32, 23, 11, 54, 26, 40, 15, 34, 20, 31, 10, 25, 14, 19, 9, 13, 8, 7, 6]
def Debr (w : World) : Prop := Lib.TabIs Tryd.prog w "math/bits.deBruijn64tab" .u8 tab64
theorem gDebr : Tryd.prog.globalNamed "math/bits.deBruijn64tab" = some 8 := by kernel_rfl
theorem gDebrType : (Tryd.prog.globals[8]?).map (·.type) = some 158 := by kernel_rfl
theorem debrData : (Rows.laid_math_bits_deBruijn64tab : DataW Unit) = Lib.tabData .u8 tab64 := by rfl
theorem lCellsB : Tryd.prog.cellsOf 5 = 1 := by kernel_rfl
theorem lCellsD : Tryd.prog.cellsOf 158 = 64 := by kernel_rfl
theorem debr_of {r : List (String × DataW Unit)} {W : World} (h : laidMet Tryd.prog (("math/bits.deBruijn64tab", Rows.laid_math_bits_deBruijn64tab) :: r) W) : Debr W := by
  rw [debrData] at h
  exact Lib.tabIs_of_head gDebr gDebrType Tryd.underlying158 Tryd.underlying5 lCellsB lCellsD h
theorem Debr.stays {w w' : World} (h : Debr w) (hb : Below w.heap.size w w') : Debr w' := Joins.tab_stays gDebr h hb (Nat.le_refl _)

set_option maxHeartbeats 1000000 in
theorem Tz64_calls (b sh : Int) (h : b = 8 ∧ sh = 3 ∨ b = 16 ∧ sh = 4) (w : World) (hT : Debr w) :
    Calls Tryd.prog 117 #[.int .u64 b] w fun e w' => e = .returned (.int .i64 sh) ∧ w = w' := by
  have c3 : w.cell? ⟨8, 7, none⟩ = some (.int .u8 3) := hT.cell gDebr 7 (by decide)
  have c4 : w.cell? ⟨8, 15, none⟩ = some (.int .u8 4) := hT.cell gDebr 15 (by decide)
  have e8 : Go.bits .and .u64 8 (IntKind.u64.wrap (-8)) = 8 := by decide +kernel
  have e16 : Go.bits .and .u64 16 (IntKind.u64.wrap (-16)) = 16 := by decide +kernel
  have f8 : IntKind.u64.wrap (8 * 285870213051353865) = 2286961704410830920 := by decide +kernel
  have f16 : IntKind.u64.wrap (16 * 285870213051353865) = 4573923408821661840 := by decide +kernel
  rcases h with ⟨rfl, rfl⟩ | ⟨rfl, rfl⟩
  all_goals
    go_enter Tryd.func117, Tryd.ntmps117
    go_wp2
    go_ret
    exact ⟨rfl, rfl⟩
theorem Tz_calls (b sh : Int) (h : b = 8 ∧ sh = 3 ∨ b = 16 ∧ sh = 4) (w : World) (hT : Debr w) :
    Calls Tryd.prog 102 #[.int .u64 b] w fun e w' => e = .returned (.int .i64 sh) ∧ w = w' := by
  have hb : 0 ≤ b ∧ b ≤ 16 := by omega
  have HH := Lib.hid h
  clear h
  go_enter Tryd.func102, Tryd.ntmps102
  go_wp2_with fail
  refine (Tz64_calls b sh HH.out _ hT).mono ?_
  rintro e w1 ⟨rfl, rfl⟩
  go_wp2_with fail
  go_ret
  exact ⟨rfl, rfl⟩
theorem Pow2_calls (b : Int) (h : b = 8 ∨ b = 16) (w : World) :
    Calls Tryd.prog 101 #[.int .i64 b] w fun e w' => e = .returned (.bool true) ∧ w = w' := by
  have e8 : Go.bits .and .i64 8 7 = 0 := by decide +kernel
  have e16 : Go.bits .and .i64 16 15 = 0 := by decide +kernel
  rcases h with rfl | rfl
  all_goals
    go_enter Tryd.func101, Tryd.ntmps101
    go_wp2
    go_ret
    exact ⟨rfl, rfl⟩
end Go.Proofs.YtajcndaealonbaaDoor
