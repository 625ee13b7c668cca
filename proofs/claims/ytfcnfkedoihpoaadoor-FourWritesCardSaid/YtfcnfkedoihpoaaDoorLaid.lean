/- What the listed variables give: the errors' variables, the powers of ten; a start that meets the lists. -/
import Derived.Test.YtfcnfkedoihpoaaDoorRows
import Derived.Test.YtfcnfkedoihpoaaDoorDecim
import Derived.Stop.LaidErr
import Derived.Lib.LaidTab
import Derived.LaidMore
import Derived.Lib.SmallJoins
namespace Go.Proofs.YtfcnfkedoihpoaaDoor
open Go.RowKit Go.ChangeShapes Go.WideShapes Go.Proofs.YtfcnfkedoihpoaaDoorW.PrintWords Go.Proofs.YtfcnfkedoihpoaaDoorW.PrintMore

theorem lStar : "*" ++ "errors.errorString" = "*errors.errorString" := by decide
theorem lRow (u : TypeId) (h : Tryd.prog.typeName? 3 u = some "*errors.errorString") : u = 160 :=
  typeName_ptr_named (nm := "errors.errorString") (by rw [lStar]; kernel_rfl) (by kernel_rfl) (by decide) u (by rw [lStar]; exact h)
theorem gRange : Tryd.prog.globalNamed "strconv.ErrRange" = some 8 := by kernel_rfl
theorem gRangeType : (Tryd.prog.globals[8]?).map (·.type) = some 67 := by kernel_rfl
theorem gPow : Tryd.prog.globalNamed "internal/strconv.uint64pow10" = some 1 := by kernel_rfl
theorem gPowType : (Tryd.prog.globals[1]?).map (·.type) = some 122 := by kernel_rfl
theorem lCellsE : Tryd.prog.cellsOf 162 = 1 := by kernel_rfl
theorem lCellsS : Tryd.prog.cellsOf 9 = 1 := by kernel_rfl
theorem lCellsU : Tryd.prog.cellsOf 32 = 1 := by kernel_rfl
theorem lCellsP : Tryd.prog.cellsOf 122 = 20 := by kernel_rfl
/-- The powers of ten. -/
def Pows (w : World) : Prop := Lib.TabIs Tryd.prog w "internal/strconv.uint64pow10" .u64 Lib.pow10Tab
theorem powData : (Rows.laid_internal_strconv_uint64pow10 : DataW Unit) = Lib.tabData .u64 Lib.pow10Tab := by rfl
theorem errs_of {r : List (String × DataW Unit)} {W : World} (h : laidMet Tryd.prog (("strconv.ErrRange", Rows.laid_strconv_ErrRange) :: r) W) : Errs W := by
  obtain ⟨a, s, hv, _, _, _⟩ := laid_sentinel h gRange gRangeType Tryd.underlying67 lRow Tryd.underlying160 Tryd.underlying162 rfl rfl Tryd.underlying9 lCellsE lCellsS
  exact ⟨_, _, by simpa using World.var?_cell gRange hv 0⟩
theorem pows_of {r : List (String × DataW Unit)} {W : World} (h : laidMet Tryd.prog (("internal/strconv.uint64pow10", Rows.laid_internal_strconv_uint64pow10) :: r) W) : Pows W := by
  rw [powData] at h
  exact Lib.tabIs_of_head gPow gPowType Tryd.underlying122 Tryd.underlying32 lCellsU lCellsP h
theorem Pows.stays {w w' : World} (h : Pows w) (hb : Below w.heap.size w w') : Pows w' := Joins.tab_stays gPow h hb (Nat.le_refl _)
end Go.Proofs.YtfcnfkedoihpoaaDoor
