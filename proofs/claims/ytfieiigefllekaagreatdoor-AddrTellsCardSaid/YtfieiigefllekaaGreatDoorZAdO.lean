/- The order of addresses: plain Lean; and whether two are one. -/
import Derived.Test.YtfieiigefllekaaGreatDoorZAd1
import Derived.Lib.IfaceEq
import Derived.Stop.Asserts
namespace Go.Proofs.YtfieiigefllekaaGreatDoor
open Go.RowKit Go.Proofs.YtfieiigefllekaaGreatDoorW.PrintWords

theorem cmpI_val (a b : Int) : (a < b ∧ cmpI a b = -1) ∨ (a = b ∧ cmpI a b = 0) ∨ (b < a ∧ cmpI a b = 1) := by
  rw [cmpI]
  split
  · exact .inl ⟨by assumption, rfl⟩
  · split
    · exact .inr (.inr ⟨by assumption, rfl⟩)
    · exact .inr (.inl ⟨by omega, rfl⟩)
theorem orI_val (x y z : Int) : (x ≠ 0 ∧ orI x y z = x) ∨ (x = 0 ∧ y ≠ 0 ∧ orI x y z = y) ∨ (x = 0 ∧ y = 0 ∧ orI x y z = z) := by
  rw [orI]
  split
  · exact .inl ⟨by assumption, rfl⟩
  · split
    · exact .inr (.inl ⟨by omega, by assumption, rfl⟩)
    · exact .inr (.inr ⟨by omega, by omega, rfl⟩)
/-- The order of two, told. -/
theorem cmpA_val (a b : Bool × Int × Int) : (cmpA a b = 1 ∧ (adHi b < adHi a ∨ (adHi a = adHi b ∧ (adLo b < adLo a ∨ (adLo a = adLo b ∧ adRank b < adRank a))))) ∨
    (cmpA a b = -1 ∧ (adHi a < adHi b ∨ (adHi a = adHi b ∧ (adLo a < adLo b ∨ (adLo a = adLo b ∧ adRank a < adRank b))))) ∨
    (cmpA a b = 0 ∧ adHi a = adHi b ∧ adLo a = adLo b ∧ adRank a = adRank b) := by
  have h1 := cmpI_val (adHi a) (adHi b)
  have h2 := cmpI_val (adLo a) (adLo b)
  have h3 := cmpI_val (adRank a) (adRank b)
  have h4 := orI_val (cmpI (adHi a) (adHi b)) (cmpI (adLo a) (adLo b)) (cmpI (adRank a) (adRank b))
  rw [← cmpA] at h4
  omega
theorem cmpA_flip (a b : Bool × Int × Int) : cmpA a b = -cmpA b a := by
  have h1 := cmpA_val a b
  have h2 := cmpA_val b a
  omega
theorem cmpA_trans (a b c : Bool × Int × Int) (h : 0 < cmpA a b) (h' : 0 < cmpA b c) : 0 < cmpA a c := by
  have h1 := cmpA_val a b
  have h2 := cmpA_val b c
  have h3 := cmpA_val a c
  omega
theorem cmpA_bd (a b : Bool × Int × Int) : -1 ≤ cmpA a b ∧ cmpA a b ≤ 1 := by
  have h1 := cmpA_val a b
  omega
theorem cmpA_same (a b : Bool × Int × Int) (ha : adOk a) (hb : adOk b) : cmpA a b = 0 ↔ a = b := by
  have h1 := cmpA_val a b
  obtain ⟨sx, hi, lo⟩ := a
  obtain ⟨sy, hi', lo'⟩ := b
  cases sx <;> cases sy <;> simp only [adHi, adLo, adRank, adOk, Prod.mk.injEq, reduceCtorEq, false_and, iff_false, true_and] at * <;> omega
theorem eqIface {P : Program} {D : Nat} {ti tx : TypeId} {ms : Array (String × TypeId)} {vx vy : Value} {i : TypeInfo} (w : World) (hi : P.underlying ti = some (.interface ms)) (hinfo : P.info? tx = some i) (hcomp : i.comparable = true) : (Op.equalIn (D + 1) ti (.iface tx vx) (.iface tx vy)).run P w = (Op.equalIn D tx vx vy).run P w := by
  simp [Op.equalIn, run_underlying hi, typeInfo, hinfo, hcomp]
set_option maxRecDepth 100000 in
theorem eq_six (d : Nat) (hi lo hi' lo' : Int) (w : World) : (Op.equalIn (d + 2) 25 (.agg #[.int .u64 hi, .int .u64 lo]) (.agg #[.int .u64 hi', .int .u64 lo'])).run Tryz.prog w = .ok (hi == hi' && lo == lo') w := by
  have hs := Tryz.sizeOf23
  have ha := Tryz.isAgg23
  rw [run_equalIn_agg w (d + 1) 25 _ _ (by kernel_rfl) (by kernel_rfl)]
  cases e1 : hi == hi' <;> simp [Program.fieldsOf, Tryz.underlying25, Op.eqFields, part, hs, ha, e1, go_sem]
  cases e2 : lo == lo'
  · rw [if_neg (by simpa using e2)]
  · rw [if_pos (by simpa using e2)]
set_option maxRecDepth 100000 in
theorem eq_66 (hi lo hi' lo' : Int) (w : World) : (binOp .eql 44 (.iface 25 (.agg #[.int .u64 hi, .int .u64 lo])) (.iface 25 (.agg #[.int .u64 hi', .int .u64 lo']))).run Tryz.prog w = .ok (.bool (hi == hi' && lo == lo')) w := by
  have hc : (Tryz.prog.info? 25).map (·.comparable) = some true := by kernel_rfl
  cases hi6 : Tryz.prog.info? 25 with
  | none => simp [hi6] at hc
  | some i =>
    have hcc : i.comparable = true := by simpa [hi6] using hc
    have h : ∀ d : Nat, (Op.equalIn (d + 3) 44 (.iface 25 (.agg #[.int .u64 hi, .int .u64 lo])) (.iface 25 (.agg #[.int .u64 hi', .int .u64 lo']))).run Tryz.prog w = .ok (hi == hi' && lo == lo') w := fun d => by
      rw [eqIface w Tryz.underlying44 hi6 hcc, eq_six]
    simp only [binOp]
    simp [Op.equal, Op.maxDepth, h 9997]
theorem eq_ad (a b : Bool × Int × Int) (ha : adOk a) (hb : adOk b) (w : World) : (binOp .eql 44 (adV a) (adV b)).run Tryz.prog w = .ok (.bool (cmpA a b == 0)) w := by
  have hs := cmpA_same a b ha hb
  obtain ⟨sx, hi, lo⟩ := a
  obtain ⟨sy, hi', lo'⟩ := b
  cases sx <;> cases sy <;> simp only [adV]
  · obtain ⟨rfl, _⟩ := ha
    obtain ⟨rfl, _⟩ := hb
    rw [Lib.run_eql_iface_int w lo lo' Tryz.underlying44 (by kernel_rfl) Tryz.underlying57]
    congr 2
    rw [Bool.eq_iff_iff, beq_iff_eq, beq_iff_eq, hs]
    simp
  · rw [run_eql_iface_types _ _ _ _ Tryz.underlying44 (by decide)]
    congr 2
    rw [Bool.eq_iff_iff, beq_iff_eq, hs]
    simp
  · rw [run_eql_iface_types _ _ _ _ Tryz.underlying44 (by decide)]
    congr 2
    rw [Bool.eq_iff_iff, beq_iff_eq, hs]
    simp
  · rw [eq_66]
    congr 2
    rw [Bool.eq_iff_iff, beq_iff_eq, hs]
    simp
set_option maxRecDepth 100000 in
theorem eqg_ad (a b : Bool × Int × Int) (o1 o2 : Operand) (w : World) : (eqGuard .eql 44 o1 o2 (adV a) (adV b)).run Tryz.prog w = .ok () w := by
  obtain ⟨sx, hi, lo⟩ := a
  obtain ⟨sy, hi', lo'⟩ := b
  cases sx <;> cases sy <;> simp only [adV] <;> kernel_rfl
end Go.Proofs.YtfieiigefllekaaGreatDoor
