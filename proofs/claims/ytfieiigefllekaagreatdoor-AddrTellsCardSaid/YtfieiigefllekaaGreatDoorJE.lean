/- A number, printed to a base, is read as it was: plain Lean. -/
import Derived.Test.YtfieiigefllekaaGreatDoorJD
import Derived.Test.YtfieiigefllekaaGreatDoorJB
import Derived.Lib.ItoaNum
import Derived.Test.YtfieiigefllekaaGreatDoorRows
import Derived.Stop.LaidErr
import Derived.Lib.LaidTab
import Derived.LaidMore
import Derived.Lib.SmallJoins
import Derived.Test.YtfieiigefllekaaGreatDoorSh
import Derived.Lib.ItoaMem
import Derived.Laws.IdiomStrings
import Derived.Lib.ItoaWalk
import Derived.Laws.Bits64b
namespace Go.Proofs.YtfieiigefllekaaGreatDoor
open Go.RowKit Go.Proofs.YtfieiigefllekaaGreatDoorW.PrintWords

def hexCh (d : Nat) : UInt8 := if d < 10 then UInt8.ofNat (48 + d) else UInt8.ofNat (87 + d)
theorem hexCh_fin : ∀ d : Fin 16, hexV ((hexCh d.val).toNat : Int) = (d.val : Int) ∧ hexCh d.val ≠ 46 ∧ hexCh d.val ≠ 120 ∧ hexCh d.val ≠ 88 ∧ (d.val ≠ 0 → hexCh d.val ≠ 48) ∧ (d.val < 10 → ((hexCh d.val).toNat : Int) = 48 + d.val) := by decide +kernel
theorem hexCh_val (d : Nat) (h : d < 16) : hexV ((hexCh d).toNat : Int) = (d : Int) := (hexCh_fin ⟨d, h⟩).1
/-- A number's digits to a base. -/
def digB (b u : Nat) : List UInt8 :=
  if _h : u < b ∨ b < 2 then [hexCh u] else digB b (u / b) ++ [hexCh (u % b)]
termination_by u
decreasing_by
  apply Nat.div_lt_self <;> omega
theorem digB_small {b u : Nat} (h : u < b) : digB b u = [hexCh u] := by rw [digB, dif_pos (.inl h)]
theorem digB_big {b u : Nat} (hb : 2 ≤ b) (h : b ≤ u) : digB b u = digB b (u / b) ++ [hexCh (u % b)] := by
  rw [digB, dif_neg (by omega)]
theorem digB_ind (b : Nat) (hb : 2 ≤ b) (P : Nat → Prop) (h0 : ∀ u, u < b → P u) (h1 : ∀ u, b ≤ u → P (u / b) → P u) : ∀ u, P u := by
  intro u
  induction u using Nat.strongRecOn with
  | ind u ih =>
    rcases Nat.lt_or_ge u b with h | h
    · exact h0 u h
    · exact h1 u h (ih _ (Nat.div_lt_self (by omega) (by omega)))
theorem dec_eq (u : Nat) : Lib.decDigits u = digB 10 u := by
  refine digB_ind 10 (by omega) (fun u => Lib.decDigits u = digB 10 u) (fun u h => ?_) (fun u h ih => ?_) u
  · rw [Lib.decDigits, dif_pos h, digB_small h, hexCh, if_pos h]
  · rw [Lib.decDigits, dif_neg (by omega), digB_big (by omega) h, ih, hexCh, if_pos (by omega)]
theorem digB_ne (b u : Nat) : digB b u ≠ [] := by
  rw [digB]
  split <;> simp
theorem digB_mem (b : Nat) (hb : 2 ≤ b) (u : Nat) : ∀ c ∈ digB b u, ∃ d, d < b ∧ c = hexCh d := by
  refine digB_ind b hb (fun u => ∀ c ∈ digB b u, ∃ d, d < b ∧ c = hexCh d) (fun u h => ?_) (fun u h ih => ?_) u
  · rw [digB_small h]
    intro c hc
    exact ⟨u, h, by simpa using hc⟩
  · rw [digB_big hb h]
    intro c hc
    rcases List.mem_append.1 hc with hc | hc
    · exact ih c hc
    · exact ⟨u % b, Nat.mod_lt _ (by omega), by simpa using hc⟩
/-- No nought ahead. -/
theorem digB_head (b : Nat) (hb : 2 ≤ b) (hb1 : b ≤ 16) (u : Nat) : 1 ≤ u → ∃ c r, digB b u = c :: r ∧ c ≠ 48 := by
  refine digB_ind b hb (fun u => 1 ≤ u → ∃ c r, digB b u = c :: r ∧ c ≠ 48) (fun u h h1 => ?_) (fun u h ih h1 => ?_) u
  · exact ⟨hexCh u, [], digB_small h, (hexCh_fin ⟨u, by omega⟩).2.2.2.2.1 (by simp; omega)⟩
  · obtain ⟨c, r, e, hc⟩ := ih (Nat.div_pos h (by omega))
    exact ⟨c, r ++ [hexCh (u % b)], by rw [digB_big hb h, e]; rfl, hc⟩
theorem accN_append (b : Int) (ys : List Int) : ∀ (xs : List Int) (m : Int), accN b m (xs ++ ys) = (accN b m xs).bind fun n => accN b n ys
  | [], m => rfl
  | r :: rs, m => by
    rw [List.cons_append, accN, accN]
    split
    · rfl
    · exact accN_append b ys rs _
theorem accD_append (ys : List Int) : ∀ (xs : List Int) (m : Int), accD m (xs ++ ys) = accD (accD m xs) ys
  | [], m => rfl
  | r :: rs, m => by
    rw [List.cons_append, accD, accD]
    exact accD_append ys rs _
theorem acc_one (b : Nat) (hb : 2 ≤ b) (hb1 : b ≤ 16) (m : Int) (d : Nat) (hd : d < b) : accN b m (intsOf [hexCh d]) = some (min (m * b + d) 1099511627776) := by
  rw [show intsOf [hexCh d] = [((hexCh d).toNat : Int)] from rfl, accN, hexCh_val d (by omega), if_neg (by omega)]
  rfl
theorem acc_dig (b : Nat) (hb : 2 ≤ b) (hb1 : b ≤ 16) (u : Nat) : accN b 0 (intsOf (digB b u)) = some (min (u : Int) 1099511627776) := by
  refine digB_ind b hb (fun u => accN b 0 (intsOf (digB b u)) = some (min (u : Int) 1099511627776)) (fun u h => ?_) (fun u h ih => ?_) u
  · rw [digB_small h, acc_one b hb hb1 0 u h]
    congr 1
    omega
  · rw [digB_big hb h, intsOf_append, accN_append, ih]
    show accN b _ _ = _
    rw [acc_one b hb hb1 _ _ (Nat.mod_lt _ (by omega))]
    congr 1
    have e : b * (u / b) + u % b = u := Nat.div_add_mod u b
    generalize u / b = q at e ⊢
    generalize u % b = r at e ⊢
    have e' : (b : Int) * (q : Int) + (r : Int) = (u : Int) := by exact_mod_cast e
    rcases Int.lt_or_le (q : Int) 1099511627776 with hq | hq
    · rw [show min (q : Int) 1099511627776 = q by omega, Int.mul_comm, e']
    · rw [show min (q : Int) 1099511627776 = 1099511627776 by omega]
      have h1 : (2 : Int) * (q : Int) ≤ (b : Int) * (q : Int) := Int.mul_le_mul_of_nonneg_right (by omega) (by omega)
      omega
theorem decV_dig (u : Nat) : decV (digB 10 u) = u := by
  refine digB_ind 10 (by omega) (fun u => decV (digB 10 u) = u) (fun u h => ?_) (fun u h ih => ?_) u
  · rw [digB_small h, decV, show intsOf [hexCh u] = [((hexCh u).toNat : Int)] from rfl, accD, accD, (hexCh_fin ⟨u, by omega⟩).2.2.2.2.2 h]
    show 10 * 0 + (48 + (u : Int) - 48) = u
    omega
  · rw [digB_big (by omega) h, decV, intsOf_append, accD_append, show accD 0 (intsOf (digB 10 (u / 10))) = _ from ih, show intsOf [hexCh (u % 10)] = [((hexCh (u % 10)).toNat : Int)] from rfl, accD, accD, (hexCh_fin ⟨u % 10, by omega⟩).2.2.2.2.2 (by simp; omega)]
    show 10 * ((u / 10 : Nat) : Int) + (48 + ((u % 10 : Nat) : Int) - 48) = u
    omega
theorem digits_dig (u : Nat) : digitsL (digB 10 u) = true := by
  rw [digitsL, show (digB 10 u).isEmpty = false by simpa using digB_ne 10 u]
  simp only [Bool.not_false, Bool.true_and]
  rw [List.all_eq_true]
  intro x hx
  obtain ⟨c, hc, rfl⟩ := List.mem_map.1 hx
  obtain ⟨d, hd, rfl⟩ := digB_mem 10 (by omega) u c hc
  rw [isDig_iff, (hexCh_fin ⟨d, by omega⟩).2.2.2.2.2 hd]
  show 48 ≤ 48 + (d : Int) ∧ 48 + (d : Int) ≤ 57
  omega
theorem plain_dig (u : Nat) : plainD (digB 10 u) = true := by
  rw [plainD, digits_dig, Bool.true_and]
  rcases Nat.eq_zero_or_pos u with rfl | h
  · rw [digB_small (by omega)]
    rfl
  · obtain ⟨c, r, e, hc⟩ := digB_head 10 (by omega) (by omega) u h
    rw [e]
    simp [hc]
theorem plain_nought (u : Nat) : plainD (48 :: digB 10 u) = false := by
  rw [plainD]
  have : 1 < (48 :: digB 10 u).length := by
    have := List.length_pos_iff.2 (digB_ne 10 u)
    rw [List.length_cons]
    omega
  rw [show decide (1 < (48 :: digB 10 u).length) = true by simpa using this]
  simp
theorem parse_dec (u : Nat) : parseL (digB 10 u) = some (min (u : Int) 1099511627776) := by
  have hbase : baseL (digB 10 u) = (10, digB 10 u) := by
    rcases Nat.eq_zero_or_pos u with rfl | h
    · rw [digB_small (by omega)]
      exact baseL_short _ (by simp)
    · obtain ⟨c, r, e, hc⟩ := digB_head 10 (by omega) (by omega) u h
      rw [e]
      exact baseL_not c r (fun h => hc (UInt8.toNat_inj.1 h))
  rw [parseL, if_neg (digB_ne 10 u), hbase]
  exact acc_dig 10 (by omega) (by omega) u
theorem parse_oct (u : Nat) : parseL (48 :: digB 8 u) = some (min (u : Int) 1099511627776) := by
  obtain ⟨c, r, e⟩ : ∃ c r, digB 8 u = c :: r := by
    rcases h : digB 8 u with _ | ⟨c, r⟩
    · exact absurd h (digB_ne 8 u)
    · exact ⟨c, r, rfl⟩
  obtain ⟨d, hd, hc⟩ := digB_mem 8 (by omega) u c (by rw [e]; exact List.mem_cons_self)
  have hf := hexCh_fin ⟨d, by omega⟩
  have hbase : baseL (48 :: digB 8 u) = (8, digB 8 u) := by
    rw [e]
    refine baseL_oct 48 c r rfl (fun h => ?_) (fun h => ?_)
    · exact hf.2.2.1 (by rw [hc] at h; exact UInt8.toNat_inj.1 h)
    · exact hf.2.2.2.1 (by rw [hc] at h; exact UInt8.toNat_inj.1 h)
  rw [parseL, if_neg (by simp), hbase]
  exact acc_dig 8 (by omega) (by omega) u
theorem parse_hex (u : Nat) (x : UInt8) (hx : x = 120 ∨ x = 88) : parseL (48 :: x :: digB 16 u) = some (min (u : Int) 1099511627776) := by
  have hbase : baseL (48 :: x :: digB 16 u) = (16, digB 16 u) := baseL_hex 48 x _ rfl (hx.elim (fun h => .inl (by rw [h]; rfl)) (fun h => .inr (by rw [h]; rfl)))
  rw [parseL, if_neg (by simp), hbase]
  exact acc_dig 16 (by omega) (by omega) u
/-- A text without a point is one part. -/
theorem split_none : ∀ (l : List UInt8), (∀ c ∈ l, c ≠ 46) → splitL (isAt ⟨#[46]⟩) l = [l]
  | [], _ => rfl
  | c :: r, h => by
    have hc : isAt ⟨#[46]⟩ c = false := by
      rw [dot_at]
      simpa using h c List.mem_cons_self
    rw [splitL, if_neg (by rw [hc]; decide), split_none r (fun x hx => h x (List.mem_cons_of_mem _ hx))]
theorem digB_dot (b : Nat) (hb : 2 ≤ b) (hb1 : b ≤ 16) (u : Nat) : ∀ c ∈ digB b u, c ≠ 46 := by
  intro c hc
  obtain ⟨d, hd, rfl⟩ := digB_mem b hb u c hc
  exact (hexCh_fin ⟨d, by omega⟩).2.1
theorem ends_dec (u : Nat) : endsL (digB 10 u) = true := by
  rw [ends_of _ [] _ (digB_ne 10 u) (split_none _ (digB_dot 10 (by omega) (by omega) u)), lastOk, parseOk, parse_dec]
  rfl
theorem ends_hex (u : Nat) (x : UInt8) (hx : x = 120 ∨ x = 88) : endsL (97 :: 46 :: 48 :: x :: (digB 16 u ++ [46])) = true := by
  have hs : splitL (isAt ⟨#[46]⟩) (97 :: 46 :: 48 :: x :: digB 16 u) = [[97]] ++ [48 :: x :: digB 16 u] := by
    have e := split_none (48 :: x :: digB 16 u) (by
      intro c hc
      rcases List.mem_cons.1 hc with rfl | hc
      · decide
      · rcases List.mem_cons.1 hc with rfl | hc
        · rcases hx with rfl | rfl <;> decide
        · exact digB_dot 16 (by omega) (by omega) u c hc)
    rw [splitL, if_neg (by rw [dot_at]; decide), splitL, if_pos (by rw [dot_at]; rfl), e]
    rfl
  have := ends_point _ _ _ hs
  rw [show 97 :: 46 :: 48 :: x :: (digB 16 u ++ [46]) = (97 :: 46 :: 48 :: x :: digB 16 u) ++ [46] from rfl, this, lastOk, parseOk, parse_hex u x hx]
  rfl
theorem digB_len (b : Nat) (hb : 2 ≤ b) (u : Nat) : ∀ k, u < 2 ^ k → (digB b u).length ≤ k + 1 := by
  refine digB_ind b hb (fun u => ∀ k, u < 2 ^ k → (digB b u).length ≤ k + 1) (fun u h k _ => ?_) (fun u h ih k hk => ?_) u
  · rw [digB_small h]
    simp
  · rw [digB_big hb h, List.length_append, List.length_singleton]
    rcases k with _ | k
    · simp at hk
      omega
    · have h1 : u / b ≤ u / 2 := Nat.div_le_div_left hb (by omega)
      have h2 : u / 2 < 2 ^ k := by rw [Nat.pow_succ] at hk; omega
      have := ih k (by omega)
      omega
end Go.Proofs.YtfieiigefllekaaGreatDoor

/- What the listed variables give: the errors' variables, the powers of ten; a start that meets the lists. -/
namespace Go.Proofs.YtfieiigefllekaaGreatDoor
open Go.RowKit Go.ChangeShapes Go.WideShapes Go.Proofs.YtfieiigefllekaaGreatDoorW.PrintWords Go.Proofs.YtfieiigefllekaaGreatDoorW.PrintMore

theorem lStar : "*" ++ "errors.errorString" = "*errors.errorString" := by decide
theorem lRow (u : TypeId) (h : Tryz.prog.typeName? 3 u = some "*errors.errorString") : u = 192 :=
  typeName_ptr_named (nm := "errors.errorString") (by rw [lStar]; kernel_rfl) (by kernel_rfl) (by decide) u (by rw [lStar]; exact h)
theorem gRange : Tryz.prog.globalNamed "strconv.ErrRange" = some 3 := by kernel_rfl
theorem gRangeType : (Tryz.prog.globals[3]?).map (·.type) = some 143 := by kernel_rfl
theorem gPow : Tryz.prog.globalNamed "internal/strconv.uint64pow10" = some 0 := by kernel_rfl
theorem gPowType : (Tryz.prog.globals[0]?).map (·.type) = some 166 := by kernel_rfl
theorem lCellsE : Tryz.prog.cellsOf 194 = 1 := by kernel_rfl
theorem lCellsS : Tryz.prog.cellsOf 9 = 1 := by kernel_rfl
theorem lCellsU : Tryz.prog.cellsOf 23 = 1 := by kernel_rfl
theorem lCellsP : Tryz.prog.cellsOf 166 = 20 := by kernel_rfl
/-- The powers of ten. -/
def Pows (w : World) : Prop := Lib.TabIs Tryz.prog w "internal/strconv.uint64pow10" .u64 Lib.pow10Tab
theorem powData : (Rows.laid_internal_strconv_uint64pow10 : DataW Unit) = Lib.tabData .u64 Lib.pow10Tab := by rfl
theorem errs_of {r : List (String × DataW Unit)} {W : World} (h : laidMet Tryz.prog (("strconv.ErrRange", Rows.laid_strconv_ErrRange) :: r) W) : Errs W := by
  obtain ⟨a, s, hv, _, _, _⟩ := laid_sentinel h gRange gRangeType Tryz.underlying143 lRow Tryz.underlying192 Tryz.underlying194 rfl rfl Tryz.underlying9 lCellsE lCellsS
  exact ⟨_, _, by simpa using World.var?_cell gRange hv 0⟩
theorem pows_of {r : List (String × DataW Unit)} {W : World} (h : laidMet Tryz.prog (("internal/strconv.uint64pow10", Rows.laid_internal_strconv_uint64pow10) :: r) W) : Pows W := by
  rw [powData] at h
  exact Lib.tabIs_of_head gPow gPowType Tryz.underlying166 Tryz.underlying23 lCellsU lCellsP h
theorem Pows.stays {w w' : World} (h : Pows w) (hb : Below w.heap.size w w') : Pows w' := Joins.tab_stays gPow h hb (Nat.le_refl _)
end Go.Proofs.YtfieiigefllekaaGreatDoor

/- strconv.FormatUint to base 10. -/
namespace Go.Proofs.YtfieiigefllekaaGreatDoor
open Go.RowKit Go.Proofs.YtfieiigefllekaaGreatDoorW.PrintWords Go.Proofs.YtfieiigefllekaaGreatDoorW.PrintMore

theorem grow_below (w : World) (k : Nat) (os : Array Obj) : Below w.heap.size w (Sort.grow (w.drewN k) os) :=
  ⟨rfl, rfl, rfl, by simp [Sort.grow, World.drewN], fun j hj => by simp [Sort.grow, World.drewN, Array.getElem?_append, hj]⟩
theorem Itoa_calls (n : Int) (h0 : 0 ≤ n) (h1 : n ≤ 9223372036854775807) (w : World) (hP : Pows w) :
    Calls Tryz.prog 85 #[.int .i64 n] w fun e w' => e = .returned (.string ⟨(Lib.decDigits n.toNat).toArray⟩) ∧ Below w.heap.size w w' := by
  refine (Tryz.strconv_Itoa n (by omega) h1 w hP).mono ?_
  rintro e w' ⟨rfl, k, os, rfl⟩
  refine ⟨?_, grow_below _ _ _⟩
  rw [Lib.itoa, if_neg (by omega)]

theorem holds_zero0 (w : World) (T : TypeId) (nd : Nat) (hs : nd ≤ 24) : Sort.Holds (fun (b : UInt8) => Value.int .u8 (b.toNat : Int)) (w.alloc (.cells Lib.zeros24 T)) w.heap.size 0 (Array.replicate nd (0 : UInt8)) := fun j hj => by
  have hj' : j < nd := by simpa using hj
  refine ⟨?_, World.frozen?_alloc_new _ _ _ _⟩
  rw [World.cell?_alloc_new, Lib.zeros24_at _ (by omega), getElem!_pos _ j hj]
  simp
theorem fin_pos0 (w : World) (o : Obj) (dk : Array UInt8) (k : Nat) : ∃ os, (Sort.putRow (fun (b : UInt8) => Value.int .u8 (b.toNat : Int)) (w.alloc o) w.heap.size 0 dk).drewN k = Sort.grow (w.drewN k) os := by
  rw [Sort.alloc_eq_grow]
  obtain ⟨os', _, e⟩ := Sort.putRow_grow_new (fun (b : UInt8) => Value.int .u8 (b.toNat : Int)) w #[o] w.heap.size 0 dk (Nat.le_refl _)
  exact ⟨os', by rw [e]; rfl⟩

set_option maxHeartbeats 4000000 in
set_option maxRecDepth 100000 in
theorem Format10_calls (u : Nat) (hu64 : u < 18446744073709551616) (w : World) (hP : Pows w) :
    Calls Tryz.prog 95 #[.int .u64 u, .int .i64 10] w fun e w' => e = .returned (.string ⟨(Lib.decDigits u).toArray⟩) ∧ Below w.heap.size w w' := by
  by_cases hs : u < 100
  · go_enter Tryz.func95, Tryz.ntmps95
    go_wp2_with fail
    refine (Tryz.internal_strconv_small u hs _).mono ?_
    rintro e w' ⟨rfl, rfl⟩
    go_wp2_with fail
    go_ret
    exact ⟨rfl, Below.refl _ _⟩
  · have hu1 : 1 ≤ u := by omega
    have hnd20 : Lib.nDigits u ≤ 20 := by have := Lib.numDigits_eq u hu1 hu64; split at this <;> omega
    have hb3 : Lib.nDigits u ≤ 24 := by omega
    have hal : Tryz.prog.arrayLen 152 = 24 := by simp [Program.arrayLen, Tryz.underlying152]
    have hsl1 : ∀ W, (Instr.sliceAt 152 (.pointer (some ⟨w.heap.size, 0, none⟩)) none (some (.int .i64 (Lib.nDigits u : Int))) none).run Tryz.prog W = .ok (.slice (some ⟨w.heap.size, 0, none⟩) (Lib.nDigits u) 24) W := fun W => by
      rw [run_sliceAt_array_h W 152 ⟨w.heap.size, 0, none⟩ (by simp [Program.arrayLen, Program.elem, Tryz.underlying152]) .i64 (Lib.nDigits u : Int) (by omega) (by rw [hal]; omega)]
      go_simp
      try omega
    have hH0 := holds_zero0 w 152 (Lib.nDigits u) (by omega)
    have hfmt := Tryz.internal_strconv_formatBase10 w.heap.size 0 24 u (Array.replicate (Lib.nDigits u) 0) (w.alloc (.cells Lib.zeros24 152)) hH0 (by rw [Array.size_replicate]; exact Lib.lt_pow_nDigits u) hu64 (by rw [Array.size_replicate]; omega)
    rw [Array.size_replicate] at hfmt
    have HH0 := Lib.hid hH0
    clear hH0 hal
    go_enter Tryz.func95, Tryz.ntmps95
    go_wp2_with fail
    refine (Tryz.internal_strconv_numDigits u hu1 hu64 _ (Lib.tabIs_alloc hP _)).mono ?_
    rintro e w' ⟨rfl, rfl⟩
    go_wp2_with fail
    refine hfmt.mono ?_
    rintro e w' ⟨rfl, k, v', dk, rfl, hF⟩
    have hcv : (convert 138 9 (.slice (some ⟨w.heap.size, 0, none⟩) (Lib.nDigits u) 24)).run Tryz.prog ((Sort.putRow (fun (b : UInt8) => Value.int .u8 (b.toNat : Int)) (w.alloc (.cells Lib.zeros24 152)) w.heap.size 0 dk).drewN k) = .ok (.string ⟨(Lib.decDigits u).toArray⟩) ((Sort.putRow (fun (b : UInt8) => Value.int .u8 (b.toNat : Int)) (w.alloc (.cells Lib.zeros24 152)) w.heap.size 0 dk).drewN k) := by
      have h := run_convert_bytes_back (P := Tryz.prog) ((Sort.putRow (fun (b : UInt8) => Value.int .u8 (b.toNat : Int)) (w.alloc (.cells Lib.zeros24 152)) w.heap.size 0 dk).drewN k) 138 9 5 ⟨w.heap.size, 0, none⟩ 24 (Lib.decDigits u) Tryz.underlying138 Tryz.underlying5 Tryz.underlying9 (fun j hj => by
        rw [Lib.row_is_numeral hF j hj, Lib.add_plain, World.cell?_drewN]
        exact Sort.cell?_putRow (fun (b : UInt8) => Value.int .u8 (b.toNat : Int)) _ w.heap.size 0 _ dk HH0.out (by rw [hF.size, Array.size_replicate]) j (by rw [hF.size]; rw [Lib.decDigits_length] at hj; exact hj))
      rw [Lib.decDigits_length] at h
      exact h
    go_wp2_with fail
    go_ret
    obtain ⟨os, eo⟩ := fin_pos0 w (.cells Lib.zeros24 152) dk k
    exact ⟨rfl, by rw [eo]; exact grow_below _ _ _⟩
theorem FormatUint10_calls (u : Nat) (hu64 : u < 18446744073709551616) (w : World) (hP : Pows w) :
    Calls Tryz.prog 63 #[.int .u64 u, .int .i64 10] w fun e w' => e = .returned (.string ⟨(Lib.decDigits u).toArray⟩) ∧ Below w.heap.size w w' := by
  go_enter Tryz.func63, Tryz.ntmps63
  go_wp2_with fail
  refine (Format10_calls u hu64 _ hP).mono ?_
  rintro e w1 ⟨rfl, hb⟩
  go_wp2_with fail
  go_ret
  exact ⟨rfl, hb⟩
end Go.Proofs.YtfieiigefllekaaGreatDoor

/- math/bits.TrailingZeros at 8 and 16; internal/strconv.isPowerOfTwo there. -/
namespace Go.Proofs.YtfieiigefllekaaGreatDoor
open Go.RowKit Go.ChangeShapes Go.Proofs.YtfieiigefllekaaGreatDoorW.PrintWords Go.Proofs.YtfieiigefllekaaGreatDoorW.PrintMore

/-- The bits' table. -/
def tab64 : List Int := [0, 1, 56, 2, 57, 49, 28, 3, 61, 58, 42, 50, 38, 29, 17, 4, 62, 47, 59, 36, 45, 43, 51, 22, 53, 39, 33, 30, 24, 18, 12, 5, 63, 55, 48, 27, 60, 41, 37, 16, 46, 35, 44, 21, 52, 32, 23, 11, 54, 26, 40, 15, 34, 20, 31, 10, 25, 14, 19, 9, 13, 8, 7, 6]
def Debr (w : World) : Prop := Lib.TabIs Tryz.prog w "math/bits.deBruijn64tab" .u8 tab64
theorem gDebr : Tryz.prog.globalNamed "math/bits.deBruijn64tab" = some 5 := by kernel_rfl
theorem gDebrType : (Tryz.prog.globals[5]?).map (·.type) = some 190 := by kernel_rfl
theorem debrData : (Rows.laid_math_bits_deBruijn64tab : DataW Unit) = Lib.tabData .u8 tab64 := by rfl
theorem lCellsB : Tryz.prog.cellsOf 5 = 1 := by kernel_rfl
theorem lCellsD : Tryz.prog.cellsOf 190 = 64 := by kernel_rfl
theorem debr_of {r : List (String × DataW Unit)} {W : World} (h : laidMet Tryz.prog (("math/bits.deBruijn64tab", Rows.laid_math_bits_deBruijn64tab) :: r) W) : Debr W := by
  rw [debrData] at h
  exact Lib.tabIs_of_head gDebr gDebrType Tryz.underlying190 Tryz.underlying5 lCellsB lCellsD h
theorem Debr.stays {w w' : World} (h : Debr w) (hb : Below w.heap.size w w') : Debr w' := Joins.tab_stays gDebr h hb (Nat.le_refl _)

set_option maxHeartbeats 1000000 in
theorem Tz64_calls (b sh : Int) (h : b = 8 ∧ sh = 3 ∨ b = 16 ∧ sh = 4) (w : World) (hT : Debr w) :
    Calls Tryz.prog 148 #[.int .u64 b] w fun e w' => e = .returned (.int .i64 sh) ∧ w = w' := by
  have c3 : w.cell? ⟨5, 7, none⟩ = some (.int .u8 3) := hT.cell gDebr 7 (by decide)
  have c4 : w.cell? ⟨5, 15, none⟩ = some (.int .u8 4) := hT.cell gDebr 15 (by decide)
  have e8 : Go.bits .and .u64 8 (IntKind.u64.wrap (-8)) = 8 := by decide +kernel
  have e16 : Go.bits .and .u64 16 (IntKind.u64.wrap (-16)) = 16 := by decide +kernel
  have f8 : IntKind.u64.wrap (8 * 285870213051353865) = 2286961704410830920 := by decide +kernel
  have f16 : IntKind.u64.wrap (16 * 285870213051353865) = 4573923408821661840 := by decide +kernel
  rcases h with ⟨rfl, rfl⟩ | ⟨rfl, rfl⟩
  all_goals
    go_enter Tryz.func148, Tryz.ntmps148
    go_wp2
    go_ret
    exact ⟨rfl, rfl⟩
theorem Tz_calls (b sh : Int) (h : b = 8 ∧ sh = 3 ∨ b = 16 ∧ sh = 4) (w : World) (hT : Debr w) :
    Calls Tryz.prog 132 #[.int .u64 b] w fun e w' => e = .returned (.int .i64 sh) ∧ w = w' := by
  have hb : 0 ≤ b ∧ b ≤ 16 := by omega
  have HH := Lib.hid h
  clear h
  go_enter Tryz.func132, Tryz.ntmps132
  go_wp2_with fail
  refine (Tz64_calls b sh HH.out _ hT).mono ?_
  rintro e w1 ⟨rfl, rfl⟩
  go_wp2_with fail
  go_ret
  exact ⟨rfl, rfl⟩
theorem Pow2_calls (b : Int) (h : b = 8 ∨ b = 16) (w : World) :
    Calls Tryz.prog 131 #[.int .i64 b] w fun e w' => e = .returned (.bool true) ∧ w = w' := by
  have e8 : Go.bits .and .i64 8 7 = 0 := by decide +kernel
  have e16 : Go.bits .and .i64 16 15 = 0 := by decide +kernel
  rcases h with rfl | rfl
  all_goals
    go_enter Tryz.func131, Tryz.ntmps131
    go_wp2
    go_ret
    exact ⟨rfl, rfl⟩
end Go.Proofs.YtfieiigefllekaaGreatDoor

/- internal/strconv.formatBits at the bases 8 and 16. Printed by wip/mkbits.py. -/
namespace Go.Proofs.YtfieiigefllekaaGreatDoor
open Go.RowKit Go.Proofs.YtfieiigefllekaaGreatDoorW.PrintWords Go.Proofs.YtfieiigefllekaaGreatDoorW.PrintMore

def d36 : ByteArray := ⟨#[48, 49, 50, 51, 52, 53, 54, 55, 56, 57, 97, 98, 99, 100, 101, 102, 103, 104, 105, 106, 107, 108, 109, 110, 111, 112, 113, 114, 115, 116, 117, 118, 119, 120, 121, 122]⟩
theorem d36_fin : ∀ d : Fin 16, d36.data.toList.getD d.val 0 = hexCh d.val := by decide +kernel
theorem d36_at (d : Nat) (hd : d < 16) (h : d < d36.size) : d36[d]'h = hexCh d := by
  rw [Lib.getD_at d36 d h, d36_fin ⟨d, hd⟩]
theorem bound_pow (k x : Nat) (h : x * 8 ^ k < 18446744073709551616) (hx : 1 ≤ x) : k ≤ 21 := by
  rcases Nat.lt_or_ge 21 k with hk | hk
  · exfalso
    have h1 : 8 ^ 22 ≤ 8 ^ k := Nat.pow_le_pow_right (by omega) hk
    have h2 : 1 * 8 ^ k ≤ x * 8 ^ k := Nat.mul_le_mul_right _ hx
    have h3 : (8 : Nat) ^ 22 = 73786976294838206464 := by decide
    omega
  · exact hk
theorem range_put (G : Nat → UInt8) (c : UInt8) (m : Nat) (hm : m < 65) : c :: (List.range' (m + 1) (65 - (m + 1))).map G = (List.range' m (65 - m)).map (fun t => if t = m then c else G t) := by
  rw [show 65 - m = (65 - (m + 1)) + 1 by omega, List.range'_succ, List.map_cons, if_pos rfl]
  congr 1
  refine List.map_congr_left fun t ht => ?_
  rw [if_neg (by have := List.mem_range'_1.1 ht; omega)]

theorem mask8 (x : Nat) (hx : x < 18446744073709551616) : Go.bits .and .u64 (x : Int) 7 = ((x % 8 : Nat) : Int) := by
  have h := bits_and_u64_nat x 7 hx (by omega)
  have e : x &&& 7 = x % 8 := Nat.and_two_pow_sub_one_eq_mod x 3
  rw [e] at h
  exact h
theorem bound8 (x i : Nat) (_hx : 8 ≤ x) (hi : i ≤ 64) (h : x * 8 ^ (65 - (i + 1)) < 18446744073709551616) : (x / 8) * 8 ^ (65 - i) < 18446744073709551616 := by
  rw [show 65 - i = (65 - (i + 1)) + 1 by omega, Nat.pow_succ]
  have h1 : (x / 8) * 8 ≤ x := Nat.div_mul_le_self x 8
  have h2 : (x / 8) * 8 ≤ x := by omega
  have h3 : (x / 8) * 8 * 8 ^ (65 - (i + 1)) ≤ x * 8 ^ (65 - (i + 1)) := Nat.mul_le_mul_right _ h2
  rw [show (x / 8) * (8 ^ (65 - (i + 1)) * 8) = (x / 8) * 8 * 8 ^ (65 - (i + 1)) by rw [Nat.mul_assoc, Nat.mul_comm (8 ^ _) 8]]
  omega

set_option maxHeartbeats 4000000 in
set_option maxRecDepth 100000 in
theorem Bits8_calls (u : Nat) (hu : u < 18446744073709551616) (w : World) (hT : Debr w) :
    Calls Tryz.prog 117 #[.slice none 0 0, .int .u64 u, .int .i64 8, .bool false, .bool false] w fun e w' => e = .returned (.tuple #[.slice none 0 0, .string ⟨(digB 8 u).toArray⟩]) ∧ Below w.heap.size w w' := by
  go_enter Tryz.func117, Tryz.ntmps117
  go_wp2_with fail
  refine (Pow2_calls _ (by omega) _).mono ?_
  rintro e w1 ⟨rfl, rfl⟩
  go_wp2_with fail
  refine (Tz_calls 8 3 (by omega) _ (hT.stays ?_)).mono ?_
  · exact (Below.refl _ _).alloc (Nat.le_refl _) _
  rintro e w1 ⟨rfl, rfl⟩
  go_wp2_with fail
  go_loopw [1, 13] (fun uu ii wr => ∃ (x i : Nat) (G : Nat → UInt8), uu = .int .u64 x ∧ ii = .int .i64 i ∧ i ≤ 65 ∧ x ≤ u ∧ (i = 65 ∨ 1 ≤ x) ∧ Aside0 (digB 8 u = digB 8 x ++ (List.range' i (65 - i)).map G) ∧ Aside0 (x * 8 ^ (65 - i) < 18446744073709551616) ∧ Aside0 (∀ t, t < 65 → wr.cell? ⟨w.heap.size, t, none⟩ = some (.int .u8 ((G t).toNat : Int)) ∧ wr.frozen? ⟨w.heap.size, t, none⟩ = false) ∧ Aside0 (Below w.heap.size w wr) ∧ w.heap.size < wr.heap.size) (fun uu _ _ => (intOf uu).toNat)
  case atStart =>
    refine ⟨u, 65, fun _ => 0, rfl, rfl, by omega, by omega, .inl rfl, ⟨by simp⟩, ⟨by simpa using hu⟩, ⟨fun t ht => ⟨?_, World.frozen?_alloc_new _ _ _ _⟩⟩, ⟨(Below.refl _ _).alloc (Nat.le_refl _) _⟩, by simp⟩
    rw [World.cell?_alloc_new]
    have : Tryz.zeroCells167 = Array.replicate 65 (.int .u8 0) := by rfl
    rw [this, Array.getElem?_replicate, if_pos ht]
    rfl
  case round =>
    obtain ⟨x, i, G, rfl, rfl, hi, hxu, hix, hr, hp, hC, HB, hsz⟩ := hrel
    have hx64 : x < 18446744073709551616 := by omega
    have hi1 : 1 ≤ i := by
      rcases hix with rfl | h
      · omega
      · have := bound_pow _ _ hp.out h
        omega
    obtain ⟨m, rfl⟩ : ∃ m, i = m + 1 := ⟨i - 1, by omega⟩
    have hc := (hC.out m (by omega)).1
    have hf := (hC.out m (by omega)).2
    by_cases hlt : 8 ≤ x
    · have hX : ∀ h, (ByteArray.mk #[48, 49, 50, 51, 52, 53, 54, 55, 56, 57, 97, 98, 99, 100, 101, 102, 103, 104, 105, 106, 107, 108, 109, 110, 111, 112, 113, 114, 115, 116, 117, 118, 119, 120, 121, 122])[x % 8]'h = hexCh (x % 8) := d36_at _ (by omega)
      have hM := mask8 x hx64
      go_wp2_with fail
      refine ⟨⟨x / 8, m, fun t => if t = m then hexCh (x % 8) else G t, by go_num, by go_num, by omega, by omega, .inr (by omega), ⟨?_⟩, ⟨bound8 x m hlt (by omega) hp.out⟩, ⟨fun t ht => ?_⟩, ⟨HB.out.setCell (by simp) _⟩, by simpa using hsz⟩, by simp [intOf]; omega⟩
      · rw [hr.out, digB_big (by omega) hlt, List.append_assoc, ← range_put G _ m (by omega)]
        rfl
      · by_cases htm : t = m
        · subst htm
          exact ⟨by rw [World.cell?_setCell_same _ _ _ hc]; simp, by rw [World.frozen?_setCell]; exact hf⟩
        · exact ⟨by rw [World.cell?_setCell_other _ _ _ _ (by simp; try omega)]; simp only [if_neg htm]; exact (hC.out t ht).1, by rw [World.frozen?_setCell]; exact (hC.out t ht).2⟩
    · have hX : ∀ h, (ByteArray.mk #[48, 49, 50, 51, 52, 53, 54, 55, 56, 57, 97, 98, 99, 100, 101, 102, 103, 104, 105, 106, 107, 108, 109, 110, 111, 112, 113, 114, 115, 116, 117, 118, 119, 120, 121, 122])[x]'h = hexCh x := d36_at _ (by omega)
      have hsl1 : ∀ W, (Instr.sliceAt 167 (.pointer (some ⟨w.heap.size, 0, none⟩)) (some (.int .i64 (m : Int))) none none).run Tryz.prog W = .ok (.slice (some ⟨w.heap.size, m, none⟩) (65 - m) (65 - m)) W := fun W => by
        rw [run_sliceAt_array_l W 167 ⟨w.heap.size, 0, none⟩ (by simp [Program.arrayLen, Program.elem, Tryz.underlying167]) .i64 (m : Int) (by omega) (by simp [Program.arrayLen, Tryz.underlying167]; omega)]
        go_simp
        try omega
      have hL : digB 8 u = (List.range' m (65 - m)).map (fun t => if t = m then hexCh x else G t) := by
        rw [hr.out, digB_small (by omega), ← range_put G _ m (by omega)]
        rfl
      have hcv : ∀ W : World, (∀ t, t < 65 → W.cell? ⟨w.heap.size, t, none⟩ = some (.int .u8 (((if t = m then hexCh x else G t)).toNat : Int))) → (convert 138 9 (.slice (some ⟨w.heap.size, m, none⟩) (65 - m) (65 - m))).run Tryz.prog W = .ok (.string ⟨(digB 8 u).toArray⟩) W := by
        intro W hW
        have h := run_convert_bytes_back (P := Tryz.prog) W 138 9 5 ⟨w.heap.size, m, none⟩ (65 - m) (digB 8 u) Tryz.underlying138 Tryz.underlying5 Tryz.underlying9 (fun j hj => by
          have hj' : j < 65 - m := by rw [hL] at hj; simpa using hj
          rw [Lib.add_plain, hW (m + j) (by omega)]
          congr 3
          simp only [hL, List.getElem_map, List.getElem_range', Nat.one_mul])
        rw [show (digB 8 u).length = 65 - m by rw [hL]; simp] at h
        exact h
      have hcv2 := hcv (wr.setCell ⟨w.heap.size, m, none⟩ (.int .u8 ((hexCh x).toNat : Int))) (fun t ht => by
        by_cases htm : t = m
        · subst htm
          rw [World.cell?_setCell_same _ _ _ hc, if_pos rfl]
        · rw [World.cell?_setCell_other _ _ _ _ (by simp; try omega), if_neg htm]; exact (hC.out t ht).1)
      clear hcv hL
      go_wp2_with fail
      go_ret2
      exact ⟨rfl, HB.out.setCell (by simp) _⟩

theorem mask16 (x : Nat) (hx : x < 18446744073709551616) : Go.bits .and .u64 (x : Int) 15 = ((x % 16 : Nat) : Int) := by
  have h := bits_and_u64_nat x 15 hx (by omega)
  have e : x &&& 15 = x % 16 := Nat.and_two_pow_sub_one_eq_mod x 4
  rw [e] at h
  exact h
theorem bound16 (x i : Nat) (hx : 16 ≤ x) (hi : i ≤ 64) (h : x * 8 ^ (65 - (i + 1)) < 18446744073709551616) : (x / 16) * 8 ^ (65 - i) < 18446744073709551616 := by
  rw [show 65 - i = (65 - (i + 1)) + 1 by omega, Nat.pow_succ]
  have h1 : (x / 16) * 16 ≤ x := Nat.div_mul_le_self x 16
  have h2 : (x / 16) * 8 ≤ x := by omega
  have h3 : (x / 16) * 8 * 8 ^ (65 - (i + 1)) ≤ x * 8 ^ (65 - (i + 1)) := Nat.mul_le_mul_right _ h2
  rw [show (x / 16) * (8 ^ (65 - (i + 1)) * 8) = (x / 16) * 8 * 8 ^ (65 - (i + 1)) by rw [Nat.mul_assoc, Nat.mul_comm (8 ^ _) 8]]
  omega

set_option maxHeartbeats 4000000 in
set_option maxRecDepth 100000 in
theorem Bits16_calls (u : Nat) (hu : u < 18446744073709551616) (w : World) (hT : Debr w) :
    Calls Tryz.prog 117 #[.slice none 0 0, .int .u64 u, .int .i64 16, .bool false, .bool false] w fun e w' => e = .returned (.tuple #[.slice none 0 0, .string ⟨(digB 16 u).toArray⟩]) ∧ Below w.heap.size w w' := by
  go_enter Tryz.func117, Tryz.ntmps117
  go_wp2_with fail
  refine (Pow2_calls _ (by omega) _).mono ?_
  rintro e w1 ⟨rfl, rfl⟩
  go_wp2_with fail
  refine (Tz_calls 16 4 (by omega) _ (hT.stays ?_)).mono ?_
  · exact (Below.refl _ _).alloc (Nat.le_refl _) _
  rintro e w1 ⟨rfl, rfl⟩
  go_wp2_with fail
  go_loopw [1, 13] (fun uu ii wr => ∃ (x i : Nat) (G : Nat → UInt8), uu = .int .u64 x ∧ ii = .int .i64 i ∧ i ≤ 65 ∧ x ≤ u ∧ (i = 65 ∨ 1 ≤ x) ∧ Aside0 (digB 16 u = digB 16 x ++ (List.range' i (65 - i)).map G) ∧ Aside0 (x * 8 ^ (65 - i) < 18446744073709551616) ∧ Aside0 (∀ t, t < 65 → wr.cell? ⟨w.heap.size, t, none⟩ = some (.int .u8 ((G t).toNat : Int)) ∧ wr.frozen? ⟨w.heap.size, t, none⟩ = false) ∧ Aside0 (Below w.heap.size w wr) ∧ w.heap.size < wr.heap.size) (fun uu _ _ => (intOf uu).toNat)
  case atStart =>
    refine ⟨u, 65, fun _ => 0, rfl, rfl, by omega, by omega, .inl rfl, ⟨by simp⟩, ⟨by simpa using hu⟩, ⟨fun t ht => ⟨?_, World.frozen?_alloc_new _ _ _ _⟩⟩, ⟨(Below.refl _ _).alloc (Nat.le_refl _) _⟩, by simp⟩
    rw [World.cell?_alloc_new]
    have : Tryz.zeroCells167 = Array.replicate 65 (.int .u8 0) := by rfl
    rw [this, Array.getElem?_replicate, if_pos ht]
    rfl
  case round =>
    obtain ⟨x, i, G, rfl, rfl, hi, hxu, hix, hr, hp, hC, HB, hsz⟩ := hrel
    have hx64 : x < 18446744073709551616 := by omega
    have hi1 : 1 ≤ i := by
      rcases hix with rfl | h
      · omega
      · have := bound_pow _ _ hp.out h
        omega
    obtain ⟨m, rfl⟩ : ∃ m, i = m + 1 := ⟨i - 1, by omega⟩
    have hc := (hC.out m (by omega)).1
    have hf := (hC.out m (by omega)).2
    by_cases hlt : 16 ≤ x
    · have hX : ∀ h, (ByteArray.mk #[48, 49, 50, 51, 52, 53, 54, 55, 56, 57, 97, 98, 99, 100, 101, 102, 103, 104, 105, 106, 107, 108, 109, 110, 111, 112, 113, 114, 115, 116, 117, 118, 119, 120, 121, 122])[x % 16]'h = hexCh (x % 16) := d36_at _ (by omega)
      have hM := mask16 x hx64
      go_wp2_with fail
      refine ⟨⟨x / 16, m, fun t => if t = m then hexCh (x % 16) else G t, by go_num, by go_num, by omega, by omega, .inr (by omega), ⟨?_⟩, ⟨bound16 x m hlt (by omega) hp.out⟩, ⟨fun t ht => ?_⟩, ⟨HB.out.setCell (by simp) _⟩, by simpa using hsz⟩, by simp [intOf]; omega⟩
      · rw [hr.out, digB_big (by omega) hlt, List.append_assoc, ← range_put G _ m (by omega)]
        rfl
      · by_cases htm : t = m
        · subst htm
          exact ⟨by rw [World.cell?_setCell_same _ _ _ hc]; simp, by rw [World.frozen?_setCell]; exact hf⟩
        · exact ⟨by rw [World.cell?_setCell_other _ _ _ _ (by simp; try omega)]; simp only [if_neg htm]; exact (hC.out t ht).1, by rw [World.frozen?_setCell]; exact (hC.out t ht).2⟩
    · have hX : ∀ h, (ByteArray.mk #[48, 49, 50, 51, 52, 53, 54, 55, 56, 57, 97, 98, 99, 100, 101, 102, 103, 104, 105, 106, 107, 108, 109, 110, 111, 112, 113, 114, 115, 116, 117, 118, 119, 120, 121, 122])[x]'h = hexCh x := d36_at _ (by omega)
      have hsl1 : ∀ W, (Instr.sliceAt 167 (.pointer (some ⟨w.heap.size, 0, none⟩)) (some (.int .i64 (m : Int))) none none).run Tryz.prog W = .ok (.slice (some ⟨w.heap.size, m, none⟩) (65 - m) (65 - m)) W := fun W => by
        rw [run_sliceAt_array_l W 167 ⟨w.heap.size, 0, none⟩ (by simp [Program.arrayLen, Program.elem, Tryz.underlying167]) .i64 (m : Int) (by omega) (by simp [Program.arrayLen, Tryz.underlying167]; omega)]
        go_simp
        try omega
      have hL : digB 16 u = (List.range' m (65 - m)).map (fun t => if t = m then hexCh x else G t) := by
        rw [hr.out, digB_small (by omega), ← range_put G _ m (by omega)]
        rfl
      have hcv : ∀ W : World, (∀ t, t < 65 → W.cell? ⟨w.heap.size, t, none⟩ = some (.int .u8 (((if t = m then hexCh x else G t)).toNat : Int))) → (convert 138 9 (.slice (some ⟨w.heap.size, m, none⟩) (65 - m) (65 - m))).run Tryz.prog W = .ok (.string ⟨(digB 16 u).toArray⟩) W := by
        intro W hW
        have h := run_convert_bytes_back (P := Tryz.prog) W 138 9 5 ⟨w.heap.size, m, none⟩ (65 - m) (digB 16 u) Tryz.underlying138 Tryz.underlying5 Tryz.underlying9 (fun j hj => by
          have hj' : j < 65 - m := by rw [hL] at hj; simpa using hj
          rw [Lib.add_plain, hW (m + j) (by omega)]
          congr 3
          simp only [hL, List.getElem_map, List.getElem_range', Nat.one_mul])
        rw [show (digB 16 u).length = 65 - m by rw [hL]; simp] at h
        exact h
      have hcv2 := hcv (wr.setCell ⟨w.heap.size, m, none⟩ (.int .u8 ((hexCh x).toNat : Int))) (fun t ht => by
        by_cases htm : t = m
        · subst htm
          rw [World.cell?_setCell_same _ _ _ hc, if_pos rfl]
        · rw [World.cell?_setCell_other _ _ _ _ (by simp; try omega), if_neg htm]; exact (hC.out t ht).1)
      clear hcv hL
      go_wp2_with fail
      go_ret2
      exact ⟨rfl, HB.out.setCell (by simp) _⟩
end Go.Proofs.YtfieiigefllekaaGreatDoor

/- strconv.FormatUint at the bases 8, 10 and 16: the digits. -/
namespace Go.Proofs.YtfieiigefllekaaGreatDoor
open Go.RowKit Go.Proofs.YtfieiigefllekaaGreatDoorW.PrintWords Go.Proofs.YtfieiigefllekaaGreatDoorW.PrintMore

theorem Bits_calls (b : Nat) (hb : b = 8 ∨ b = 16) (u : Nat) (hu : u < 18446744073709551616) (w : World) (hT : Debr w) :
    Calls Tryz.prog 117 #[.slice none 0 0, .int .u64 u, .int .i64 b, .bool false, .bool false] w fun e w' => e = .returned (.tuple #[.slice none 0 0, .string ⟨(digB b u).toArray⟩]) ∧ Below w.heap.size w w' := by
  rcases hb with rfl | rfl
  · exact Bits8_calls u hu w hT
  · exact Bits16_calls u hu w hT
theorem FormatB_calls (b : Nat) (hb : b = 8 ∨ b = 16) (u : Nat) (hu : u < 18446744073709551616) (w : World) (hT : Debr w) :
    Calls Tryz.prog 95 #[.int .u64 u, .int .i64 b] w fun e w' => e = .returned (.string ⟨(digB b u).toArray⟩) ∧ Below w.heap.size w w' := by
  have hb' : 8 ≤ b ∧ b ≤ 16 ∧ ¬ b = 10 := by omega
  have HB := Lib.hid hb
  clear hb
  go_enter Tryz.func95, Tryz.ntmps95
  go_wp2_with fail
  refine (Bits_calls b HB.out u hu _ hT).mono ?_
  rintro e w1 ⟨rfl, hb⟩
  go_wp2_with fail
  go_ret
  exact ⟨rfl, hb⟩
/-- FormatUint to one of the three bases. -/
theorem FormatUint_calls (b : Nat) (hb : b = 8 ∨ b = 10 ∨ b = 16) (u : Nat) (hu : u < 18446744073709551616) (w : World) (hP : Pows w) (hT : Debr w) :
    Calls Tryz.prog 63 #[.int .u64 u, .int .i64 b] w fun e w' => e = .returned (.string ⟨(digB b u).toArray⟩) ∧ Below w.heap.size w w' := by
  by_cases h10 : b = 10
  · subst h10
    refine (FormatUint10_calls u hu w hP).mono ?_
    rintro e w1 ⟨rfl, hb⟩
    exact ⟨by rw [dec_eq], hb⟩
  · have HB := Lib.hid (show b = 8 ∨ b = 16 by omega)
    clear hb
    go_enter Tryz.func63, Tryz.ntmps63
    go_wp2_with fail
    refine (FormatB_calls b HB.out u hu _ hT).mono ?_
    rintro e w1 ⟨rfl, hb⟩
    go_wp2_with fail
    go_ret
    exact ⟨rfl, hb⟩
theorem FormatUint_ex (b : Nat) (hb : b = 8 ∨ b = 10 ∨ b = 16) (u : Nat) (hu : u < 18446744073709551616) (w : World) (hP : Pows w) (hT : Debr w) :
    Calls Tryz.prog 63 #[.int .u64 u, .int .i64 b] w fun e w' => ∃ y : ByteArray, Aside0 (y.data.toList = digB b u) ∧ y.size ≤ 65 ∧ e = .returned (.string y) ∧ Aside0 (Below w.heap.size w w') := by
  refine (FormatUint_calls b hb u hu w hP hT).mono ?_
  rintro e w1 ⟨rfl, hb'⟩
  refine ⟨_, ⟨rfl⟩, ?_, rfl, ⟨hb'⟩⟩
  have := digB_len b (by omega) u 64 (by omega)
  rw [mk_size]
  omega
end Go.Proofs.YtfieiigefllekaaGreatDoor
