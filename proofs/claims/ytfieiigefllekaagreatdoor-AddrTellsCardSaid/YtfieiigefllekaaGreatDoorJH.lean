/- Or of whole numbers of 64 bits with a sign; shifts of 16 bits: plain Lean. -/
import Derived.Test.YtfieiigefllekaaGreatDoorJF
import Derived.Test.YtfieiigefllekaaGreatDoorJB
import Derived.Test.YtfieiigefllekaaGreatDoorJA
import Derived.Laws.Rows
import Derived.Laws.CopyOwn
import Derived.Laws.CopyRow
import Derived.Laws.IdiomCopy
import Derived.Test.YtfieiigefllekaaGreatDoorJD
namespace Go.Proofs.YtfieiigefllekaaGreatDoor

theorem bits_or_i64_nat (a b : Nat) (ha : a < 9223372036854775808) (hb : b < 9223372036854775808) :
    bits .or .i64 (a : Int) (b : Int) = ((a ||| b : Nat) : Int) := by
  have hx : a ||| b < 2 ^ 63 := Nat.or_lt_two_pow (by omega) (by omega)
  have h1 : (BitVec.ofInt 64 (a : Int)).toNat = a := by
    rw [BitVec.ofInt_natCast, BitVec.toNat_ofNat]; exact Nat.mod_eq_of_lt (by omega)
  have h2 : (BitVec.ofInt 64 (b : Int)).toNat = b := by
    rw [BitVec.ofInt_natCast, BitVec.toNat_ofNat]; exact Nat.mod_eq_of_lt (by omega)
  show IntKind.i64.wrap ((BitVec.ofInt 64 (a : Int) ||| BitVec.ofInt 64 (b : Int)).toNat : Int) = _
  rw [BitVec.toNat_or, h1, h2]
  have hw : ∀ n : Nat, n < 9223372036854775808 → IntKind.i64.wrap (n : Int) = (n : Int) := fun n hn => by
    simp [IntKind.wrap, IntKind.signed, IntKind.bits]
    omega
  exact hw _ (by omega)
theorem or_i64 (k : Nat) (x y : Int) (hx : 0 ≤ x) (hy : 0 ≤ y) (hk : y < 2 ^ k) (hb : x * 2 ^ k < 9223372036854775808) (hyb : y < 9223372036854775808) : bits .or .i64 (x * 2 ^ k) y = x * 2 ^ k + y := by
  obtain ⟨a, rfl⟩ : ∃ a : Nat, x = a := ⟨x.toNat, by omega⟩
  obtain ⟨b, rfl⟩ : ∃ b : Nat, y = b := ⟨y.toNat, by omega⟩
  have hk' : b < 2 ^ k := by
    rw [show (2 : Int) ^ k = ((2 ^ k : Nat) : Int) by simp] at hk
    omega
  have e : (a : Int) * 2 ^ k = ((a * 2 ^ k : Nat) : Int) := by simp only [Int.natCast_mul, Int.natCast_pow]; rfl
  rw [e] at hb
  have hb' : a * 2 ^ k < 9223372036854775808 := by omega
  rw [e, bits_or_i64_nat _ _ hb' (by omega), or_mul k a b hk']
  rw [Int.natCast_add]
theorem bits_or_u16_nat (a b : Nat) (ha : a < 65536) (hb : b < 65536) :
    bits .or .u16 (a : Int) (b : Int) = ((a ||| b : Nat) : Int) := by
  have hx : a ||| b < 2 ^ 16 := Nat.or_lt_two_pow (by omega) (by omega)
  have h1 : (BitVec.ofInt 16 (a : Int)).toNat = a := by
    rw [BitVec.ofInt_natCast, BitVec.toNat_ofNat]; exact Nat.mod_eq_of_lt (by omega)
  have h2 : (BitVec.ofInt 16 (b : Int)).toNat = b := by
    rw [BitVec.ofInt_natCast, BitVec.toNat_ofNat]; exact Nat.mod_eq_of_lt (by omega)
  show IntKind.u16.wrap ((BitVec.ofInt 16 (a : Int) ||| BitVec.ofInt 16 (b : Int)).toNat : Int) = _
  rw [BitVec.toNat_or, h1, h2, show ∀ n, IntKind.u16.wrap n = n % 65536 from fun n => by simp [IntKind.wrap, IntKind.signed, IntKind.bits]]
  omega
theorem or_u16 (k : Nat) (x y : Int) (hx : 0 ≤ x) (hy : 0 ≤ y) (hk : y < 2 ^ k) (hb : x * 2 ^ k < 65536) (hyb : y < 65536) : bits .or .u16 (x * 2 ^ k) y = x * 2 ^ k + y := by
  obtain ⟨a, rfl⟩ : ∃ a : Nat, x = a := ⟨x.toNat, by omega⟩
  obtain ⟨b, rfl⟩ : ∃ b : Nat, y = b := ⟨y.toNat, by omega⟩
  have hk' : b < 2 ^ k := by
    rw [show (2 : Int) ^ k = ((2 ^ k : Nat) : Int) by simp] at hk
    omega
  have e : (a : Int) * 2 ^ k = ((a * 2 ^ k : Nat) : Int) := by simp only [Int.natCast_mul, Int.natCast_pow]; rfl
  rw [e] at hb
  have hb' : a * 2 ^ k < 65536 := by omega
  rw [e, bits_or_u16_nat _ _ hb' (by omega), or_mul k a b hk']
  rw [Int.natCast_add]
end Go.Proofs.YtfieiigefllekaaGreatDoor

/- six.piece: of one to four digits. -/
namespace Go.Proofs.YtfieiigefllekaaGreatDoor
open Go.RowKit Go.Proofs.YtfieiigefllekaaGreatDoorW.PrintWords Go.Proofs.YtfieiigefllekaaGreatDoorW.PrintMore

/-- A piece's number: one to four digits to the base 16. -/
def pieceL (l : List UInt8) : Option Int := if l = [] ∨ 4 < l.length then none else accN 16 0 (intsOf l)
def pieceN (l : List UInt8) : Int := (pieceL l).getD 0
def pieceOk (l : List UInt8) : Bool := (pieceL l).isSome
theorem ret_piece {a b : Int} {c d : Bool} (h : a = b) (h' : c = d) : Ending.returned (.tuple #[.int .u16 a, .bool c]) = .returned (.tuple #[.int .u16 b, .bool d]) := by rw [h, h']
theorem pow_step (m v : Int) (pos wd : Nat) (h : m < 16 ^ pos) (hv : v ≤ 15) (hw : 1 ≤ wd) : m * 16 + v < 16 ^ (pos + wd) := by
  have h1 : m * 16 + v < 16 ^ (pos + 1) := by
    rw [Int.pow_succ]
    omega
  have h2 : (16 : Int) ^ (pos + 1) ≤ 16 ^ (pos + wd) := by
    have := Nat.pow_le_pow_right (n := 16) (by omega) (show pos + 1 ≤ pos + wd by omega)
    exact_mod_cast this
  omega
theorem pow_small (m : Int) (pos : Nat) (h : m < 16 ^ pos) (hp : pos ≤ 3) : m ≤ 4095 := by
  have h3 : pos = 0 ∨ pos = 1 ∨ pos = 2 ∨ pos = 3 := by omega
  rcases h3 with rfl | rfl | rfl | rfl <;> simp only [Int.reducePow] at h <;> omega

set_option maxHeartbeats 2000000 in
theorem Piece_calls (s : ByteArray) (w : World) (hs : s.size ≤ 1000000) :
    Calls Tryz.prog 93 #[.string s] w fun e w' => e = .returned (.tuple #[.int .u16 (pieceN s.data.toList), .bool (pieceOk s.data.toList)]) ∧ Below w.heap.size w w' := by
  have hlen : s.data.toList.length = s.size := by simp
  by_cases h0 : s.data.toList = []
  · have e0 : s.toList.isEmpty = true := by rw [toList_eq, h0]; rfl
    have E := Lib.hid (show pieceL s.data.toList = none by rw [pieceL, if_pos (.inl h0)])
    go_enter Tryz.func93, Tryz.ntmps93
    go_wp2_with fail
    go_ret2
    exact ⟨ret_piece (by rw [pieceN, E.out]; rfl) (by rw [pieceOk, E.out]; rfl), Below.refl _ _⟩
  · have e0 : s.toList.isEmpty = false := by rw [toList_eq]; simpa using h0
    by_cases h4 : 4 < s.size
    · have E := Lib.hid (show pieceL s.data.toList = none by rw [pieceL, if_pos (.inr (by omega))])
      clear h0 hlen
      go_enter Tryz.func93, Tryz.ntmps93
      go_wp2_with fail
      go_ret2
      exact ⟨ret_piece (by rw [pieceN, E.out]; rfl) (by rw [pieceOk, E.out]; rfl), Below.refl _ _⟩
    · have E := Lib.hid (show pieceL s.data.toList = accN 16 0 (rn s) by rw [pieceL, if_neg (by intro h; rcases h with h | h; exact h0 h; omega), accN_bytes])
      clear h0 hlen
      go_enter Tryz.func93, Tryz.ntmps93
      go_wp2_with fail
      go_loopw [4] (fun n wr => ∃ (pos f : Nat) (m : Int), wr = w.iter s pos ∧ n = .int .i64 m ∧ 0 ≤ m ∧ m ≤ 65535 ∧ Aside0 (m < 16 ^ pos) ∧ Aside0 (accN 16 m (rnF s f pos) = pieceL s.data.toList) ∧ s.size ≤ pos + f) (fun _ wr => s.size - wr.iterPos w.heap.size)
      case atStart => exact ⟨0, s.size, 0, rfl, rfl, by omega, by omega, ⟨by decide⟩, ⟨E.out.symm⟩, by omega⟩
      case round =>
        obtain ⟨pos, f, m, rfl, rfl, hm0, hm1, hmp, hr, hf⟩ := hrel
        by_cases hp : pos < s.size
        · have hnx : ∀ ty, (Instr.next (.pointer (some ⟨w.heap.size, 0, none⟩)) true ty).run Tryz.prog (w.iter s pos) = _ := fun ty => run_next_any w s pos ty hp
          have hwd := width_pos s pos hp
          have hd1 := decode_le s pos
          obtain ⟨g, rfl, hg⟩ := rnF_step s f pos hp hf
          have Hr := Lib.hid (show accN 16 m (((Utf8.decode s pos).1 : Int) :: rnF s g (pos + (Utf8.decode s pos).2)) = pieceL s.data.toList by rw [← hg]; exact hr.out)
          have hv := hexV_bd ((Utf8.decode s pos).1 : Int)
          have hsm := pow_small m pos hmp.out (by omega)
          clear hg hr E
          go_wp2_with fail
          refine (Value_calls _ _).mono ?_
          rintro e w2 ⟨rfl, rfl⟩
          generalize hv' : hexV ((Utf8.decode s pos).1 : Int) = v at hv ⊢
          have HV := Lib.hid hv'
          clear hv'
          by_cases hneg : v < 0
          · have HN := Lib.hid (show pieceL s.data.toList = none by rw [← Hr.out, accN, if_pos (by rw [HV.out]; omega)])
            go_wp2_with fail
            go_ret2
            exact ⟨ret_piece (by rw [pieceN, HN.out]; rfl) (by rw [pieceOk, HN.out]; rfl), (Below.refl _ _).alloc (Nat.le_refl _) _⟩
          · have HN := Lib.hid (show accN 16 (m * 16 + v) (rnF s g (pos + (Utf8.decode s pos).2)) = pieceL s.data.toList by rw [← Hr.out, accN, if_neg (by rw [HV.out]; omega), HV.out, show min (m * 16 + v) 1099511627776 = m * 16 + v by omega])
            have hor := or_i64 4 m v (by omega) (by omega) (by simp only [Int.reducePow]; omega) (by simp only [Int.reducePow]; omega) (by omega)
            simp only [Int.reducePow] at hor
            have HS := Aside0.mk (pow_step m v pos (Utf8.decode s pos).2 hmp.out (by omega) (by omega))
            go_wp2_with fail
            refine ⟨⟨_, g, m * 16 + v, rfl, rfl, by omega, by omega, HS, ⟨HN.out⟩, by omega⟩, by simp only [World.iterPos_iter]; omega⟩
        · have hnx : ∀ ty, (Instr.next (.pointer (some ⟨w.heap.size, 0, none⟩)) true ty).run Tryz.prog (w.iter s pos) = _ := fun ty => run_next_end w s pos ty hp
          have HN := Lib.hid (show pieceL s.data.toList = some m by rw [← hr.out, rnF_end s f pos hp]; rfl)
          go_wp2_with fail
          go_ret2
          exact ⟨ret_piece (by rw [pieceN, HN.out]; rfl) (by rw [pieceOk, HN.out]; rfl), (Below.refl _ _).alloc (Nat.le_refl _) _⟩
end Go.Proofs.YtfieiigefllekaaGreatDoor

/- Addresses of eight pieces: put together of pieces (six.of), told as pieces. -/
namespace Go.Proofs.YtfieiigefllekaaGreatDoor
open Go.RowKit Go.Proofs.YtfieiigefllekaaGreatDoorW.PrintWords Go.Proofs.YtfieiigefllekaaGreatDoorW.PrintMore

/-- Pieces, put together. -/
def half (xs : List Int) : Int := xs.foldl (fun a x => a * 65536 + x) 0
def preH (xs : List Int) (j : Nat) : Int := half ((xs.take 4).take j)
def preL (xs : List Int) (j : Nat) : Int := half ((xs.drop 4).take (j - 4))
theorem idx8 (a b c d e f g h : Value) (j : Nat) (hj : j < 8) (w : World) : (Instr.index 32 (.agg #[a, b, c, d, e, f, g, h]) (.int .i64 j)).run Tryz.prog w = .ok (#[a, b, c, d, e, f, g, h].getD j undef) w := by
  have hs := Tryz.sizeOf31
  have ha := Tryz.isAgg31
  have hj8 : j = 0 ∨ j = 1 ∨ j = 2 ∨ j = 3 ∨ j = 4 ∨ j = 5 ∨ j = 6 ∨ j = 7 := by omega
  rcases hj8 with rfl | rfl | rfl | rfl | rfl | rfl | rfl | rfl <;> simp [Instr.index, run_underlying Tryz.underlying32, asIntOf, go_sem, part, hs, ha]

theorem heap_alloc_new' (w : World) (o : Obj) (k : Nat) (h : k = w.heap.size) : (w.alloc o).heap[k]? = some o := by
  subst h
  exact heap_alloc_new w o
theorem heap_alloc_old' (w : World) (o : Obj) (k : Nat) (h : k < w.heap.size) : (w.alloc o).heap[k]? = w.heap[k]? := by
  show (w.heap.push o)[k]? = _
  rw [Array.getElem?_push, if_neg (by omega)]
theorem heap_set0 {w : World} {g : Nat} {a b : Value} {t : TypeId} (v : Value) (hg : w.heap[g]? = some (.cells #[a, b] t (0, 0))) : (w.setCell ⟨g, 0, none⟩ v).heap[g]? = some (.cells #[v, b] t (0, 0)) := by
  rw [setCell_eq_setRow w g 0 #[a, b] t (0, 0) v hg]
  exact setRow_heap w g _ _ t _ hg
theorem heap_set1 {w : World} {g : Nat} {a b : Value} {t : TypeId} (v : Value) (hg : w.heap[g]? = some (.cells #[a, b] t (0, 0))) : (w.setCell ⟨g, 1, none⟩ v).heap[g]? = some (.cells #[a, v] t (0, 0)) := by
  rw [setCell_eq_setRow w g 1 #[a, b] t (0, 0) v hg]
  exact setRow_heap w g _ _ t _ hg
theorem heap_cell {w : World} {g j : Nat} {cs : Array Value} {t : TypeId} {v : Value} (hg : w.heap[g]? = some (.cells cs t (0, 0))) (h : cs[j]? = some v) : w.cell? ⟨g, j, none⟩ = some v ∧ w.frozen? ⟨g, j, none⟩ = false := by
  have hj := (Array.getElem?_eq_some_iff.1 h).1
  exact ⟨by rw [cell_of_row w g j cs t (0, 0) hg, h], by simp [World.frozen?, hg]⟩
theorem heap_set_other {w : World} {g k : Nat} {off : Nat} (v : Value) (h : k ≠ g) : (w.setCell ⟨g, off, none⟩ v).heap[k]? = w.heap[k]? := by
  exact Below.heap_setCell w ⟨g, off, none⟩ v k h

set_option maxHeartbeats 2000000 in
set_option maxRecDepth 100000 in
theorem of_calls (x0 x1 x2 x3 x4 x5 x6 x7 : Int) (h0 : 0 ≤ x0 ∧ x0 ≤ 65535) (h1 : 0 ≤ x1 ∧ x1 ≤ 65535) (h2 : 0 ≤ x2 ∧ x2 ≤ 65535) (h3 : 0 ≤ x3 ∧ x3 ≤ 65535) (h4 : 0 ≤ x4 ∧ x4 ≤ 65535) (h5 : 0 ≤ x5 ∧ x5 ≤ 65535) (h6 : 0 ≤ x6 ∧ x6 ≤ 65535) (h7 : 0 ≤ x7 ∧ x7 ≤ 65535) (w : World) :
    Calls Tryz.prog 58 #[.agg #[.int .u16 x0, .int .u16 x1, .int .u16 x2, .int .u16 x3, .int .u16 x4, .int .u16 x5, .int .u16 x6, .int .u16 x7]] w fun e w' => e = .returned (.agg #[.int .u64 (half [x0, x1, x2, x3]), .int .u64 (half [x4, x5, x6, x7])]) ∧ Below w.heap.size w w' := by
  go_enter Tryz.func58, Tryz.ntmps58
  go_wp2_with fail
  go_loopw [7] (fun ii wr => ∃ (j : Nat) (h l : Int), ii = .int .i64 j ∧ j ≤ 8 ∧ Aside0 (h = preH [x0, x1, x2, x3, x4, x5, x6, x7] j) ∧ Aside0 (l = preL [x0, x1, x2, x3, x4, x5, x6, x7] j) ∧ Aside0 (wr.heap[w.heap.size + 1 + 1]? = some (.cells #[.int .u64 h, .int .u64 l] 25 (0, 0))) ∧ Aside0 (wr.heap[w.heap.size + 1]? = some (.cells #[.int .u64 0, .int .u64 0] 25 (0, 0))) ∧ Aside0 (Below w.heap.size w wr)) (fun i _ => 8 - (intOf i).toNat)
  case atStart =>
    refine ⟨0, 0, 0, rfl, by omega, ⟨rfl⟩, ⟨rfl⟩, ⟨?_⟩, ⟨?_⟩, ⟨((((Below.refl _ _).alloc (Nat.le_refl _) _).alloc (by simp) _).alloc (by simp; omega) _)⟩⟩
    · exact heap_alloc_new' _ _ _ (by simp)
    · rw [heap_alloc_old' _ _ _ (by simp)]
      exact heap_alloc_new' _ _ _ (by simp)
  case round =>
    obtain ⟨j, h, l, rfl, hj, eh, el, hg, hr, hbw⟩ := hrel
    have c0 := heap_cell (j := 0) hg.out rfl
    have c1 := heap_cell (j := 1) hg.out rfl
    obtain ⟨c0, f0⟩ := c0
    obtain ⟨c1, f1⟩ := c1
    by_cases hlt : j < 8
    · have hix := idx8 (.int .u16 x0) (.int .u16 x1) (.int .u16 x2) (.int .u16 x3) (.int .u16 x4) (.int .u16 x5) (.int .u16 x6) (.int .u16 x7) j hlt
      have hj8 : j = 0 ∨ j = 1 ∨ j = 2 ∨ j = 3 ∨ j = 4 ∨ j = 5 ∨ j = 6 ∨ j = 7 := by omega
      rcases hj8 with rfl | rfl | rfl | rfl | rfl | rfl | rfl | rfl
      all_goals
        simp only [Int.cast_ofNat_Int, Array.getD_eq_getD_getElem?] at hix
        have eh1 := eh.out
        have el1 := el.out
        simp only [preH, preL, half, List.take, List.drop, List.foldl, Nat.reduceSub] at eh1 el1
        have EH := Lib.hid eh1
        have EL := Lib.hid el1
      · have hb : 0 ≤ h ∧ h < 281474976710656 := by omega
        have hor := or_u64 16 h x0 (by omega) (by omega) (by simp only [Int.reducePow]; omega) (by simp only [Int.reducePow]; omega) (by omega)
        simp only [Int.reducePow] at hor
        clear eh1 el1
        go_wp2_with fail
        go_roundw
        case rel => exact ⟨1, h * 65536 + x0, l, rfl, by omega, ⟨by simp only [preH, half, List.take, List.foldl]; rw [EH.out]⟩, ⟨by simp only [preL, half, List.take, List.drop, List.foldl, Nat.reduceSub]; rw [EL.out]⟩, ⟨heap_set0 _ hg.out⟩, ⟨(heap_set_other _ (by omega)).trans hr.out⟩, ⟨hbw.out.setCell (by show w.heap.size ≤ w.heap.size + 1 + 1; omega) _⟩⟩
        case measure => simp [intOf]
      · have hb : 0 ≤ h ∧ h < 281474976710656 := by omega
        have hor := or_u64 16 h x1 (by omega) (by omega) (by simp only [Int.reducePow]; omega) (by simp only [Int.reducePow]; omega) (by omega)
        simp only [Int.reducePow] at hor
        clear eh1 el1
        go_wp2_with fail
        go_roundw
        case rel => exact ⟨2, h * 65536 + x1, l, rfl, by omega, ⟨by simp only [preH, half, List.take, List.foldl]; rw [EH.out]⟩, ⟨by simp only [preL, half, List.take, List.drop, List.foldl, Nat.reduceSub]; rw [EL.out]⟩, ⟨heap_set0 _ hg.out⟩, ⟨(heap_set_other _ (by omega)).trans hr.out⟩, ⟨hbw.out.setCell (by show w.heap.size ≤ w.heap.size + 1 + 1; omega) _⟩⟩
        case measure => simp [intOf]
      · have hb : 0 ≤ h ∧ h < 281474976710656 := by omega
        have hor := or_u64 16 h x2 (by omega) (by omega) (by simp only [Int.reducePow]; omega) (by simp only [Int.reducePow]; omega) (by omega)
        simp only [Int.reducePow] at hor
        clear eh1 el1
        go_wp2_with fail
        go_roundw
        case rel => exact ⟨3, h * 65536 + x2, l, rfl, by omega, ⟨by simp only [preH, half, List.take, List.foldl]; rw [EH.out]⟩, ⟨by simp only [preL, half, List.take, List.drop, List.foldl, Nat.reduceSub]; rw [EL.out]⟩, ⟨heap_set0 _ hg.out⟩, ⟨(heap_set_other _ (by omega)).trans hr.out⟩, ⟨hbw.out.setCell (by show w.heap.size ≤ w.heap.size + 1 + 1; omega) _⟩⟩
        case measure => simp [intOf]
      · have hb : 0 ≤ h ∧ h < 281474976710656 := by omega
        have hor := or_u64 16 h x3 (by omega) (by omega) (by simp only [Int.reducePow]; omega) (by simp only [Int.reducePow]; omega) (by omega)
        simp only [Int.reducePow] at hor
        clear eh1 el1
        go_wp2_with fail
        go_roundw
        case rel => exact ⟨4, h * 65536 + x3, l, rfl, by omega, ⟨by simp only [preH, half, List.take, List.foldl]; rw [EH.out]⟩, ⟨by simp only [preL, half, List.take, List.drop, List.foldl, Nat.reduceSub]; rw [EL.out]⟩, ⟨heap_set0 _ hg.out⟩, ⟨(heap_set_other _ (by omega)).trans hr.out⟩, ⟨hbw.out.setCell (by show w.heap.size ≤ w.heap.size + 1 + 1; omega) _⟩⟩
        case measure => simp [intOf]
      · have hb : 0 ≤ l ∧ l < 281474976710656 := by omega
        have hor := or_u64 16 l x4 (by omega) (by omega) (by simp only [Int.reducePow]; omega) (by simp only [Int.reducePow]; omega) (by omega)
        simp only [Int.reducePow] at hor
        clear eh1 el1
        go_wp2_with fail
        go_roundw
        case rel => exact ⟨5, h, l * 65536 + x4, rfl, by omega, ⟨by simp only [preH, half, List.take, List.foldl]; rw [EH.out]⟩, ⟨by simp only [preL, half, List.take, List.drop, List.foldl, Nat.reduceSub]; rw [EL.out]⟩, ⟨heap_set1 _ hg.out⟩, ⟨(heap_set_other _ (by omega)).trans hr.out⟩, ⟨hbw.out.setCell (by show w.heap.size ≤ w.heap.size + 1 + 1; omega) _⟩⟩
        case measure => simp [intOf]
      · have hb : 0 ≤ l ∧ l < 281474976710656 := by omega
        have hor := or_u64 16 l x5 (by omega) (by omega) (by simp only [Int.reducePow]; omega) (by simp only [Int.reducePow]; omega) (by omega)
        simp only [Int.reducePow] at hor
        clear eh1 el1
        go_wp2_with fail
        go_roundw
        case rel => exact ⟨6, h, l * 65536 + x5, rfl, by omega, ⟨by simp only [preH, half, List.take, List.foldl]; rw [EH.out]⟩, ⟨by simp only [preL, half, List.take, List.drop, List.foldl, Nat.reduceSub]; rw [EL.out]⟩, ⟨heap_set1 _ hg.out⟩, ⟨(heap_set_other _ (by omega)).trans hr.out⟩, ⟨hbw.out.setCell (by show w.heap.size ≤ w.heap.size + 1 + 1; omega) _⟩⟩
        case measure => simp [intOf]
      · have hb : 0 ≤ l ∧ l < 281474976710656 := by omega
        have hor := or_u64 16 l x6 (by omega) (by omega) (by simp only [Int.reducePow]; omega) (by simp only [Int.reducePow]; omega) (by omega)
        simp only [Int.reducePow] at hor
        clear eh1 el1
        go_wp2_with fail
        go_roundw
        case rel => exact ⟨7, h, l * 65536 + x6, rfl, by omega, ⟨by simp only [preH, half, List.take, List.foldl]; rw [EH.out]⟩, ⟨by simp only [preL, half, List.take, List.drop, List.foldl, Nat.reduceSub]; rw [EL.out]⟩, ⟨heap_set1 _ hg.out⟩, ⟨(heap_set_other _ (by omega)).trans hr.out⟩, ⟨hbw.out.setCell (by show w.heap.size ≤ w.heap.size + 1 + 1; omega) _⟩⟩
        case measure => simp [intOf]
      · have hb : 0 ≤ l ∧ l < 281474976710656 := by omega
        have hor := or_u64 16 l x7 (by omega) (by omega) (by simp only [Int.reducePow]; omega) (by simp only [Int.reducePow]; omega) (by omega)
        simp only [Int.reducePow] at hor
        clear eh1 el1
        go_wp2_with fail
        go_roundw
        case rel => exact ⟨8, h, l * 65536 + x7, rfl, by omega, ⟨by simp only [preH, half, List.take, List.foldl]; rw [EH.out]⟩, ⟨by simp only [preL, half, List.take, List.drop, List.foldl, Nat.reduceSub]; rw [EL.out]⟩, ⟨heap_set1 _ hg.out⟩, ⟨(heap_set_other _ (by omega)).trans hr.out⟩, ⟨hbw.out.setCell (by show w.heap.size ≤ w.heap.size + 1 + 1; omega) _⟩⟩
        case measure => simp [intOf]
    · obtain rfl : j = 8 := by omega
      obtain ⟨r0, g0⟩ := heap_cell (j := 0) hr.out rfl
      obtain ⟨r1, g1⟩ := heap_cell (j := 1) hr.out rfl
      go_wp2_with fail
      refine bodyPost_ret (results_cell_row rfl _ _ (w.heap.size + 1) 25 _ (0, 0) _ rfl (heap_set1 _ (heap_set0 _ hr.out)) Tryz.underlying25 rfl (by kernel_rfl)) rfl ?_
      refine ⟨?_, (hbw.out.setCell (by show w.heap.size ≤ w.heap.size + 1; omega) _).setCell (by show w.heap.size ≤ w.heap.size + 1; omega) _⟩
      rw [eh.out, el.out]
      rfl
end Go.Proofs.YtfieiigefllekaaGreatDoor

/- Addresses of eight pieces: told as pieces. -/
namespace Go.Proofs.YtfieiigefllekaaGreatDoor
open Go.RowKit Go.Proofs.YtfieiigefllekaaGreatDoorW.PrintWords Go.Proofs.YtfieiigefllekaaGreatDoorW.PrintMore

/-- An address's pieces. -/
def piecesOf (hi lo : Int) : List Int := [hi / 281474976710656, hi / 4294967296 % 65536, hi / 65536 % 65536, hi % 65536, lo / 281474976710656, lo / 4294967296 % 65536, lo / 65536 % 65536, lo % 65536]
def pcsA (hi lo : Int) (j : Nat) : Array Value := (((piecesOf hi lo).take j).map (fun x => Value.int .u16 x) ++ List.replicate (8 - j) (Value.int .u16 0)).toArray
theorem heap_setN {w : World} {g j : Nat} {A : Array Value} {t : TypeId} (v : Value) (hg : w.heap[g]? = some (.cells A t (0, 0))) : (w.setCell ⟨g, j, none⟩ v).heap[g]? = some (.cells (A.setIfInBounds j v) t (0, 0)) := by
  rw [setCell_eq_setRow w g j A t (0, 0) v hg]
  exact setRow_heap w g _ _ t _ hg
theorem heap_set8 {w : World} {g : Nat} {t : TypeId} {z0 z1 z2 z3 z4 z5 z6 z7 : Value} (v0 v1 v2 v3 v4 v5 v6 v7 : Value) (hg : w.heap[g]? = some (.cells #[z0, z1, z2, z3, z4, z5, z6, z7] t (0, 0))) : ((((((((w.setCell ⟨g, 0, none⟩ v0).setCell ⟨g, 1, none⟩ v1).setCell ⟨g, 2, none⟩ v2).setCell ⟨g, 3, none⟩ v3).setCell ⟨g, 4, none⟩ v4).setCell ⟨g, 5, none⟩ v5).setCell ⟨g, 6, none⟩ v6).setCell ⟨g, 7, none⟩ v7).heap[g]? = some (.cells #[v0, v1, v2, v3, v4, v5, v6, v7] t (0, 0)) := by
  have h0 : (w.setCell ⟨g, 0, none⟩ v0).heap[g]? = some (.cells #[v0, z1, z2, z3, z4, z5, z6, z7] t (0, 0)) := heap_setN v0 hg
  have h1 : ((w.setCell ⟨g, 0, none⟩ v0).setCell ⟨g, 1, none⟩ v1).heap[g]? = some (.cells #[v0, v1, z2, z3, z4, z5, z6, z7] t (0, 0)) := heap_setN v1 h0
  have h2 : (((w.setCell ⟨g, 0, none⟩ v0).setCell ⟨g, 1, none⟩ v1).setCell ⟨g, 2, none⟩ v2).heap[g]? = some (.cells #[v0, v1, v2, z3, z4, z5, z6, z7] t (0, 0)) := heap_setN v2 h1
  have h3 : ((((w.setCell ⟨g, 0, none⟩ v0).setCell ⟨g, 1, none⟩ v1).setCell ⟨g, 2, none⟩ v2).setCell ⟨g, 3, none⟩ v3).heap[g]? = some (.cells #[v0, v1, v2, v3, z4, z5, z6, z7] t (0, 0)) := heap_setN v3 h2
  have h4 : (((((w.setCell ⟨g, 0, none⟩ v0).setCell ⟨g, 1, none⟩ v1).setCell ⟨g, 2, none⟩ v2).setCell ⟨g, 3, none⟩ v3).setCell ⟨g, 4, none⟩ v4).heap[g]? = some (.cells #[v0, v1, v2, v3, v4, z5, z6, z7] t (0, 0)) := heap_setN v4 h3
  have h5 : ((((((w.setCell ⟨g, 0, none⟩ v0).setCell ⟨g, 1, none⟩ v1).setCell ⟨g, 2, none⟩ v2).setCell ⟨g, 3, none⟩ v3).setCell ⟨g, 4, none⟩ v4).setCell ⟨g, 5, none⟩ v5).heap[g]? = some (.cells #[v0, v1, v2, v3, v4, v5, z6, z7] t (0, 0)) := heap_setN v5 h4
  have h6 : (((((((w.setCell ⟨g, 0, none⟩ v0).setCell ⟨g, 1, none⟩ v1).setCell ⟨g, 2, none⟩ v2).setCell ⟨g, 3, none⟩ v3).setCell ⟨g, 4, none⟩ v4).setCell ⟨g, 5, none⟩ v5).setCell ⟨g, 6, none⟩ v6).heap[g]? = some (.cells #[v0, v1, v2, v3, v4, v5, v6, z7] t (0, 0)) := heap_setN v6 h5
  have h7 : ((((((((w.setCell ⟨g, 0, none⟩ v0).setCell ⟨g, 1, none⟩ v1).setCell ⟨g, 2, none⟩ v2).setCell ⟨g, 3, none⟩ v3).setCell ⟨g, 4, none⟩ v4).setCell ⟨g, 5, none⟩ v5).setCell ⟨g, 6, none⟩ v6).setCell ⟨g, 7, none⟩ v7).heap[g]? = some (.cells #[v0, v1, v2, v3, v4, v5, v6, v7] t (0, 0)) := heap_setN v7 h6
  exact h7
theorem pcsA_cell (hi lo : Int) (j : Nat) (hj : j < 8) : ∃ v, (pcsA hi lo j)[j]? = some v := by
  have hs : (pcsA hi lo j).size = 8 := by
    have h8 : j = 0 ∨ j = 1 ∨ j = 2 ∨ j = 3 ∨ j = 4 ∨ j = 5 ∨ j = 6 ∨ j = 7 := by omega
    rcases h8 with rfl | rfl | rfl | rfl | rfl | rfl | rfl | rfl <;> rfl
  exact ⟨_, Array.getElem?_eq_getElem (by omega)⟩

set_option maxHeartbeats 2000000 in
set_option maxRecDepth 100000 in
theorem Pieces_calls (hi lo : Int) (h0 : 0 ≤ hi ∧ hi < 18446744073709551616) (h1 : 0 ≤ lo ∧ lo < 18446744073709551616) (w : World) :
    Calls Tryz.prog 17 #[.agg #[.int .u64 hi, .int .u64 lo]] w fun e w' => e = .returned (.agg #[.int .u16 (hi / 281474976710656), .int .u16 (hi / 4294967296 % 65536), .int .u16 (hi / 65536 % 65536), .int .u16 (hi % 65536), .int .u16 (lo / 281474976710656), .int .u16 (lo / 4294967296 % 65536), .int .u16 (lo / 65536 % 65536), .int .u16 (lo % 65536)]) ∧ Below w.heap.size w w' := by
  go_enter Tryz.func17, Tryz.ntmps17
  go_wp2_with fail
  go_loopw [6] (fun ii wr => ∃ (j : Nat), ii = .int .i64 j ∧ j ≤ 8 ∧ Aside0 (wr.heap[w.heap.size]? = some (.cells #[.int .u64 hi, .int .u64 lo] 25 (0, 0))) ∧ Aside0 (wr.heap[w.heap.size + 1]? = some (.cells (pcsA hi lo 0) 32 (0, 0))) ∧ Aside0 (wr.heap[w.heap.size + 1 + 1]? = some (.cells (pcsA hi lo j) 32 (0, 0))) ∧ Aside0 (Below w.heap.size w wr)) (fun i _ => 8 - (intOf i).toNat)
  case atStart =>
    refine ⟨0, rfl, by omega, ⟨?_⟩, ⟨?_⟩, ⟨?_⟩, ⟨((((Below.refl _ _).alloc (Nat.le_refl _) _).alloc (by simp) _).alloc (by simp; omega) _)⟩⟩
    · rw [heap_alloc_old' _ _ _ (by simp; omega), heap_alloc_old' _ _ _ (by simp)]
      exact heap_alloc_new' _ _ _ rfl
    · rw [heap_alloc_old' _ _ _ (by simp)]
      exact heap_alloc_new' _ _ _ (by simp)
    · exact heap_alloc_new' _ _ _ (by simp)
  case round =>
    obtain ⟨j, rfl, hj, ha, hr, hp, hbw⟩ := hrel
    obtain ⟨c0, f0⟩ := heap_cell (j := 0) ha.out rfl
    obtain ⟨c1, f1⟩ := heap_cell (j := 1) ha.out rfl
    by_cases hlt : j < 8
    · obtain ⟨v, hv⟩ := pcsA_cell hi lo j hlt
      obtain ⟨cp, fp⟩ := heap_cell (j := j) hp.out hv
      have hj8 : j = 0 ∨ j = 1 ∨ j = 2 ∨ j = 3 ∨ j = 4 ∨ j = 5 ∨ j = 6 ∨ j = 7 := by omega
      clear hv
      rcases hj8 with rfl | rfl | rfl | rfl | rfl | rfl | rfl | rfl
      · go_wp2_with fail
        go_roundw
        case rel => exact ⟨1, rfl, by omega, ⟨(heap_set_other _ (by omega)).trans ha.out⟩, ⟨(heap_set_other _ (by omega)).trans hr.out⟩, ⟨heap_setN _ hp.out⟩, ⟨hbw.out.setCell (by show w.heap.size ≤ w.heap.size + 1 + 1; omega) _⟩⟩
        case measure => simp [intOf]
      · go_wp2_with fail
        go_roundw
        case rel => exact ⟨2, rfl, by omega, ⟨(heap_set_other _ (by omega)).trans ha.out⟩, ⟨(heap_set_other _ (by omega)).trans hr.out⟩, ⟨heap_setN _ hp.out⟩, ⟨hbw.out.setCell (by show w.heap.size ≤ w.heap.size + 1 + 1; omega) _⟩⟩
        case measure => simp [intOf]
      · go_wp2_with fail
        go_roundw
        case rel => exact ⟨3, rfl, by omega, ⟨(heap_set_other _ (by omega)).trans ha.out⟩, ⟨(heap_set_other _ (by omega)).trans hr.out⟩, ⟨heap_setN _ hp.out⟩, ⟨hbw.out.setCell (by show w.heap.size ≤ w.heap.size + 1 + 1; omega) _⟩⟩
        case measure => simp [intOf]
      · go_wp2_with fail
        go_roundw
        case rel => exact ⟨4, rfl, by omega, ⟨(heap_set_other _ (by omega)).trans ha.out⟩, ⟨(heap_set_other _ (by omega)).trans hr.out⟩, ⟨heap_setN _ hp.out⟩, ⟨hbw.out.setCell (by show w.heap.size ≤ w.heap.size + 1 + 1; omega) _⟩⟩
        case measure => simp [intOf]
      · go_wp2_with fail
        go_roundw
        case rel => exact ⟨5, rfl, by omega, ⟨(heap_set_other _ (by omega)).trans ha.out⟩, ⟨(heap_set_other _ (by omega)).trans hr.out⟩, ⟨heap_setN _ hp.out⟩, ⟨hbw.out.setCell (by show w.heap.size ≤ w.heap.size + 1 + 1; omega) _⟩⟩
        case measure => simp [intOf]
      · go_wp2_with fail
        go_roundw
        case rel => exact ⟨6, rfl, by omega, ⟨(heap_set_other _ (by omega)).trans ha.out⟩, ⟨(heap_set_other _ (by omega)).trans hr.out⟩, ⟨heap_setN _ hp.out⟩, ⟨hbw.out.setCell (by show w.heap.size ≤ w.heap.size + 1 + 1; omega) _⟩⟩
        case measure => simp [intOf]
      · go_wp2_with fail
        go_roundw
        case rel => exact ⟨7, rfl, by omega, ⟨(heap_set_other _ (by omega)).trans ha.out⟩, ⟨(heap_set_other _ (by omega)).trans hr.out⟩, ⟨heap_setN _ hp.out⟩, ⟨hbw.out.setCell (by show w.heap.size ≤ w.heap.size + 1 + 1; omega) _⟩⟩
        case measure => simp [intOf]
      · go_wp2_with fail
        go_roundw
        case rel => exact ⟨8, rfl, by omega, ⟨(heap_set_other _ (by omega)).trans ha.out⟩, ⟨(heap_set_other _ (by omega)).trans hr.out⟩, ⟨heap_setN _ hp.out⟩, ⟨hbw.out.setCell (by show w.heap.size ≤ w.heap.size + 1 + 1; omega) _⟩⟩
        case measure => simp [intOf]
    · obtain rfl : j = 8 := by omega
      have p0 : wr.cell? ⟨w.heap.size + 1 + 1, 0, none⟩ = some (.int .u16 (hi / 281474976710656)) := (heap_cell (j := 0) hp.out rfl).1
      have p1 : wr.cell? ⟨w.heap.size + 1 + 1, 1, none⟩ = some (.int .u16 (hi / 4294967296 % 65536)) := (heap_cell (j := 1) hp.out rfl).1
      have p2 : wr.cell? ⟨w.heap.size + 1 + 1, 2, none⟩ = some (.int .u16 (hi / 65536 % 65536)) := (heap_cell (j := 2) hp.out rfl).1
      have p3 : wr.cell? ⟨w.heap.size + 1 + 1, 3, none⟩ = some (.int .u16 (hi % 65536)) := (heap_cell (j := 3) hp.out rfl).1
      have p4 : wr.cell? ⟨w.heap.size + 1 + 1, 4, none⟩ = some (.int .u16 (lo / 281474976710656)) := (heap_cell (j := 4) hp.out rfl).1
      have p5 : wr.cell? ⟨w.heap.size + 1 + 1, 5, none⟩ = some (.int .u16 (lo / 4294967296 % 65536)) := (heap_cell (j := 5) hp.out rfl).1
      have p6 : wr.cell? ⟨w.heap.size + 1 + 1, 6, none⟩ = some (.int .u16 (lo / 65536 % 65536)) := (heap_cell (j := 6) hp.out rfl).1
      have p7 : wr.cell? ⟨w.heap.size + 1 + 1, 7, none⟩ = some (.int .u16 (lo % 65536)) := (heap_cell (j := 7) hp.out rfl).1
      have r0 : wr.cell? ⟨w.heap.size + 1, 0, none⟩ = some (.int .u16 0) := (heap_cell (j := 0) hr.out rfl).1
      have g0 := (heap_cell (j := 0) hr.out rfl).2
      have r1 : wr.cell? ⟨w.heap.size + 1, 1, none⟩ = some (.int .u16 0) := (heap_cell (j := 1) hr.out rfl).1
      have g1 := (heap_cell (j := 1) hr.out rfl).2
      have r2 : wr.cell? ⟨w.heap.size + 1, 2, none⟩ = some (.int .u16 0) := (heap_cell (j := 2) hr.out rfl).1
      have g2 := (heap_cell (j := 2) hr.out rfl).2
      have r3 : wr.cell? ⟨w.heap.size + 1, 3, none⟩ = some (.int .u16 0) := (heap_cell (j := 3) hr.out rfl).1
      have g3 := (heap_cell (j := 3) hr.out rfl).2
      have r4 : wr.cell? ⟨w.heap.size + 1, 4, none⟩ = some (.int .u16 0) := (heap_cell (j := 4) hr.out rfl).1
      have g4 := (heap_cell (j := 4) hr.out rfl).2
      have r5 : wr.cell? ⟨w.heap.size + 1, 5, none⟩ = some (.int .u16 0) := (heap_cell (j := 5) hr.out rfl).1
      have g5 := (heap_cell (j := 5) hr.out rfl).2
      have r6 : wr.cell? ⟨w.heap.size + 1, 6, none⟩ = some (.int .u16 0) := (heap_cell (j := 6) hr.out rfl).1
      have g6 := (heap_cell (j := 6) hr.out rfl).2
      have r7 : wr.cell? ⟨w.heap.size + 1, 7, none⟩ = some (.int .u16 0) := (heap_cell (j := 7) hr.out rfl).1
      have g7 := (heap_cell (j := 7) hr.out rfl).2
      go_wp2_with fail
      have hz : wr.heap[w.heap.size + 1]? = some (.cells #[.int .u16 0, .int .u16 0, .int .u16 0, .int .u16 0, .int .u16 0, .int .u16 0, .int .u16 0, .int .u16 0] 32 (0, 0)) := hr.out
      have h8 := heap_set8 (.int .u16 (hi / 281474976710656)) (.int .u16 (hi / 4294967296 % 65536)) (.int .u16 (hi / 65536 % 65536)) (.int .u16 (hi % 65536)) (.int .u16 (lo / 281474976710656)) (.int .u16 (lo / 4294967296 % 65536)) (.int .u16 (lo / 65536 % 65536)) (.int .u16 (lo % 65536)) hz
      refine bodyPost_ret (results_cell_row rfl _ _ (w.heap.size + 1) 32 #[.int .u16 (hi / 281474976710656), .int .u16 (hi / 4294967296 % 65536), .int .u16 (hi / 65536 % 65536), .int .u16 (hi % 65536), .int .u16 (lo / 281474976710656), .int .u16 (lo / 4294967296 % 65536), .int .u16 (lo / 65536 % 65536), .int .u16 (lo % 65536)] (0, 0) _ rfl h8 Tryz.underlying32 rfl (by kernel_rfl)) rfl ?_
      exact ⟨rfl, ((((((((hbw.out.setCell (by show w.heap.size ≤ w.heap.size + 1; omega) _).setCell (by show w.heap.size ≤ w.heap.size + 1; omega) _).setCell (by show w.heap.size ≤ w.heap.size + 1; omega) _).setCell (by show w.heap.size ≤ w.heap.size + 1; omega) _).setCell (by show w.heap.size ≤ w.heap.size + 1; omega) _).setCell (by show w.heap.size ≤ w.heap.size + 1; omega) _).setCell (by show w.heap.size ≤ w.heap.size + 1; omega) _).setCell (by show w.heap.size ≤ w.heap.size + 1; omega) _)⟩
end Go.Proofs.YtfieiigefllekaaGreatDoor

/- six.Of: any pieces. -/
namespace Go.Proofs.YtfieiigefllekaaGreatDoor
open Go.RowKit Go.Proofs.YtfieiigefllekaaGreatDoorW.PrintWords Go.Proofs.YtfieiigefllekaaGreatDoorW.PrintMore

def eight (xs : List Int) : List Int := (xs ++ List.replicate 8 0).take 8
def u16s (xs : List Int) : List Value := xs.map fun x => Value.int .u16 x

theorem u16s_length (xs : List Int) : (u16s xs).length = xs.length := by simp [u16s]
theorem u16s_one (xs : List Int) : ∀ v ∈ u16s xs, v.oneCell' = true := by
  intro v hv
  obtain ⟨x, _, rfl⟩ := List.mem_map.1 hv
  rfl
/-- Numbers copied into a row of eight that lies above. -/
theorem copy8 (W : World) (B g : Nat) (hBg : B ≤ g) (A : Option Addr) (c : Nat) (xs : List Int) (hg : W.heap[g]? = some (.cells (u16s (List.replicate 8 0)).toArray 32 (0, 0)))
    (hA : 0 < xs.length → ∃ ad, A = some ad ∧ ∀ j v, (u16s xs)[j]? = some v → W.cell? (ad.add j) = some v) :
    ∃ W' : World, (Builtin.copy_ #[41, 41] 3 #[.slice (some ⟨g, 0, none⟩) 8 8, .slice A xs.length c]).run Tryz.prog W = .ok (goInt (Nat.min xs.length 8)) W' ∧ W'.heap[g]? = some (.cells (u16s (eight xs)).toArray 32 (0, 0)) ∧ (∀ k, k ≠ g → W'.heap[k]? = W.heap[k]?) ∧ W'.heap.size = W.heap.size ∧ Below B W W' := by
  rcases Nat.eq_zero_or_pos xs.length with h0 | hpos
  · refine ⟨W, ?_, ?_, fun _ _ => rfl, rfl, Below.refl _ _⟩
    · rw [run_copy_none W _ _ _ 31 _ A 8 8 xs.length c Tryz.underlying41 (by kernel_rfl) (by rw [h0]; rfl), h0]
      rfl
    · rw [hg, List.eq_nil_of_length_eq_zero h0]
      rfl
  · obtain ⟨ad, rfl, hc⟩ := hA hpos
    have hlen : (u16s (xs.take 8)).length = Nat.min xs.length 8 := by rw [u16s_length, List.length_take, Nat.min_comm]
    have hle : Nat.min xs.length 8 ≤ 8 := Nat.min_le_right _ _
    have hrun := run_copy_row Tryz.prog W 41 41 3 31 g 0 8 8 ad xs.length c _ 32 (u16s (xs.take 8)) Tryz.underlying41 (by kernel_rfl) hg hlen
      (fun j v hv => hc j v (by
        have : (u16s (xs.take 8)) = (u16s xs).take 8 := by simp [u16s, List.map_take]
        rw [this, List.getElem?_take] at hv
        split at hv
        · exact hv
        · cases hv))
      (by rw [hlen, Nat.zero_add]; exact hle) (u16s_one _)
    refine ⟨_, by rw [hrun, hlen], ?_, fun k hk => setRow_other W g k _ hk, by simp [World.setRow], below_setRow (Below.refl _ _) hBg _⟩
    have key : (u16s (List.replicate 8 0)).toArray.toList.take 0 ++ u16s (xs.take 8) ++ (u16s (List.replicate 8 0)).toArray.toList.drop (0 + (u16s (xs.take 8)).length) = u16s (eight xs) := by
      have e : (xs ++ List.replicate 8 (0 : Int)).take 8 = xs.take 8 ++ List.replicate (8 - xs.length) 0 := by
        rw [List.take_append, List.take_replicate, show min (8 - xs.length) 8 = 8 - xs.length by omega]
      have hl8 : (u16s (xs.take 8)).length = min 8 xs.length := by rw [u16s_length, List.length_take]
      rw [eight, e, hl8]
      simp only [u16s, List.map_append, List.map_replicate, List.take_zero, List.nil_append, List.drop_replicate, Nat.zero_add]
      rw [show 8 - min 8 xs.length = 8 - xs.length by omega]
    rw [hlen] at key
    rw [setRow_heap W g _ _ _ _ hg, key]

set_option maxHeartbeats 2000000 in
set_option maxRecDepth 100000 in
theorem SixOf_calls (A : Option Addr) (c : Nat) (xs : List Int) (w : World) (_hn : xs.length ≤ c) (hb : ∀ x ∈ xs, 0 ≤ x ∧ x ≤ 65535)
    (hA : 0 < xs.length → ∃ ad, A = some ad ∧ ∀ j v, (u16s xs)[j]? = some v → w.cell? (ad.add j) = some v) :
    Calls Tryz.prog 22 #[.slice A xs.length c] w fun e w' => e = .returned (.agg #[.int .u64 (half ((eight xs).take 4)), .int .u64 (half ((eight xs).drop 4))]) ∧ Below w.heap.size w w' := by
  obtain ⟨W', hcp, hg', ho', hs', hb'⟩ := copy8 ((w.alloc (.cells #[.int .u64 0, .int .u64 0] 25)).alloc (.cells #[.int .u16 0, .int .u16 0, .int .u16 0, .int .u16 0, .int .u16 0, .int .u16 0, .int .u16 0, .int .u16 0] 32)) w.heap.size (w.heap.size + 1) (by omega) A c xs (by exact heap_alloc_new' _ _ _ (by simp)) (fun h => by
    obtain ⟨ad, e, hc⟩ := hA h
    refine ⟨ad, e, fun j v hv => ?_⟩
    have h1 := hc j v hv
    have hlt := cell_lt h1
    rw [World.cell?_alloc_lt _ _ _ (by simp; omega), World.cell?_alloc_lt _ _ _ hlt]
    exact h1)
  obtain ⟨y0, y1, y2, y3, y4, y5, y6, y7, hy⟩ : ∃ y0 y1 y2 y3 y4 y5 y6 y7, eight xs = [y0, y1, y2, y3, y4, y5, y6, y7] := by
    have : (eight xs).length = 8 := by simp [eight]
    rcases h : eight xs with _ | ⟨a, _ | ⟨b, _ | ⟨c, _ | ⟨d, _ | ⟨e, _ | ⟨f, _ | ⟨g, _ | ⟨i, _ | ⟨j, l⟩⟩⟩⟩⟩⟩⟩⟩⟩ <;> rw [h] at this <;> simp at this
    exact ⟨_, _, _, _, _, _, _, _, rfl⟩
  have hyb : ∀ y ∈ eight xs, 0 ≤ y ∧ y ≤ 65535 := by
    intro y hy
    rcases List.mem_append.1 (List.mem_of_mem_take hy) with h | h
    · exact hb y h
    · rw [(List.mem_replicate.1 h).2]
      omega
  rw [hy] at hyb hg' ⊢
  have k0 := hyb y0 (by simp)
  have k1 := hyb y1 (by simp)
  have k2 := hyb y2 (by simp)
  have k3 := hyb y3 (by simp)
  have k4 := hyb y4 (by simp)
  have k5 := hyb y5 (by simp)
  have k6 := hyb y6 (by simp)
  have k7 := hyb y7 (by simp)
  have c0 : W'.cell? ⟨w.heap.size + 1, 0, none⟩ = some (.int .u16 y0) := (heap_cell (j := 0) hg' rfl).1
  have c1 : W'.cell? ⟨w.heap.size + 1, 1, none⟩ = some (.int .u16 y1) := (heap_cell (j := 1) hg' rfl).1
  have c2 : W'.cell? ⟨w.heap.size + 1, 2, none⟩ = some (.int .u16 y2) := (heap_cell (j := 2) hg' rfl).1
  have c3 : W'.cell? ⟨w.heap.size + 1, 3, none⟩ = some (.int .u16 y3) := (heap_cell (j := 3) hg' rfl).1
  have c4 : W'.cell? ⟨w.heap.size + 1, 4, none⟩ = some (.int .u16 y4) := (heap_cell (j := 4) hg' rfl).1
  have c5 : W'.cell? ⟨w.heap.size + 1, 5, none⟩ = some (.int .u16 y5) := (heap_cell (j := 5) hg' rfl).1
  have c6 : W'.cell? ⟨w.heap.size + 1, 6, none⟩ = some (.int .u16 y6) := (heap_cell (j := 6) hg' rfl).1
  have c7 : W'.cell? ⟨w.heap.size + 1, 7, none⟩ = some (.int .u16 y7) := (heap_cell (j := 7) hg' rfl).1
  have hr : W'.heap[w.heap.size]? = some (.cells #[.int .u64 0, .int .u64 0] 25 (0, 0)) := by
    rw [ho' _ (by omega), heap_alloc_old' _ _ _ (by simp)]
    exact heap_alloc_new' _ _ _ rfl
  have HR := Aside0.mk hr
  have HB : Aside0 (Below w.heap.size w W') := ⟨((((Below.refl _ _).alloc (Nat.le_refl _) _).alloc (by simp) _)).trans hb'⟩
  clear hr hb' hy hyb hg' ho' hA hb
  go_enter Tryz.func22, Tryz.ntmps22
  go_wp2_with fail
  refine (of_calls y0 y1 y2 y3 y4 y5 y6 y7 k0 k1 k2 k3 k4 k5 k6 k7 _).mono ?_
  rintro e w2 ⟨rfl, b2⟩
  have B2 := Aside0.mk (below_then HB.out HB.out.size b2)
  have hr2 : w2.heap[w.heap.size]? = some (.cells #[.int .u64 0, .int .u64 0] 25 (0, 0)) := (b2.block _ (by rw [hs']; simp; omega)).trans HR.out
  have r0 : w2.cell? ⟨w.heap.size, 0, none⟩ = some (.int .u64 0) := (heap_cell (j := 0) hr2 rfl).1
  have r1 : w2.cell? ⟨w.heap.size, 1, none⟩ = some (.int .u64 0) := (heap_cell (j := 1) hr2 rfl).1
  have g0 := (heap_cell (j := 0) hr2 rfl).2
  have g1 := (heap_cell (j := 1) hr2 rfl).2
  have h2 := Aside0.mk hr2
  clear hr2 b2
  go_wp2_with fail
  refine bodyPost_ret (results_cell_row rfl _ _ w.heap.size 25 _ (0, 0) _ rfl (heap_set1 _ (heap_set0 _ h2.out)) Tryz.underlying25 rfl (by kernel_rfl)) rfl ?_
  exact ⟨rfl, (B2.out.setCell (Nat.le_refl _) _).setCell (Nat.le_refl _) _⟩
end Go.Proofs.YtfieiigefllekaaGreatDoor
