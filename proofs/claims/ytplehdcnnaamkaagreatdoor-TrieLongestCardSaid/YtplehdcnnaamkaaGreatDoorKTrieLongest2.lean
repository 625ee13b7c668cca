/- Texts that the claim's row leans on, joined by wip/pack.py: Fmt FourW Six2 ShD Step StepW SixP SixD RSix1 Six3 -/
import Derived.Test.YtplehdcnnaamkaaGreatDoorKTrieLongest1
import Derived.Lib.ItoaMem
import Derived.Laws.IdiomStrings
import Derived.Shelf.Strings.Builder1
import Derived.Shelf.Strings.Builder2
import Derived.Shelf.Strings.OnBuilder
import Derived.Shelf.Small.Utf8
import Derived.Shelf.Small.Strs
import Derived.Shelf.Strings.BuilderF
import Derived.Shelf.Strings.BuilderK
import Derived.Shelf.Strings.BuilderRune
import Derived.Shelf.Strconv.Atoi
import Derived.Shelf.Strconv.Itoa0
import Derived.Shelf.Strconv.Itoa1
import Derived.Shelf.LaysM
import Derived.Shelf.Strconv.Itoa2
import Derived.Shelf.Strconv.Itoa3
import Derived.Shelf.Strconv.AtoiErrFast
import Derived.Shelf.Strconv.ParseIntEmpty
import Derived.Shelf.Strconv.AtoiFail
import Derived.Shelf.Strconv.Clone
import Derived.Shelf.Strconv.SyntaxError
import Derived.Shelf.LaysC
import Derived.Shelf.Strconv.ToError
import Derived.Shelf.Strconv.Lower
import Derived.Shelf.Strconv.ParseUint10
import Derived.Shelf.Strconv.ParseUint10Empty
import Derived.Shelf.Strconv.ParseUint10Any
import Derived.Shelf.Strconv.ParseInt10
import Derived.Shelf.Strconv.AtoiLong
import Derived.Shelf.Strconv.AtoiInnerAll
import Derived.Shelf.Strconv.RangeError
import Derived.Shelf.Strconv.ToErrorRange
import Derived.Shelf.Strconv.AtoiAll
import Derived.Shelf.Strings.Search1
import Derived.Shelf.Strings.Search2
import Derived.Shelf.Strings.Cut
import Derived.Shelf.Strings.Shaped
import Derived.Shelf.Strings.Prefix
import Derived.Shelf.Unicode.Latin
import Derived.Shelf.Bits.Mul64
import Derived.Shelf.Unicode.DecodeSlow
import Derived.Shelf.Unicode.CaseLookup
import Derived.Shelf.Unicode.CaseConvert
import Derived.Shelf.Unicode.CaseTo
import Derived.Shelf.Unicode.CaseLaid
import Derived.Test.YtplehdcnnaamkaaGreatDoorProg
import Derived.BigRegion
import Derived.Deep.RegionHeld3
import Derived.Laws.CopyOwn
import Derived.Laws.CopyRow
import Derived.Laws.IdiomCopy
/- strconv.FormatUint to base 10. -/
namespace Go.Proofs.YtplehdcnnaamkaaGreatDoor
open Go.RowKit Go.Proofs.YtplehdcnnaamkaaGreatDoorW.PrintWords Go.Proofs.YtplehdcnnaamkaaGreatDoorW.PrintMore

theorem grow_below (w : World) (k : Nat) (os : Array Obj) : Below w.heap.size w (Sort.grow (w.drewN k) os) :=
  ⟨rfl, rfl, rfl, by simp [Sort.grow, World.drewN], fun j hj => by simp [Sort.grow, World.drewN, Array.getElem?_append, hj]⟩
theorem holds_zero0 (w : World) (T : TypeId) (nd : Nat) (hs : nd ≤ 24) : Sort.Holds (fun (b : UInt8) => Value.int .u8 (b.toNat : Int)) (w.alloc (.cells Lib.zeros24 T)) w.heap.size 0 (Array.replicate nd (0 : UInt8)) := fun j hj => by
  have hj' : j < nd := by simpa using hj
  refine ⟨?_, World.frozen?_alloc_new _ _ _ _⟩
  rw [World.cell?_alloc_new, Lib.zeros24_at _ (by omega), getElem!_pos _ j hj]
  simp
theorem fin_pos0 (w : World) (o : Obj) (dk : Array UInt8) (k : Nat) : ∃ os, (Sort.putRow (fun (b : UInt8) => Value.int .u8 (b.toNat : Int)) (w.alloc o) w.heap.size 0 dk).drewN k = Sort.grow (w.drewN k) os := by
  rw [Sort.alloc_eq_grow]
  obtain ⟨os', _, e⟩ := Sort.putRow_grow_new (fun (b : UInt8) => Value.int .u8 (b.toNat : Int)) w #[o] w.heap.size 0 dk (Nat.le_refl _)
  exact ⟨os', by rw [e]; rfl⟩

set_option maxHeartbeats 4000000 in
set_option maxRecDepth 100000 in
theorem Format10_calls (u : Nat) (hu64 : u < 18446744073709551616) (w : World) (hP : Pows w) :
    Calls Tryz.prog 104 #[.int .u64 u, .int .i64 10] w fun e w' => e = .returned (.string ⟨(Lib.decDigits u).toArray⟩) ∧ Below w.heap.size w w' := by
  by_cases hs : u < 100
  · go_enter Tryz.func104, Tryz.ntmps104
    go_wp2_with fail
    refine (Tryz.internal_strconv_small u hs _).mono ?_
    rintro e w' ⟨rfl, rfl⟩
    go_wp2_with fail
    go_ret
    exact ⟨rfl, Below.refl _ _⟩
  · have hu1 : 1 ≤ u := by omega
    have hnd20 : Lib.nDigits u ≤ 20 := by have := Lib.numDigits_eq u hu1 hu64; split at this <;> omega
    have hb3 : Lib.nDigits u ≤ 24 := by omega
    have hal : Tryz.prog.arrayLen 199 = 24 := by simp [Program.arrayLen, Tryz.underlying199]
    have hsl1 : ∀ W, (Instr.sliceAt 199 (.pointer (some ⟨w.heap.size, 0, none⟩)) none (some (.int .i64 (Lib.nDigits u : Int))) none).run Tryz.prog W = .ok (.slice (some ⟨w.heap.size, 0, none⟩) (Lib.nDigits u) 24) W := fun W => by
      rw [run_sliceAt_array_h W 199 ⟨w.heap.size, 0, none⟩ (by simp [Program.arrayLen, Program.elem, Tryz.underlying199]) .i64 (Lib.nDigits u : Int) (by omega) (by rw [hal]; omega)]
      go_simp
      try omega
    have hH0 := holds_zero0 w 199 (Lib.nDigits u) (by omega)
    have hfmt := Tryz.internal_strconv_formatBase10 w.heap.size 0 24 u (Array.replicate (Lib.nDigits u) 0) (w.alloc (.cells Lib.zeros24 199)) hH0 (by rw [Array.size_replicate]; exact Lib.lt_pow_nDigits u) hu64 (by rw [Array.size_replicate]; omega)
    rw [Array.size_replicate] at hfmt
    have HH0 := Lib.hid hH0
    clear hH0 hal
    go_enter Tryz.func104, Tryz.ntmps104
    go_wp2_with fail
    refine (Tryz.internal_strconv_numDigits u hu1 hu64 _ (Lib.tabIs_alloc hP _)).mono ?_
    rintro e w' ⟨rfl, rfl⟩
    go_wp2_with fail
    refine hfmt.mono ?_
    rintro e w' ⟨rfl, k, v', dk, rfl, hF⟩
    have hcv : (convert 158 9 (.slice (some ⟨w.heap.size, 0, none⟩) (Lib.nDigits u) 24)).run Tryz.prog ((Sort.putRow (fun (b : UInt8) => Value.int .u8 (b.toNat : Int)) (w.alloc (.cells Lib.zeros24 199)) w.heap.size 0 dk).drewN k) = .ok (.string ⟨(Lib.decDigits u).toArray⟩) ((Sort.putRow (fun (b : UInt8) => Value.int .u8 (b.toNat : Int)) (w.alloc (.cells Lib.zeros24 199)) w.heap.size 0 dk).drewN k) := by
      have h := run_convert_bytes_back (P := Tryz.prog) ((Sort.putRow (fun (b : UInt8) => Value.int .u8 (b.toNat : Int)) (w.alloc (.cells Lib.zeros24 199)) w.heap.size 0 dk).drewN k) 158 9 5 ⟨w.heap.size, 0, none⟩ 24 (Lib.decDigits u) Tryz.underlying158 Tryz.underlying5 Tryz.underlying9 (fun j hj => by
        rw [Lib.row_is_numeral hF j hj, Lib.add_plain, World.cell?_drewN]
        exact Sort.cell?_putRow (fun (b : UInt8) => Value.int .u8 (b.toNat : Int)) _ w.heap.size 0 _ dk HH0.out (by rw [hF.size, Array.size_replicate]) j (by rw [hF.size]; rw [Lib.decDigits_length] at hj; exact hj))
      rw [Lib.decDigits_length] at h
      exact h
    go_wp2_with fail
    go_ret
    obtain ⟨os, eo⟩ := fin_pos0 w (.cells Lib.zeros24 199) dk k
    exact ⟨rfl, by rw [eo]; exact grow_below _ _ _⟩
theorem FormatUint10_calls (u : Nat) (hu64 : u < 18446744073709551616) (w : World) (hP : Pows w) :
    Calls Tryz.prog 60 #[.int .u64 u, .int .i64 10] w fun e w' => e = .returned (.string ⟨(Lib.decDigits u).toArray⟩) ∧ Below w.heap.size w w' := by
  go_enter Tryz.func60, Tryz.ntmps60
  go_wp2_with fail
  refine (Format10_calls u hu64 _ hP).mono ?_
  rintro e w1 ⟨rfl, hb⟩
  go_wp2_with fail
  go_ret
  exact ⟨rfl, hb⟩
end Go.Proofs.YtplehdcnnaamkaaGreatDoor

/- Addresses of four bytes: built of bytes, told as bytes, written. -/
namespace Go.Proofs.YtplehdcnnaamkaaGreatDoor
open Go.RowKit Go.Proofs.YtplehdcnnaamkaaGreatDoorW.PrintWords Go.Proofs.YtplehdcnnaamkaaGreatDoorW.PrintMore

theorem Of_calls (a b c d : Int) (ha : 0 ≤ a ∧ a ≤ 255) (hb : 0 ≤ b ∧ b ≤ 255) (hc : 0 ≤ c ∧ c ≤ 255) (hd : 0 ≤ d ∧ d ≤ 255) (w : World) :
    Calls Tryz.prog 86 #[.int .u8 a, .int .u8 b, .int .u8 c, .int .u8 d] w fun e w' => e = .returned (.int .u32 (((a * 256 + b) * 256 + c) * 256 + d)) ∧ w = w' := by
  have h1 := or_u32 24 a (b * 65536) (by omega) (by omega) (by simp only [Int.reducePow]; omega) (by simp only [Int.reducePow]; omega) (by omega)
  have h2 := or_u32 16 (a * 256 + b) (c * 256) (by omega) (by omega) (by simp only [Int.reducePow]; omega) (by simp only [Int.reducePow]; omega) (by omega)
  have h3 := or_u32 8 ((a * 256 + b) * 256 + c) d (by omega) (by omega) (by simp only [Int.reducePow]; omega) (by simp only [Int.reducePow]; omega) (by omega)
  simp only [Int.reducePow] at h1 h2 h3
  rw [show (a * 256 + b) * 65536 = a * 16777216 + b * 65536 by omega] at h2
  rw [show ((a * 256 + b) * 256 + c) * 256 = a * 16777216 + b * 65536 + c * 256 by omega] at h3
  go_enter Tryz.func86, Tryz.ntmps86
  go_wp2_with fail
  go_ret
  exact ⟨congrArg (fun z => Ending.returned (.int .u32 z)) (by omega), rfl⟩
theorem Bytes_calls (n : Int) (h0 : 0 ≤ n) (h1 : n < 4294967296) (w : World) :
    Calls Tryz.prog 115 #[.int .u32 n] w fun e w' => e = .returned (.agg #[.int .u8 (n / 16777216), .int .u8 (n / 65536 % 256), .int .u8 (n / 256 % 256), .int .u8 (n % 256)]) ∧ Below w.heap.size w w' := by
  go_enter Tryz.func115, Tryz.ntmps115
  go_wp2_with fail
  refine bodyPost_ret (results_cell_row rfl _ _ w.heap.size 182 _ (0, 0) _ rfl (heap_alloc_new _ _) Tryz.underlying182 rfl (by kernel_rfl)) rfl ?_
  exact ⟨rfl, (Below.refl _ _).alloc (Nat.le_refl _) _⟩
theorem Wide_calls (n : Int) (h0 : 0 ≤ n) (h1 : n < 4294967296) (w : World) :
    Calls Tryz.prog 221 #[.int .u32 n] w fun e w' => e = .returned (.tuple #[.int .u64 0, .int .u64 (281470681743360 + n)]) ∧ w = w' := by
  have h1 := or_u64 32 65535 n (by omega) (by omega) (by simp only [Int.reducePow]; omega) (by decide) (by omega)
  simp only [Int.reducePow, Int.reduceMul] at h1
  go_enter Tryz.func221, Tryz.ntmps221
  go_wp2_with fail
  go_ret2
  exact ⟨rfl, rfl⟩

theorem bytes_of (z : ByteArray) (l : List UInt8) (h : z.data.toList = l) : z = ⟨l.toArray⟩ := by
  subst h
  rfl
end Go.Proofs.YtplehdcnnaamkaaGreatDoor

/- Addresses of eight pieces: told as pieces. -/
namespace Go.Proofs.YtplehdcnnaamkaaGreatDoor
open Go.RowKit Go.Proofs.YtplehdcnnaamkaaGreatDoorW.PrintWords Go.Proofs.YtplehdcnnaamkaaGreatDoorW.PrintMore

/-- An address's pieces. -/
def piecesOf (hi lo : Int) : List Int := [hi / 281474976710656, hi / 4294967296 % 65536, hi / 65536 % 65536, hi % 65536, lo / 281474976710656, lo / 4294967296 % 65536, lo / 65536 % 65536, lo % 65536]
def pcsA (hi lo : Int) (j : Nat) : Array Value := (((piecesOf hi lo).take j).map (fun x => Value.int .u16 x) ++ List.replicate (8 - j) (Value.int .u16 0)).toArray
theorem heap_setN {w : World} {g j : Nat} {A : Array Value} {t : TypeId} (v : Value) (hg : w.heap[g]? = some (.cells A t (0, 0))) : (w.setCell ⟨g, j, none⟩ v).heap[g]? = some (.cells (A.setIfInBounds j v) t (0, 0)) := by
  rw [setCell_eq_setRow w g j A t (0, 0) v hg]
  exact setRow_heap w g _ _ t _ hg
theorem heap_set8 {w : World} {g : Nat} {t : TypeId} {z0 z1 z2 z3 z4 z5 z6 z7 : Value} (v0 v1 v2 v3 v4 v5 v6 v7 : Value) (hg : w.heap[g]? = some (.cells #[z0, z1, z2, z3, z4, z5, z6, z7] t (0, 0))) : ((((((((w.setCell ⟨g, 0, none⟩ v0).setCell ⟨g, 1, none⟩ v1).setCell ⟨g, 2, none⟩ v2).setCell ⟨g, 3, none⟩ v3).setCell ⟨g, 4, none⟩ v4).setCell ⟨g, 5, none⟩ v5).setCell ⟨g, 6, none⟩ v6).setCell ⟨g, 7, none⟩ v7).heap[g]? = some (.cells #[v0, v1, v2, v3, v4, v5, v6, v7] t (0, 0)) := by
  have h0 : (w.setCell ⟨g, 0, none⟩ v0).heap[g]? = some (.cells #[v0, z1, z2, z3, z4, z5, z6, z7] t (0, 0)) := heap_setN v0 hg
  have h1 : ((w.setCell ⟨g, 0, none⟩ v0).setCell ⟨g, 1, none⟩ v1).heap[g]? = some (.cells #[v0, v1, z2, z3, z4, z5, z6, z7] t (0, 0)) := heap_setN v1 h0
  have h2 : (((w.setCell ⟨g, 0, none⟩ v0).setCell ⟨g, 1, none⟩ v1).setCell ⟨g, 2, none⟩ v2).heap[g]? = some (.cells #[v0, v1, v2, z3, z4, z5, z6, z7] t (0, 0)) := heap_setN v2 h1
  have h3 : ((((w.setCell ⟨g, 0, none⟩ v0).setCell ⟨g, 1, none⟩ v1).setCell ⟨g, 2, none⟩ v2).setCell ⟨g, 3, none⟩ v3).heap[g]? = some (.cells #[v0, v1, v2, v3, z4, z5, z6, z7] t (0, 0)) := heap_setN v3 h2
  have h4 : (((((w.setCell ⟨g, 0, none⟩ v0).setCell ⟨g, 1, none⟩ v1).setCell ⟨g, 2, none⟩ v2).setCell ⟨g, 3, none⟩ v3).setCell ⟨g, 4, none⟩ v4).heap[g]? = some (.cells #[v0, v1, v2, v3, v4, z5, z6, z7] t (0, 0)) := heap_setN v4 h3
  have h5 : ((((((w.setCell ⟨g, 0, none⟩ v0).setCell ⟨g, 1, none⟩ v1).setCell ⟨g, 2, none⟩ v2).setCell ⟨g, 3, none⟩ v3).setCell ⟨g, 4, none⟩ v4).setCell ⟨g, 5, none⟩ v5).heap[g]? = some (.cells #[v0, v1, v2, v3, v4, v5, z6, z7] t (0, 0)) := heap_setN v5 h4
  have h6 : (((((((w.setCell ⟨g, 0, none⟩ v0).setCell ⟨g, 1, none⟩ v1).setCell ⟨g, 2, none⟩ v2).setCell ⟨g, 3, none⟩ v3).setCell ⟨g, 4, none⟩ v4).setCell ⟨g, 5, none⟩ v5).setCell ⟨g, 6, none⟩ v6).heap[g]? = some (.cells #[v0, v1, v2, v3, v4, v5, v6, z7] t (0, 0)) := heap_setN v6 h5
  have h7 : ((((((((w.setCell ⟨g, 0, none⟩ v0).setCell ⟨g, 1, none⟩ v1).setCell ⟨g, 2, none⟩ v2).setCell ⟨g, 3, none⟩ v3).setCell ⟨g, 4, none⟩ v4).setCell ⟨g, 5, none⟩ v5).setCell ⟨g, 6, none⟩ v6).setCell ⟨g, 7, none⟩ v7).heap[g]? = some (.cells #[v0, v1, v2, v3, v4, v5, v6, v7] t (0, 0)) := heap_setN v7 h6
  exact h7
theorem pcsA_cell (hi lo : Int) (j : Nat) (hj : j < 8) : ∃ v, (pcsA hi lo j)[j]? = some v := by
  have hs : (pcsA hi lo j).size = 8 := by
    have h8 : j = 0 ∨ j = 1 ∨ j = 2 ∨ j = 3 ∨ j = 4 ∨ j = 5 ∨ j = 6 ∨ j = 7 := by omega
    rcases h8 with rfl | rfl | rfl | rfl | rfl | rfl | rfl | rfl <;> rfl
  exact ⟨_, Array.getElem?_eq_getElem (by omega)⟩

set_option maxHeartbeats 2000000 in
set_option maxRecDepth 100000 in
theorem Pieces_calls (hi lo : Int) (h0 : 0 ≤ hi ∧ hi < 18446744073709551616) (h1 : 0 ≤ lo ∧ lo < 18446744073709551616) (w : World) :
    Calls Tryz.prog 59 #[.agg #[.int .u64 hi, .int .u64 lo]] w fun e w' => e = .returned (.agg #[.int .u16 (hi / 281474976710656), .int .u16 (hi / 4294967296 % 65536), .int .u16 (hi / 65536 % 65536), .int .u16 (hi % 65536), .int .u16 (lo / 281474976710656), .int .u16 (lo / 4294967296 % 65536), .int .u16 (lo / 65536 % 65536), .int .u16 (lo % 65536)]) ∧ Below w.heap.size w w' := by
  go_enter Tryz.func59, Tryz.ntmps59
  go_wp2_with fail
  go_loopw [6] (fun ii wr => ∃ (j : Nat), ii = .int .i64 j ∧ j ≤ 8 ∧ Aside0 (wr.heap[w.heap.size]? = some (.cells #[.int .u64 hi, .int .u64 lo] 34 (0, 0))) ∧ Aside0 (wr.heap[w.heap.size + 1]? = some (.cells (pcsA hi lo 0) 103 (0, 0))) ∧ Aside0 (wr.heap[w.heap.size + 1 + 1]? = some (.cells (pcsA hi lo j) 103 (0, 0))) ∧ Aside0 (Below w.heap.size w wr)) (fun i _ => 8 - (intOf i).toNat)
  case atStart =>
    refine ⟨0, rfl, by omega, ⟨?_⟩, ⟨?_⟩, ⟨?_⟩, ⟨((((Below.refl _ _).alloc (Nat.le_refl _) _).alloc (by simp) _).alloc (by simp; omega) _)⟩⟩
    · rw [heap_alloc_old' _ _ _ (by simp; omega), heap_alloc_old' _ _ _ (by simp)]
      exact heap_alloc_new' _ _ _ rfl
    · rw [heap_alloc_old' _ _ _ (by simp)]
      exact heap_alloc_new' _ _ _ (by simp)
    · exact heap_alloc_new' _ _ _ (by simp)
  case round =>
    obtain ⟨j, rfl, hj, ha, hr, hp, hbw⟩ := hrel
    obtain ⟨c0, f0⟩ := heap_cell (j := 0) ha.out rfl
    obtain ⟨c1, f1⟩ := heap_cell (j := 1) ha.out rfl
    by_cases hlt : j < 8
    · obtain ⟨v, hv⟩ := pcsA_cell hi lo j hlt
      obtain ⟨cp, fp⟩ := heap_cell (j := j) hp.out hv
      have hj8 : j = 0 ∨ j = 1 ∨ j = 2 ∨ j = 3 ∨ j = 4 ∨ j = 5 ∨ j = 6 ∨ j = 7 := by omega
      clear hv
      rcases hj8 with rfl | rfl | rfl | rfl | rfl | rfl | rfl | rfl
      · go_wp2_with fail
        go_roundw
        case rel => exact ⟨1, rfl, by omega, ⟨(heap_set_other _ (by omega)).trans ha.out⟩, ⟨(heap_set_other _ (by omega)).trans hr.out⟩, ⟨heap_setN _ hp.out⟩, ⟨hbw.out.setCell (by show w.heap.size ≤ w.heap.size + 1 + 1; omega) _⟩⟩
        case measure => simp [intOf]
      · go_wp2_with fail
        go_roundw
        case rel => exact ⟨2, rfl, by omega, ⟨(heap_set_other _ (by omega)).trans ha.out⟩, ⟨(heap_set_other _ (by omega)).trans hr.out⟩, ⟨heap_setN _ hp.out⟩, ⟨hbw.out.setCell (by show w.heap.size ≤ w.heap.size + 1 + 1; omega) _⟩⟩
        case measure => simp [intOf]
      · go_wp2_with fail
        go_roundw
        case rel => exact ⟨3, rfl, by omega, ⟨(heap_set_other _ (by omega)).trans ha.out⟩, ⟨(heap_set_other _ (by omega)).trans hr.out⟩, ⟨heap_setN _ hp.out⟩, ⟨hbw.out.setCell (by show w.heap.size ≤ w.heap.size + 1 + 1; omega) _⟩⟩
        case measure => simp [intOf]
      · go_wp2_with fail
        go_roundw
        case rel => exact ⟨4, rfl, by omega, ⟨(heap_set_other _ (by omega)).trans ha.out⟩, ⟨(heap_set_other _ (by omega)).trans hr.out⟩, ⟨heap_setN _ hp.out⟩, ⟨hbw.out.setCell (by show w.heap.size ≤ w.heap.size + 1 + 1; omega) _⟩⟩
        case measure => simp [intOf]
      · go_wp2_with fail
        go_roundw
        case rel => exact ⟨5, rfl, by omega, ⟨(heap_set_other _ (by omega)).trans ha.out⟩, ⟨(heap_set_other _ (by omega)).trans hr.out⟩, ⟨heap_setN _ hp.out⟩, ⟨hbw.out.setCell (by show w.heap.size ≤ w.heap.size + 1 + 1; omega) _⟩⟩
        case measure => simp [intOf]
      · go_wp2_with fail
        go_roundw
        case rel => exact ⟨6, rfl, by omega, ⟨(heap_set_other _ (by omega)).trans ha.out⟩, ⟨(heap_set_other _ (by omega)).trans hr.out⟩, ⟨heap_setN _ hp.out⟩, ⟨hbw.out.setCell (by show w.heap.size ≤ w.heap.size + 1 + 1; omega) _⟩⟩
        case measure => simp [intOf]
      · go_wp2_with fail
        go_roundw
        case rel => exact ⟨7, rfl, by omega, ⟨(heap_set_other _ (by omega)).trans ha.out⟩, ⟨(heap_set_other _ (by omega)).trans hr.out⟩, ⟨heap_setN _ hp.out⟩, ⟨hbw.out.setCell (by show w.heap.size ≤ w.heap.size + 1 + 1; omega) _⟩⟩
        case measure => simp [intOf]
      · go_wp2_with fail
        go_roundw
        case rel => exact ⟨8, rfl, by omega, ⟨(heap_set_other _ (by omega)).trans ha.out⟩, ⟨(heap_set_other _ (by omega)).trans hr.out⟩, ⟨heap_setN _ hp.out⟩, ⟨hbw.out.setCell (by show w.heap.size ≤ w.heap.size + 1 + 1; omega) _⟩⟩
        case measure => simp [intOf]
    · obtain rfl : j = 8 := by omega
      have p0 : wr.cell? ⟨w.heap.size + 1 + 1, 0, none⟩ = some (.int .u16 (hi / 281474976710656)) := (heap_cell (j := 0) hp.out rfl).1
      have p1 : wr.cell? ⟨w.heap.size + 1 + 1, 1, none⟩ = some (.int .u16 (hi / 4294967296 % 65536)) := (heap_cell (j := 1) hp.out rfl).1
      have p2 : wr.cell? ⟨w.heap.size + 1 + 1, 2, none⟩ = some (.int .u16 (hi / 65536 % 65536)) := (heap_cell (j := 2) hp.out rfl).1
      have p3 : wr.cell? ⟨w.heap.size + 1 + 1, 3, none⟩ = some (.int .u16 (hi % 65536)) := (heap_cell (j := 3) hp.out rfl).1
      have p4 : wr.cell? ⟨w.heap.size + 1 + 1, 4, none⟩ = some (.int .u16 (lo / 281474976710656)) := (heap_cell (j := 4) hp.out rfl).1
      have p5 : wr.cell? ⟨w.heap.size + 1 + 1, 5, none⟩ = some (.int .u16 (lo / 4294967296 % 65536)) := (heap_cell (j := 5) hp.out rfl).1
      have p6 : wr.cell? ⟨w.heap.size + 1 + 1, 6, none⟩ = some (.int .u16 (lo / 65536 % 65536)) := (heap_cell (j := 6) hp.out rfl).1
      have p7 : wr.cell? ⟨w.heap.size + 1 + 1, 7, none⟩ = some (.int .u16 (lo % 65536)) := (heap_cell (j := 7) hp.out rfl).1
      have r0 : wr.cell? ⟨w.heap.size + 1, 0, none⟩ = some (.int .u16 0) := (heap_cell (j := 0) hr.out rfl).1
      have g0 := (heap_cell (j := 0) hr.out rfl).2
      have r1 : wr.cell? ⟨w.heap.size + 1, 1, none⟩ = some (.int .u16 0) := (heap_cell (j := 1) hr.out rfl).1
      have g1 := (heap_cell (j := 1) hr.out rfl).2
      have r2 : wr.cell? ⟨w.heap.size + 1, 2, none⟩ = some (.int .u16 0) := (heap_cell (j := 2) hr.out rfl).1
      have g2 := (heap_cell (j := 2) hr.out rfl).2
      have r3 : wr.cell? ⟨w.heap.size + 1, 3, none⟩ = some (.int .u16 0) := (heap_cell (j := 3) hr.out rfl).1
      have g3 := (heap_cell (j := 3) hr.out rfl).2
      have r4 : wr.cell? ⟨w.heap.size + 1, 4, none⟩ = some (.int .u16 0) := (heap_cell (j := 4) hr.out rfl).1
      have g4 := (heap_cell (j := 4) hr.out rfl).2
      have r5 : wr.cell? ⟨w.heap.size + 1, 5, none⟩ = some (.int .u16 0) := (heap_cell (j := 5) hr.out rfl).1
      have g5 := (heap_cell (j := 5) hr.out rfl).2
      have r6 : wr.cell? ⟨w.heap.size + 1, 6, none⟩ = some (.int .u16 0) := (heap_cell (j := 6) hr.out rfl).1
      have g6 := (heap_cell (j := 6) hr.out rfl).2
      have r7 : wr.cell? ⟨w.heap.size + 1, 7, none⟩ = some (.int .u16 0) := (heap_cell (j := 7) hr.out rfl).1
      have g7 := (heap_cell (j := 7) hr.out rfl).2
      go_wp2_with fail
      have hz : wr.heap[w.heap.size + 1]? = some (.cells #[.int .u16 0, .int .u16 0, .int .u16 0, .int .u16 0, .int .u16 0, .int .u16 0, .int .u16 0, .int .u16 0] 103 (0, 0)) := hr.out
      have h8 := heap_set8 (.int .u16 (hi / 281474976710656)) (.int .u16 (hi / 4294967296 % 65536)) (.int .u16 (hi / 65536 % 65536)) (.int .u16 (hi % 65536)) (.int .u16 (lo / 281474976710656)) (.int .u16 (lo / 4294967296 % 65536)) (.int .u16 (lo / 65536 % 65536)) (.int .u16 (lo % 65536)) hz
      refine bodyPost_ret (results_cell_row rfl _ _ (w.heap.size + 1) 103 #[.int .u16 (hi / 281474976710656), .int .u16 (hi / 4294967296 % 65536), .int .u16 (hi / 65536 % 65536), .int .u16 (hi % 65536), .int .u16 (lo / 281474976710656), .int .u16 (lo / 4294967296 % 65536), .int .u16 (lo / 65536 % 65536), .int .u16 (lo % 65536)] (0, 0) _ rfl h8 Tryz.underlying103 rfl (by kernel_rfl)) rfl ?_
      exact ⟨rfl, ((((((((hbw.out.setCell (by show w.heap.size ≤ w.heap.size + 1; omega) _).setCell (by show w.heap.size ≤ w.heap.size + 1; omega) _).setCell (by show w.heap.size ≤ w.heap.size + 1; omega) _).setCell (by show w.heap.size ≤ w.heap.size + 1; omega) _).setCell (by show w.heap.size ≤ w.heap.size + 1; omega) _).setCell (by show w.heap.size ≤ w.heap.size + 1; omega) _).setCell (by show w.heap.size ≤ w.heap.size + 1; omega) _).setCell (by show w.heap.size ≤ w.heap.size + 1; omega) _)⟩
end Go.Proofs.YtplehdcnnaamkaaGreatDoor

/- The shelf's contracts at this dump, in plain words: laid by the kit's lay-shelf.mjs and lay-plain.mjs, picked by wip/mkshelf.py. -/
namespace Go.Proofs
open Go.Shelf
def Tryz.lays156_ren : Go.Shelf.Ren := ⟨fun | 156 => 102 | 165 => 94 | 166 => 95 | 169 => 97 | 240 => 125 | 241 => 126 | 276 => 155 | 277 => 156 | n => n, fun | 31 => 92 | 9 => 9 | 3 => 3 | 4 => 4 | 0 => 0 | 20 => 20 | 72 => 160 | 76 => 164 | 70 => 157 | 37 => 158 | 75 => 163 | 127 => 192 | 164 => 217 | 5 => 5 | 80 => 40 | n => n, fun | n => n⟩
theorem Tryz.lays156 : Go.Proofs.Lays.n156 Tryz.prog Tryz.lays156_ren := {
  mixed := by kernel_rfl
  f156 := Tryz.func102.trans (congrArg some (by kernel_rfl))
  f165 := Tryz.func94.trans (congrArg some (by kernel_rfl))
  f166 := Tryz.func95.trans (congrArg some (by kernel_rfl))
  f169 := Tryz.func97.trans (congrArg some (by kernel_rfl))
  f240 := Tryz.func125.trans (congrArg some (by kernel_rfl))
  f241 := Tryz.func126.trans (congrArg some (by kernel_rfl))
  f276 := Tryz.func155.trans (congrArg some (by kernel_rfl))
  f277 := Tryz.func156.trans (congrArg some (by kernel_rfl))
  t0 := Tryz.underlying0
  a0 := Tryz.isAgg0
  z0 := Tryz.sizeOf0
  v0 := Tryz.zeroValue0
  t3 := Tryz.underlying3
  a3 := Tryz.isAgg3
  z3 := Tryz.sizeOf3
  v3 := Tryz.zeroValue3
  t4 := Tryz.underlying4
  a4 := Tryz.isAgg4
  z4 := Tryz.sizeOf4
  v4 := Tryz.zeroValue4
  t9 := Tryz.underlying9
  a9 := Tryz.isAgg9
  z9 := Tryz.sizeOf9
  v9 := Tryz.zeroValue9
  t20 := Tryz.underlying20
  a20 := Tryz.isAgg20
  z20 := Tryz.sizeOf20
  v20 := Tryz.zeroValue20
  t31 := Tryz.underlying92
  a31 := Tryz.isAgg92
  z31 := Tryz.sizeOf92
  v31 := Tryz.zeroValue92
  t37 := Tryz.underlying158
  a37 := Tryz.isAgg158
  z37 := Tryz.sizeOf158
  v37 := Tryz.zeroValue158
  t70 := Tryz.underlying157
  a70 := Tryz.isAgg157
  z70 := Tryz.sizeOf157
  v70 := Tryz.zeroValue157
  t72 := Tryz.underlying160
  a72 := Tryz.isAgg160
  z72 := Tryz.sizeOf160
  v72 := Tryz.zeroValue160
  t75 := Tryz.underlying163
  a75 := Tryz.isAgg163
  z75 := Tryz.sizeOf163
  v75 := Tryz.zeroValue163
  t76 := Tryz.underlying164
  a76 := Tryz.isAgg164
  z76 := Tryz.sizeOf164
  v76 := Tryz.zeroValue164
  t127 := Tryz.underlying192
  a127 := Tryz.isAgg192
  z127 := Tryz.sizeOf192
  v127 := Tryz.zeroValue192
  t164 := Tryz.underlying217
  a164 := Tryz.isAgg217
  z164 := Tryz.sizeOf217
  v164 := Tryz.zeroValue217 }
theorem Tryz.Builder_Extra_156 : Builder.Extra Tryz.prog Tryz.lays156_ren := {
  sizeBuilder := by kernel_rfl
  liesBuilder := by kernel_rfl
  t5 := Tryz.underlying5
  a5 := Tryz.isAgg5
  z5 := Tryz.sizeOf5
  v5 := Tryz.zeroValue5
  infoByte := by kernel_rfl
  cellsByte := by kernel_rfl
  sizeByte := by kernel_rfl
  neB5 := by decide }
open Go.RowKit in
/-- No element: the empty string; the world is as it was. (Whatever the slice's address and capacity: a nil slice too.) (LAID: no walk: one application.) -/
theorem Tryz.strings_Join_none (a : Option Addr) (c : Nat) (sep : ByteArray) (w : World) :
    Calls Tryz.prog 102 #[.slice a 0 c, .string sep] w fun e w' => e = .returned (.string ⟨#[]⟩) ∧ w' = w := Any.strings_Join_none Tryz.lays156 Tryz.Builder_Extra_156 a c sep w
open Go.RowKit in
/-- strings.Join: "Join concatenates the elements of its first argument to create a single string. The separator string sep is placed between elements in the resulting string.": HOWEVER MANY ELEMENTS. Below the heap's end the world is as it was. (LAID: no walk: one application.) -/
theorem Tryz.strings_Join (bk o c : Nat) (xs : List ByteArray) (sep : ByteArray) (w : World) (hcells : ∀ (j : Nat) x, xs[j]? = some x → w.cell? ⟨bk, o + j, none⟩ = some (.string x)) (hbk : bk < w.heap.size) (hN : xs.length ≤ 140737488355328) (hcap : xs.length ≤ c) (hlen : (Lib.join (xs.map (·.data.toList)) sep.data.toList).length ≤ 140737488355328) :
    Calls Tryz.prog 102 #[.slice (some ⟨bk, o, none⟩) xs.length c, .string sep] w fun e w' => e = .returned (.string ⟨(Lib.join (xs.map (·.data.toList)) sep.data.toList).toArray⟩) ∧ Below w.heap.size w w' := Any.strings_Join Tryz.lays156 Tryz.Builder_Extra_156 bk o c xs sep w hcells hbk hN hcap hlen
def Tryz.lays145_ren : Go.Shelf.Ren := ⟨fun | 145 => 63 | 220 => 108 | 219 => 142 | 217 => 165 | 225 => 166 | 224 => 167 | 267 => 168 | 266 => 182 | 314 => 183 | n => n, fun | 9 => 9 | 4 => 4 | 59 => 108 | 3 => 3 | 5 => 5 | 46 => 121 | 146 => 204 | 51 => 110 | n => n, fun | 1 => 2 | n => n⟩
theorem Tryz.lays145 : Go.Proofs.Lays.n145 Tryz.prog Tryz.lays145_ren := {
  mixed := by kernel_rfl
  f145 := Tryz.func63.trans (congrArg some (by kernel_rfl))
  f217 := Tryz.func165.trans (congrArg some (by kernel_rfl))
  f219 := Tryz.func142.trans (congrArg some (by kernel_rfl))
  f220 := Tryz.func108.trans (congrArg some (by kernel_rfl))
  f224 := Tryz.func167.trans (congrArg some (by kernel_rfl))
  f225 := Tryz.func166.trans (congrArg some (by kernel_rfl))
  f266 := Tryz.func182.trans (congrArg some (by kernel_rfl))
  f267 := Tryz.func168.trans (congrArg some (by kernel_rfl))
  f314 := Tryz.func183.trans (congrArg some (by kernel_rfl))
  t3 := Tryz.underlying3
  a3 := Tryz.isAgg3
  z3 := Tryz.sizeOf3
  v3 := Tryz.zeroValue3
  t4 := Tryz.underlying4
  a4 := Tryz.isAgg4
  z4 := Tryz.sizeOf4
  v4 := Tryz.zeroValue4
  t5 := Tryz.underlying5
  a5 := Tryz.isAgg5
  z5 := Tryz.sizeOf5
  v5 := Tryz.zeroValue5
  t9 := Tryz.underlying9
  a9 := Tryz.isAgg9
  z9 := Tryz.sizeOf9
  v9 := Tryz.zeroValue9
  t46 := Tryz.underlying121
  a46 := Tryz.isAgg121
  z46 := Tryz.sizeOf121
  v46 := Tryz.zeroValue121
  t51 := Tryz.underlying110
  a51 := Tryz.isAgg110
  z51 := Tryz.sizeOf110
  v51 := Tryz.zeroValue110
  t59 := Tryz.underlying108
  a59 := Tryz.isAgg108
  z59 := Tryz.sizeOf108
  v59 := Tryz.zeroValue108
  t146 := Tryz.underlying204
  a146 := Tryz.isAgg204
  z146 := Tryz.sizeOf204
  v146 := Tryz.zeroValue204
  g1 := by kernel_rfl }
open Go.RowKit Go.Lib in
/-- strings.Cut: "Cut slices s around the first instance of sep, returning the text before and after sep. The found result reports whether sep appears in s. If sep does not appear in s, cut returns s, "", false.": IT RETURNS 'Lib.cut s sep'; the world is as it was but for the count of draws. (LAID: no walk: one application.) -/
theorem Tryz.strings_Cut (s sep : ByteArray) (m : Int) (w : World) (hs : s.size < 4294967281) (hm : w.cell? ⟨2, 0, none⟩ = some (.int .i64 m)) :
    Calls Tryz.prog 63 #[.string s, .string sep] w fun e w' => e = .returned (.tuple #[.string ⟨(Lib.cut s.data.toList sep.data.toList).1.toArray⟩, .string ⟨(Lib.cut s.data.toList sep.data.toList).2.1.toArray⟩, .bool (Lib.cut s.data.toList sep.data.toList).2.2]) ∧ ∃ n, w' = w.drewN n := Any.strings_Cut Tryz.lays145 s sep m w hs hm
def Tryz.lays99_ren : Go.Shelf.Ren := ⟨fun | 99 => 91 | 206 => 123 | n => n, fun | 9 => 9 | 4 => 4 | 3 => 3 | n => n, fun | n => n⟩
theorem Tryz.lays99 : Go.Proofs.Lays.n99 Tryz.prog Tryz.lays99_ren := {
  mixed := by kernel_rfl
  f99 := Tryz.func91.trans (congrArg some (by kernel_rfl))
  f206 := Tryz.func123.trans (congrArg some (by kernel_rfl))
  t3 := Tryz.underlying3
  a3 := Tryz.isAgg3
  z3 := Tryz.sizeOf3
  v3 := Tryz.zeroValue3
  t4 := Tryz.underlying4
  a4 := Tryz.isAgg4
  z4 := Tryz.sizeOf4
  v4 := Tryz.zeroValue4
  t9 := Tryz.underlying9
  a9 := Tryz.isAgg9
  z9 := Tryz.sizeOf9
  v9 := Tryz.zeroValue9 }
open Go.RowKit Go.Lib in
/-- strings.HasPrefix: "HasPrefix reports whether the string s begins with prefix.": IT RETURNS 'Lib.hasPrefix s prefix'; the world is as it was. (LAID: no walk: one application.) -/
theorem Tryz.strings_HasPrefix (s p : ByteArray) (w : World) :
    Calls Tryz.prog 91 #[.string s, .string p] w fun e w' => e = .returned (.bool (Lib.hasPrefix s.data.toList p.data.toList)) ∧ w' = w := Any.strings_HasPrefix Tryz.lays99 s p w
end Go.Proofs

/- (*six.reader).step: one step of the reader. -/
namespace Go.Proofs.YtplehdcnnaamkaaGreatDoor
open Go.RowKit Go.Proofs.YtplehdcnnaamkaaGreatDoorW.PrintWords Go.Proofs.YtplehdcnnaamkaaGreatDoorW.PrintMore

/-- A step at a word: the word, what is behind the colon, and whether there is one. -/
def stepW (C : List UInt8 × List UInt8 × Bool) (p : List Int) (gap : Int) : Option (List UInt8 × List Int × Int × Bool) :=
  if strictOk C.1 = true ∧ C.2.2 = false then some ([], p ++ [strictN C.1 / 65536, strictN C.1 % 65536], gap, true)
  else match pieceL C.1 with
    | none => none
    | some x => if C.2.2 = true ∧ C.2.1 = [] then none else some (C.2.1, p ++ [x], gap, !C.2.2)
/-- One step: a piece, or an address of four bytes, or two colons. -/
def stepL (rest : List UInt8) (p : List Int) (gap : Int) : Option (List UInt8 × List Int × Int × Bool) :=
  if Lib.hasPrefix rest [58] = true then (if 0 ≤ gap then none else some (rest.drop 1, p, (p.length : Int), (rest.drop 1).isEmpty))
  else stepW (Lib.cut rest [58]) p gap

/-- What a reader holds, and where. -/
def Holds (w : World) (B b : Nat) (rest : ByteArray) (p : List Int) (gap : Int) (ended : Bool) : Prop :=
  ∃ v, w.heap[b]? = some (.cells #[.string rest, v, .int .i64 gap, .bool ended] 154 (0, 0)) ∧ Kd.R (Kd.int .u16) 102 w B (fun k => k ≠ b) v p

theorem heap_set203 {w : World} {b : Nat} {a0 a1 a2 a3 : Value} {t : TypeId} (v2 v0 v3 : Value) (hh : w.heap[b]? = some (.cells #[a0, a1, a2, a3] t (0, 0))) : (((w.setCell ⟨b, 2, none⟩ v2).setCell ⟨b, 0, none⟩ v0).setCell ⟨b, 3, none⟩ v3).drew.heap[b]? = some (.cells #[v0, a1, v2, v3] t (0, 0)) := by
  have h1 : (w.setCell ⟨b, 2, none⟩ v2).heap[b]? = some (.cells #[a0, a1, v2, a3] t (0, 0)) := heap_setN v2 hh
  have h2 : ((w.setCell ⟨b, 2, none⟩ v2).setCell ⟨b, 0, none⟩ v0).heap[b]? = some (.cells #[v0, a1, v2, a3] t (0, 0)) := heap_setN v0 h1
  exact heap_setN v3 h2
set_option maxHeartbeats 4000000 in
set_option maxRecDepth 100000 in
theorem step_colon (B b : Nat) (hBb : B ≤ b) (rest : ByteArray) (p : List Int) (gap : Int) (ended : Bool) (w : World) (hs : rest.size ≤ 900000) (_hp : p.length ≤ 1000) (hg0 : -1 ≤ gap) (hg1 : gap ≤ 1000) (hpre : Lib.hasPrefix rest.data.toList [58] = true) (hH : Holds w B b rest p gap ended) :
    Calls Tryz.prog 92 #[.pointer (some ⟨b, 0, none⟩)] w fun e w' => Below B w w' ∧ ((0 ≤ gap ∧ e = .returned (.bool false)) ∨ (gap < 0 ∧ e = .returned (.bool true) ∧ ∃ rest' : ByteArray, rest'.data.toList = rest.data.toList.drop 1 ∧ Holds w' B b rest' p (p.length : Int) (rest.data.toList.drop 1).isEmpty)) := by
  obtain ⟨v, hh, hR⟩ := hH
  obtain ⟨A, c, rfl, hcap, _⟩ := Kd.R_reads hR
  obtain ⟨c0, f0⟩ := heap_cell (j := 0) hh rfl
  obtain ⟨c1, f1⟩ := heap_cell (j := 1) hh rfl
  obtain ⟨c2, f2⟩ := heap_cell (j := 2) hh rfl
  obtain ⟨c3, f3⟩ := heap_cell (j := 3) hh rfl
  have hpos : 0 < rest.size := by
    rcases Nat.eq_zero_or_pos rest.size with h | h
    · have e : rest.data.toList = [] := List.eq_nil_of_length_eq_zero (by simpa using h)
      rw [e] at hpre
      cases hpre
    · exact h
  have HH := Aside0.mk hh
  have HR := Aside0.mk hR
  have HP := Lib.hid hpre
  clear hh hR hpre
  go_enter Tryz.func92, Tryz.ntmps92
  go_wp2_with fail
  refine (Tryz.strings_HasPrefix _ _ _).mono ?_
  rintro e w1 ⟨rfl, rfl⟩
  rw [show (ByteArray.mk #[58]).data.toList = [58] from rfl, HP.out]
  by_cases hg : 0 ≤ gap
  · go_wp2_with fail
    go_ret
    exact ⟨Below.refl _ _, .inl ⟨hg, rfl⟩⟩
  · go_wp2_with fail
    go_region
    go_wp2_with fail
    go_ret
    have he : (rest.extract 1 rest.size).data.toList = rest.data.toList.drop 1 := extract_list rest 1
    refine ⟨(((((Below.refl B w1).setCell hBb _).setCell hBb _).setCell hBb _)).drew, .inr ⟨by omega, rfl, _, he, ?_⟩⟩
    rw [toList_eq, he]
    exact ⟨_, heap_set203 _ _ _ HH.out, Kd.R_drew (Kd.R_far (Kd.R_far (Kd.R_far HR.out (fun _ h => h) _) (fun _ h => h) _) (fun _ h => h) _)⟩
end Go.Proofs.YtplehdcnnaamkaaGreatDoor

/- (*six.reader).step: a piece, or an address of four bytes. -/
namespace Go.Proofs.YtplehdcnnaamkaaGreatDoor
open Go.RowKit Go.Proofs.YtplehdcnnaamkaaGreatDoorW.PrintWords Go.Proofs.YtplehdcnnaamkaaGreatDoorW.PrintMore

theorem info_u16 : (Tryz.prog.info? 102).map (fun i => (i.zero, i.size, i.bytes)) = some (some (.int .u16 0), 1, 2) := by kernel_rfl
theorem wrap_u16_of (n : Int) (h0 : 0 ≤ n) (h1 : n < 65536) : IntKind.u16.wrap n = n := by
  simp [IntKind.wrap, IntKind.signed, IntKind.bits]
  omega
/-- What the variable of the greatest length holds is a number. -/
def Mx (w : World) : Prop := ∃ m, w.cell? ⟨2, 0, none⟩ = some (.int .i64 m)
theorem Mx.stays {w w' : World} (h : Mx w) (hb : Below w.heap.size w w') : Mx w' := by
  obtain ⟨m, h⟩ := h
  exact ⟨m, (hb.cell (cell_lt h)).trans h⟩
theorem cut_le (s sep : List UInt8) : (Lib.cut s sep).1.length ≤ s.length ∧ (Lib.cut s sep).2.1.length ≤ s.length := by
  unfold Lib.cut
  split
  · constructor
    · rw [List.length_take]
      omega
    · rw [List.length_drop]
      omega
  · exact ⟨Nat.le_refl _, by simp⟩

theorem heap_set103 {w : World} {b : Nat} {a0 a1 a2 a3 : Value} {t : TypeId} (v1 v0 v3 : Value) (hh : w.heap[b]? = some (.cells #[a0, a1, a2, a3] t (0, 0))) : (((w.setCell ⟨b, 1, none⟩ v1).setCell ⟨b, 0, none⟩ v0).setCell ⟨b, 3, none⟩ v3).heap[b]? = some (.cells #[v0, v1, a2, v3] t (0, 0)) := by
  have h1 : (w.setCell ⟨b, 1, none⟩ v1).heap[b]? = some (.cells #[a0, v1, a2, a3] t (0, 0)) := heap_setN v1 hh
  have h2 : ((w.setCell ⟨b, 1, none⟩ v1).setCell ⟨b, 0, none⟩ v0).heap[b]? = some (.cells #[v0, v1, a2, a3] t (0, 0)) := heap_setN v0 h1
  exact heap_setN v3 h2
set_option maxHeartbeats 4000000 in
set_option maxRecDepth 100000 in
theorem step_word (B b : Nat) (hBb : B ≤ b) (rest : ByteArray) (p : List Int) (gap : Int) (ended : Bool) (w : World) (hs : rest.size ≤ 900000) (hp : p.length ≤ 1000) (hpre : Lib.hasPrefix rest.data.toList [58] = false) (hH : Holds w B b rest p gap ended) (hE : Aside0 (Errs w)) (hM : Aside0 (Mx w)) :
    Calls Tryz.prog 92 #[.pointer (some ⟨b, 0, none⟩)] w fun e w' => Below B w w' ∧ ((stepL rest.data.toList p gap = none ∧ e = .returned (.bool false)) ∨ ∃ (rest' : ByteArray) (p' : List Int) (ended' : Bool), stepL rest.data.toList p gap = some (rest'.data.toList, p', gap, ended') ∧ e = .returned (.bool true) ∧ Holds w' B b rest' p' gap ended') := by
  obtain ⟨v, hh, hR⟩ := hH
  obtain ⟨A, c, rfl, hcap, _⟩ := Kd.R_reads hR
  obtain ⟨c0, f0⟩ := heap_cell (j := 0) hh rfl
  have hbl : b < w.heap.size := cell_lt c0
  have HH := Aside0.mk hh
  have HR := Aside0.mk hR
  have HP := Lib.hid hpre
  have HST := Lib.hid (show stepL rest.data.toList p gap = stepW (Lib.cut rest.data.toList [58]) p gap by rw [stepL, if_neg (by rw [hpre]; decide)])
  have hcl := cut_le rest.data.toList [58]
  rw [show rest.data.toList.length = rest.size by simp] at hcl
  have HM := hM.out
  obtain ⟨mx, hmx⟩ := HM
  have HMX := Aside0.mk hmx
  clear hh hR hpre hmx
  go_enter Tryz.func92, Tryz.ntmps92
  go_wp2_with fail
  refine (Tryz.strings_HasPrefix _ _ _).mono ?_
  rintro e w1 ⟨rfl, rfl⟩
  rw [show (ByteArray.mk #[58]).data.toList = [58] from rfl, HP.out]
  go_wp2_with fail
  refine (Tryz.strings_Cut rest _ mx _ (by omega) HMX.out).mono ?_
  rintro e w2 ⟨rfl, n, hw2⟩
  rw [show (ByteArray.mk #[58]).data.toList = [58] from rfl]
  generalize Lib.cut rest.data.toList [58] = C at HST hcl ⊢
  obtain ⟨wl, rl, more⟩ := C
  simp only [] at HST hcl ⊢
  have hB2 : Below w1.heap.size w1 w2 := by rw [hw2]; exact pw_below_drewN (Below.refl _ _) n
  have hsz2 : w2.heap.size = w1.heap.size := by rw [hw2]; rfl
  have HB2 := Aside0.mk hB2
  clear hw2 hB2
  obtain ⟨word, hword⟩ : ∃ word : ByteArray, word = ⟨wl.toArray⟩ := ⟨_, rfl⟩
  obtain ⟨rst, hrst⟩ : ∃ rst : ByteArray, rst = ⟨rl.toArray⟩ := ⟨_, rfl⟩
  have hwz : word.size ≤ 900000 := by rw [hword, mk_size]; omega
  have hrz : rst.size ≤ 900000 := by rw [hrst, mk_size]; omega
  have hwl : word.data.toList = wl := by rw [hword]
  have hrl : rst.data.toList = rl := by rw [hrst]
  rw [← hword, ← hrst]
  have HW := Lib.hid hwl
  have HRL := Lib.hid hrl
  clear hword hrst hwl hrl hcl
  go_wp2_with fail
  refine (Strict_calls word _ hwz ⟨hE.out.stays HB2.out⟩).mono ?_
  rintro e w3 ⟨rfl, b3⟩
  rw [HW.out]
  have HB3 := Aside0.mk (below_then HB2.out HB2.out.size b3)
  clear b3
  have hb3 : b < w3.heap.size := Nat.lt_of_lt_of_le hbl HB3.out.size
  have hh3 : w3.heap[b]? = some (.cells #[.string rest, .slice A p.length c, .int .i64 gap, .bool ended] 154 (0, 0)) := (HB3.out.block b hbl).trans HH.out
  have HR3 := Aside0.mk (Kd.R_below HR.out HB3.out)
  have HB3' : Aside0 (Below B w1 w3) := ⟨HB3.out.mono (by omega)⟩
  obtain ⟨k0, g0⟩ := heap_cell (j := 0) hh3 rfl
  obtain ⟨k1, g1⟩ := heap_cell (j := 1) hh3 rfl
  obtain ⟨k2, g2⟩ := heap_cell (j := 2) hh3 rfl
  obtain ⟨k3, g3⟩ := heap_cell (j := 3) hh3 rfl
  have HH3 := Aside0.mk hh3
  clear hh3 c0 f0
  rcases strict_val wl with ⟨s1, s2, s3⟩ | ⟨n4, hn4, s1, s2, s3, _⟩
  · rw [s2, s3]
    have HS := Lib.hid (HST.out.trans (show stepW (wl, rl, more) p gap = match pieceL wl with
      | none => none
      | some x => if more = true ∧ rl = [] then none else some (rl, p ++ [x], gap, !more) by rw [stepW, if_neg (by rw [s2]; simp)] <;> rfl))
    clear s1 s2 s3
    go_wp2_with fail
    refine (Piece_calls word _ (by omega)).mono ?_
    rintro e w4 ⟨rfl, b4⟩
    rw [HW.out]
    have hb4 : b < w4.heap.size := Nat.lt_of_lt_of_le hb3 b4.size
    have hB4 : B ≤ w4.heap.size := by omega
    have hh4 := (b4.block b hb3).trans HH3.out
    have HR4 := Aside0.mk (Kd.R_below HR3.out b4)
    have HB4 := Aside0.mk (below_then HB3'.out (by omega) b4)
    clear k0 g0 k1 g1 k2 g2 k3 g3
    obtain ⟨k1, g1⟩ := heap_cell (j := 1) hh4 rfl
    have HH4 := Aside0.mk hh4
    clear hh4 b4
    have hno : some b ≠ (Value.slice A p.length c).ownBlock := fun e => HR4.out.1 b e.symm rfl
    have HNO := Lib.hid hno
    clear hno
    rcases hpl : pieceL wl with _ | y
    · have HS2 := Lib.hid (show stepL rest.data.toList p gap = none by rw [HS.out, hpl])
      rw [show pieceN wl = 0 by rw [pieceN, hpl]; rfl, show pieceOk wl = false by rw [pieceOk, hpl]; rfl]
      clear hpl
      go_wp2_with ((with_reducible refine gate_builtin (b := .append) (xs := #[.tmp 106, .tmp 108]) rfl ?_); at_builtin; refine Kd.R_append (Kd.int .u16) (w0 := w1) B rfl (.tmp 106) (.tmp 108) 152 102 (.int .u16 0) 2 rfl Tryz.underlying152 info_u16 rfl (by decide) (by omega) (.slice A p.length c) p 0 [.int .u16 0] (fun k => k ≠ b) (fun _ => False) rfl rfl ?aP (fun _ hk => hk.elim) ?aF ?aO ?aB ?aS ?aL ?_; (case aP => exact rfl); (case aF => exact fun k hk => by omega); (case aO => exact HR4.out); (case aB => exact HB4.out); (case aS => omega); (case aL => omega); intro v1 w5 ho hbw5 hgr _; (have hh5 := (hgr.block b hb4 HNO.out).trans HH4.out); (obtain ⟨A1, e1, rfl, _, _⟩ := Kd.R_reads ho); (obtain ⟨q0, z0⟩ := heap_cell (j := 0) hh5 rfl); (obtain ⟨q1, z1⟩ := heap_cell (j := 1) hh5 rfl); (obtain ⟨q3, z3⟩ := heap_cell (j := 3) hh5 rfl); (have HH5 := Aside0.mk hh5); (have HO5 := Aside0.mk ho); (have HB5 := Aside0.mk hbw5); clear hh5 ho hbw5 hgr)
      go_ret
      exact ⟨(((HB5.out.setCell hBb _).setCell hBb _).setCell hBb _), .inl ⟨HS2.out, rfl⟩⟩
    · rw [show pieceN wl = y by rw [pieceN, hpl]; rfl, show pieceOk wl = true by rw [pieceOk, hpl]; rfl]
      cases more
      · have HS2 := Lib.hid (show stepL rest.data.toList p gap = some (rl, p ++ [y], gap, true) by rw [HS.out, hpl]; rfl)
        clear hpl
        go_wp2_with ((with_reducible refine gate_builtin (b := .append) (xs := #[.tmp 106, .tmp 108]) rfl ?_); at_builtin; refine Kd.R_append (Kd.int .u16) (w0 := w1) B rfl (.tmp 106) (.tmp 108) 152 102 (.int .u16 0) 2 rfl Tryz.underlying152 info_u16 rfl (by decide) (by omega) (.slice A p.length c) p y [.int .u16 y] (fun k => k ≠ b) (fun _ => False) rfl rfl ?aP (fun _ hk => hk.elim) ?aF ?aO ?aB ?aS ?aL ?_; (case aP => exact rfl); (case aF => exact fun k hk => by omega); (case aO => exact HR4.out); (case aB => exact HB4.out); (case aS => omega); (case aL => omega); intro v1 w5 ho hbw5 hgr _; (have hh5 := (hgr.block b hb4 HNO.out).trans HH4.out); (obtain ⟨A1, e1, rfl, _, _⟩ := Kd.R_reads ho); (obtain ⟨q0, z0⟩ := heap_cell (j := 0) hh5 rfl); (obtain ⟨q1, z1⟩ := heap_cell (j := 1) hh5 rfl); (obtain ⟨q3, z3⟩ := heap_cell (j := 3) hh5 rfl); (have HH5 := Aside0.mk hh5); (have HO5 := Aside0.mk ho); (have HB5 := Aside0.mk hbw5); clear hh5 ho hbw5 hgr)
        go_ret
        exact ⟨(((HB5.out.setCell hBb _).setCell hBb _).setCell hBb _), .inr ⟨rst, p ++ [y], true, by rw [HS2.out, HRL.out], rfl, _, heap_set103 _ _ _ HH5.out, by have h6 := HO5.out; rw [show (p ++ [y]).length = p.length + 1 by simp] at h6; exact Kd.R_far (Kd.R_far (Kd.R_far h6 (fun _ h => h) _) (fun _ h => h) _) (fun _ h => h) _⟩⟩
      · by_cases hrl : rl = []
        · have HS2 := Lib.hid (show stepL rest.data.toList p gap = none by rw [HS.out, hpl]; simp [hrl])
          have er : rst.toList.isEmpty = true := by rw [toList_eq, HRL.out, hrl]; rfl
          clear hpl hrl
          go_wp2_with ((with_reducible refine gate_builtin (b := .append) (xs := #[.tmp 106, .tmp 108]) rfl ?_); at_builtin; refine Kd.R_append (Kd.int .u16) (w0 := w1) B rfl (.tmp 106) (.tmp 108) 152 102 (.int .u16 0) 2 rfl Tryz.underlying152 info_u16 rfl (by decide) (by omega) (.slice A p.length c) p y [.int .u16 y] (fun k => k ≠ b) (fun _ => False) rfl rfl ?aP (fun _ hk => hk.elim) ?aF ?aO ?aB ?aS ?aL ?_; (case aP => exact rfl); (case aF => exact fun k hk => by omega); (case aO => exact HR4.out); (case aB => exact HB4.out); (case aS => omega); (case aL => omega); intro v1 w5 ho hbw5 hgr _; (have hh5 := (hgr.block b hb4 HNO.out).trans HH4.out); (obtain ⟨A1, e1, rfl, _, _⟩ := Kd.R_reads ho); (obtain ⟨q0, z0⟩ := heap_cell (j := 0) hh5 rfl); (obtain ⟨q1, z1⟩ := heap_cell (j := 1) hh5 rfl); (obtain ⟨q3, z3⟩ := heap_cell (j := 3) hh5 rfl); (have HH5 := Aside0.mk hh5); (have HO5 := Aside0.mk ho); (have HB5 := Aside0.mk hbw5); clear hh5 ho hbw5 hgr)
          go_ret
          exact ⟨(((HB5.out.setCell hBb _).setCell hBb _).setCell hBb _), .inl ⟨HS2.out, rfl⟩⟩
        · have HS2 := Lib.hid (show stepL rest.data.toList p gap = some (rl, p ++ [y], gap, false) by rw [HS.out, hpl]; simp [hrl])
          have er : rst.toList.isEmpty = false := by rw [toList_eq, HRL.out]; simpa using hrl
          clear hpl hrl
          go_wp2_with ((with_reducible refine gate_builtin (b := .append) (xs := #[.tmp 106, .tmp 108]) rfl ?_); at_builtin; refine Kd.R_append (Kd.int .u16) (w0 := w1) B rfl (.tmp 106) (.tmp 108) 152 102 (.int .u16 0) 2 rfl Tryz.underlying152 info_u16 rfl (by decide) (by omega) (.slice A p.length c) p y [.int .u16 y] (fun k => k ≠ b) (fun _ => False) rfl rfl ?aP (fun _ hk => hk.elim) ?aF ?aO ?aB ?aS ?aL ?_; (case aP => exact rfl); (case aF => exact fun k hk => by omega); (case aO => exact HR4.out); (case aB => exact HB4.out); (case aS => omega); (case aL => omega); intro v1 w5 ho hbw5 hgr _; (have hh5 := (hgr.block b hb4 HNO.out).trans HH4.out); (obtain ⟨A1, e1, rfl, _, _⟩ := Kd.R_reads ho); (obtain ⟨q0, z0⟩ := heap_cell (j := 0) hh5 rfl); (obtain ⟨q1, z1⟩ := heap_cell (j := 1) hh5 rfl); (obtain ⟨q3, z3⟩ := heap_cell (j := 3) hh5 rfl); (have HH5 := Aside0.mk hh5); (have HO5 := Aside0.mk ho); (have HB5 := Aside0.mk hbw5); clear hh5 ho hbw5 hgr)
          go_ret
          exact ⟨(((HB5.out.setCell hBb _).setCell hBb _).setCell hBb _), .inr ⟨rst, p ++ [y], false, by rw [HS2.out, HRL.out], rfl, _, heap_set103 _ _ _ HH5.out, by have h6 := HO5.out; rw [show (p ++ [y]).length = p.length + 1 by simp] at h6; exact Kd.R_far (Kd.R_far (Kd.R_far h6 (fun _ h => h) _) (fun _ h => h) _) (fun _ h => h) _⟩⟩
  · rw [s2, s3]
    cases more
    · have HS2 := Lib.hid (HST.out.trans (show stepW (wl, rl, false) p gap = some ([], p ++ [(n4 : Int) / 65536, (n4 : Int) % 65536], gap, true) by rw [stepW, if_pos ⟨s2, rfl⟩, s3]))
      clear s1 s2 s3
      go_wp2_with fail
      refine (Bytes_calls n4 (by omega) (by omega) _).mono ?_
      rintro e w4 ⟨rfl, b4⟩
      have hb4 : b < w4.heap.size := Nat.lt_of_lt_of_le hb3 b4.size
      have hh4 := (b4.block b hb3).trans HH3.out
      have HR4 := Aside0.mk (Kd.R_below HR3.out b4)
      have HB4 := Aside0.mk (below_then HB3'.out (by omega) b4)
      clear k0 g0 k1 g1 k2 g2 k3 g3
      have HH4 := Aside0.mk hh4
      clear hh4 b4
      go_wp2_with fail
      -- region 11
      obtain ⟨g, hg⟩ : ∃ g, g = w4.heap.size := ⟨_, rfl⟩
      have hal : ∀ k, k < w4.heap.size → (w4.alloc (.cells #[.int .u8 ((n4 : Int) / 16777216), .int .u8 ((n4 : Int) / 65536 % 256), .int .u8 ((n4 : Int) / 256 % 256), .int .u8 ((n4 : Int) % 256)] 182)).heap[k]? = w4.heap[k]? := fun k hk => heap_alloc_old' _ _ _ hk
      have hnw := heap_alloc_new' w4 (.cells #[.int .u8 ((n4 : Int) / 16777216), .int .u8 ((n4 : Int) / 65536 % 256), .int .u8 ((n4 : Int) / 256 % 256), .int .u8 ((n4 : Int) % 256)] 182) g hg
      have hBA : Below w4.heap.size w4 (w4.alloc (.cells #[.int .u8 ((n4 : Int) / 16777216), .int .u8 ((n4 : Int) / 65536 % 256), .int .u8 ((n4 : Int) / 256 % 256), .int .u8 ((n4 : Int) % 256)] 182)) := (Below.refl _ _).alloc (Nat.le_refl _) _
      have hsA : (w4.alloc (.cells #[.int .u8 ((n4 : Int) / 16777216), .int .u8 ((n4 : Int) / 65536 % 256), .int .u8 ((n4 : Int) / 256 % 256), .int .u8 ((n4 : Int) % 256)] 182)).heap.size = g + 1 := by rw [hg]; simp
      have hgb : b < g := by omega
      rw [← hg]
      generalize w4.alloc (.cells #[.int .u8 ((n4 : Int) / 16777216), .int .u8 ((n4 : Int) / 65536 % 256), .int .u8 ((n4 : Int) / 256 % 256), .int .u8 ((n4 : Int) % 256)] 182) = w5 at hal hnw hBA hsA ⊢
      have hh5 := (hal b hb4).trans HH4.out
      have hR5 := Kd.R_below HR4.out hBA
      have hB5 := below_then HB4.out (by omega) hBA
      have hgo : some g ≠ (Value.slice A p.length c).ownBlock := fun e => by
        have h1 := Kd.R_bound HR4.out
        have h2 := (h1.1 g e.symm).2.2.1
        omega
      have hbo : some b ≠ (Value.slice A p.length c).ownBlock := fun e => HR4.out.1 b e.symm rfl
      clear hal hBA hg
      have hor1 := or_u16 8 ((n4 : Int) / 16777216) ((n4 : Int) / 65536 % 256) (by omega) (by omega) (by simp only [Int.reducePow]; omega) (by simp only [Int.reducePow]; omega) (by omega)
      have hor2 := or_u16 8 ((n4 : Int) / 256 % 256) ((n4 : Int) % 256) (by omega) (by omega) (by simp only [Int.reducePow]; omega) (by simp only [Int.reducePow]; omega) (by omega)
      simp only [Int.reducePow] at hor1 hor2
      have hv1 : (n4 : Int) / 16777216 * 256 + (n4 : Int) / 65536 % 256 = (n4 : Int) / 65536 := by omega
      have hv2 : (n4 : Int) / 256 % 256 * 256 + (n4 : Int) % 256 = (n4 : Int) % 65536 := by omega
      rw [hv1] at hor1
      rw [hv2] at hor2
      clear hv1 hv2
      have hq0 : IntKind.u16.wrap ((n4 : Int) / 16777216) = (n4 : Int) / 16777216 := wrap_u16_of _ (by omega) (by omega)
      have hq1 : IntKind.u16.wrap ((n4 : Int) / 65536 % 256) = (n4 : Int) / 65536 % 256 := wrap_u16_of _ (by omega) (by omega)
      have hq2 : IntKind.u16.wrap ((n4 : Int) / 256 % 256) = (n4 : Int) / 256 % 256 := wrap_u16_of _ (by omega) (by omega)
      have hq3 : IntKind.u16.wrap ((n4 : Int) % 256) = (n4 : Int) % 256 := wrap_u16_of _ (by omega) (by omega)
      have hq4 : IntKind.u16.wrap ((n4 : Int) / 16777216 * 256) = (n4 : Int) / 16777216 * 256 := wrap_u16_of _ (by omega) (by omega)
      have hq5 : IntKind.u16.wrap ((n4 : Int) / 256 % 256 * 256) = (n4 : Int) / 256 % 256 * 256 := wrap_u16_of _ (by omega) (by omega)
      refine wp_region_noPanic ?_
      have hSh : ∀ W : World, Below B w1 W → W.heap[g]? = some (.cells #[.int .u8 ((n4 : Int) / 16777216), .int .u8 ((n4 : Int) / 65536 % 256), .int .u8 ((n4 : Int) / 256 % 256), .int .u8 ((n4 : Int) % 256)] 182 (0, 0)) → (fun W => Below B w1 W ∧ W.cell? ⟨g, 0, none⟩ = some (.int .u8 ((n4 : Int) / 16777216)) ∧ W.cell? ⟨g, 1, none⟩ = some (.int .u8 ((n4 : Int) / 65536 % 256)) ∧ W.cell? ⟨g, 2, none⟩ = some (.int .u8 ((n4 : Int) / 256 % 256)) ∧ W.cell? ⟨g, 3, none⟩ = some (.int .u8 ((n4 : Int) % 256))) W := fun W h1 h2 => ⟨h1, (heap_cell (j := 0) h2 rfl).1, (heap_cell (j := 1) h2 rfl).1, (heap_cell (j := 2) h2 rfl).1, (heap_cell (j := 3) h2 rfl).1⟩
      have HSh := Aside0.mk hSh
      clear hSh
      refine wp_region_held_drew (S := (fun W => Below B w1 W ∧ W.cell? ⟨g, 0, none⟩ = some (.int .u8 ((n4 : Int) / 16777216)) ∧ W.cell? ⟨g, 1, none⟩ = some (.int .u8 ((n4 : Int) / 65536 % 256)) ∧ W.cell? ⟨g, 2, none⟩ = some (.int .u8 ((n4 : Int) / 256 % 256)) ∧ W.cell? ⟨g, 3, none⟩ = some (.int .u8 ((n4 : Int) % 256)))) (by kernel_rfl) (HSh.out w5.drew hB5.drew hnw) (fun _ => ?_)
      have hh6 : w5.drew.heap[b]? = some (.cells #[.string rest, .slice A p.length c, .int .i64 gap, .bool ended] 154 (0, 0)) := hh5
      have hn6 : w5.drew.heap[g]? = some (.cells #[.int .u8 ((n4 : Int) / 16777216), .int .u8 ((n4 : Int) / 65536 % 256), .int .u8 ((n4 : Int) / 256 % 256), .int .u8 ((n4 : Int) % 256)] 182 (0, 0)) := hnw
      have hR6 := Kd.R_drew hR5
      have hB6 := hB5.drew
      have hs6 : g < w5.drew.heap.size := by show g < w5.heap.size; omega
      clear hh5 hnw hR5 hB5 hsA
      generalize w5.drew = W0 at *
      have HS0 := HSh.out W0 hB6 hn6
      obtain ⟨m1, _⟩ := heap_cell (j := 1) hh6 rfl
      have HH6 := Aside0.mk hh6
      have HN6 := Aside0.mk hn6
      have HR6 := Aside0.mk hR6
      have HB6 := Aside0.mk hB6
      clear hh6 hn6 hR6 hB6
      refine wpAnyH_take (i := 0) (v := ?_) (by simp only [List.getElem?_toArray, List.getElem?_cons_zero]; rfl) (by kernel_rfl) (by kernel_rfl) (by kernel_rfl) (fun _ _ _ h => h) (Or.inl ⟨by rfl, ?_⟩) HS0 ?_
      rotate_left
      · intro W hW
        clear hW
        go_simp
        all_goals with_reducible rfl
      try simp only [Act.put, List.setIfInBounds_toArray, List.set_cons_zero, List.set_cons_succ]
      refine wpAnyH_take (i := 1) (v := ?_) (by simp only [List.getElem?_toArray, List.getElem?_cons_zero, List.getElem?_cons_succ]; rfl) (by kernel_rfl) (by kernel_rfl) (by kernel_rfl) (fun _ _ _ h => h) (Or.inl ⟨by rfl, ?_⟩) HS0 ?_
      rotate_left
      · intro W hW
        clear hW
        go_simp
        all_goals with_reducible rfl
      try simp only [Act.put, List.setIfInBounds_toArray, List.set_cons_zero, List.set_cons_succ]
      refine wpAnyH_take (i := 2) (v := ?_) (by simp only [List.getElem?_toArray, List.getElem?_cons_zero, List.getElem?_cons_succ]; rfl) (by kernel_rfl) (by kernel_rfl) (by kernel_rfl) (fun _ _ _ h => h) (Or.inl ⟨by rfl, ?_⟩) HS0 ?_
      rotate_left
      · intro W hW
        clear hW
        go_simp
        all_goals with_reducible rfl
      try simp only [Act.put, List.setIfInBounds_toArray, List.set_cons_zero, List.set_cons_succ]
      refine wpAnyH_take (i := 3) (v := ?_) (by simp only [List.getElem?_toArray, List.getElem?_cons_zero, List.getElem?_cons_succ]; rfl) (by kernel_rfl) (by kernel_rfl) (by kernel_rfl) (fun _ _ _ h => h) (Or.inl ⟨by rfl, ?_⟩) HS0 ?_
      rotate_left
      · intro W hW
        clear hW
        go_simp
        all_goals with_reducible rfl
      try simp only [Act.put, List.setIfInBounds_toArray, List.set_cons_zero, List.set_cons_succ]
      refine wpAnyH_take (i := 5) (v := ?_) (by simp only [List.getElem?_toArray, List.getElem?_cons_zero, List.getElem?_cons_succ]; rfl) (by kernel_rfl) (by kernel_rfl) (by kernel_rfl) (fun _ _ _ h => h) (Or.inl ⟨by rfl, ?_⟩) HS0 ?_
      rotate_left
      · intro W hW
        clear hW
        go_simp
        all_goals with_reducible rfl
      try simp only [Act.put, List.setIfInBounds_toArray, List.set_cons_zero, List.set_cons_succ]
      refine wpAnyH_take (i := 6) (v := ?_) (by simp only [List.getElem?_toArray, List.getElem?_cons_zero, List.getElem?_cons_succ]; rfl) (by kernel_rfl) (by kernel_rfl) (by kernel_rfl) (fun _ _ _ h => h) (Or.inl ⟨by rfl, ?_⟩) HS0 ?_
      rotate_left
      · intro W hW
        obtain ⟨_, l0, l1, l2, l3⟩ := hW
        go_simp
        all_goals with_reducible rfl
      try simp only [Act.put, List.setIfInBounds_toArray, List.set_cons_zero, List.set_cons_succ]
      refine wpAnyH_take (i := 7) (v := ?_) (by simp only [List.getElem?_toArray, List.getElem?_cons_zero, List.getElem?_cons_succ]; rfl) (by kernel_rfl) (by kernel_rfl) (by kernel_rfl) (fun _ _ _ h => h) (Or.inl ⟨by rfl, ?_⟩) HS0 ?_
      rotate_left
      · intro W hW
        clear hW
        go_simp
        all_goals with_reducible rfl
      try simp only [Act.put, List.setIfInBounds_toArray, List.set_cons_zero, List.set_cons_succ]
      refine wpAnyH_take (i := 8) (v := ?_) (by simp only [List.getElem?_toArray, List.getElem?_cons_zero, List.getElem?_cons_succ]; rfl) (by kernel_rfl) (by kernel_rfl) (by kernel_rfl) (fun _ _ _ h => h) (Or.inl ⟨by rfl, ?_⟩) HS0 ?_
      rotate_left
      · intro W hW
        clear hW
        go_simp
        all_goals with_reducible rfl
      try simp only [Act.put, List.setIfInBounds_toArray, List.set_cons_zero, List.set_cons_succ]
      refine wpAnyH_take (i := 9) (v := ?_) (by simp only [List.getElem?_toArray, List.getElem?_cons_zero, List.getElem?_cons_succ]; rfl) (by kernel_rfl) (by kernel_rfl) (by kernel_rfl) (fun _ _ _ h => h) (Or.inl ⟨by rfl, ?_⟩) HS0 ?_
      rotate_left
      · intro W hW
        clear hW
        go_simp
        all_goals with_reducible rfl
      try simp only [Act.put, List.setIfInBounds_toArray, List.set_cons_zero, List.set_cons_succ]
      refine wpAnyH_take (i := 10) (v := ?_) (by simp only [List.getElem?_toArray, List.getElem?_cons_zero, List.getElem?_cons_succ]; rfl) (by kernel_rfl) (by kernel_rfl) (by kernel_rfl) (fun _ _ _ h => h) (Or.inl ⟨by rfl, ?_⟩) HS0 ?_
      rotate_left
      · intro W hW
        obtain ⟨_, l0, l1, l2, l3⟩ := hW
        go_simp
        all_goals with_reducible rfl
      try simp only [Act.put, List.setIfInBounds_toArray, List.set_cons_zero, List.set_cons_succ]
      refine wpAnyH_take (i := 11) (v := ?_) (by simp only [List.getElem?_toArray, List.getElem?_cons_zero, List.getElem?_cons_succ]; rfl) (by kernel_rfl) (by kernel_rfl) (by kernel_rfl) (fun _ _ _ h => h) (Or.inl ⟨by rfl, ?_⟩) HS0 ?_
      rotate_left
      · intro W hW
        clear hW
        go_simp
        all_goals with_reducible rfl
      try simp only [Act.put, List.setIfInBounds_toArray, List.set_cons_zero, List.set_cons_succ]
      refine wpAnyH_take (i := 12) (v := ?_) (by simp only [List.getElem?_toArray, List.getElem?_cons_zero, List.getElem?_cons_succ]; rfl) (by kernel_rfl) (by kernel_rfl) (by kernel_rfl) (fun _ _ _ h => h) (Or.inl ⟨by rfl, ?_⟩) HS0 ?_
      rotate_left
      · intro W hW
        clear hW
        go_simp
        all_goals with_reducible rfl
      try simp only [Act.put, List.setIfInBounds_toArray, List.set_cons_zero, List.set_cons_succ]
      refine wpAnyH_take (i := 13) (v := ?_) (by simp only [List.getElem?_toArray, List.getElem?_cons_zero, List.getElem?_cons_succ]; rfl) (by kernel_rfl) (by kernel_rfl) (by kernel_rfl) (fun _ _ _ h => h) (Or.inl ⟨by rfl, ?_⟩) HS0 ?_
      rotate_left
      · intro W hW
        clear hW
        go_simp
        all_goals with_reducible rfl
      try simp only [Act.put, List.setIfInBounds_toArray, List.set_cons_zero, List.set_cons_succ]
      refine wpAnyH_take (i := 14) (v := ?_) (by simp only [List.getElem?_toArray, List.getElem?_cons_zero, List.getElem?_cons_succ]; rfl) (by kernel_rfl) (by kernel_rfl) (by kernel_rfl) (fun _ _ _ h => h) (Or.inl ⟨by rfl, ?_⟩) HS0 ?_
      rotate_left
      · intro W hW
        obtain ⟨_, l0, l1, l2, l3⟩ := hW
        go_simp
        all_goals with_reducible rfl
      try simp only [Act.put, List.setIfInBounds_toArray, List.set_cons_zero, List.set_cons_succ]
      refine wpAnyH_take (i := 15) (v := ?_) (by simp only [List.getElem?_toArray, List.getElem?_cons_zero, List.getElem?_cons_succ]; rfl) (by kernel_rfl) (by kernel_rfl) (by kernel_rfl) (fun _ _ _ h => h) (Or.inl ⟨by rfl, ?_⟩) HS0 ?_
      rotate_left
      · intro W hW
        clear hW
        go_simp
        all_goals with_reducible rfl
      try simp only [Act.put, List.setIfInBounds_toArray, List.set_cons_zero, List.set_cons_succ]
      refine wpAnyH_take (i := 16) (v := ?_) (by simp only [List.getElem?_toArray, List.getElem?_cons_zero, List.getElem?_cons_succ]; rfl) (by kernel_rfl) (by kernel_rfl) (by kernel_rfl) (fun _ _ _ h => h) (Or.inl ⟨by rfl, ?_⟩) HS0 ?_
      rotate_left
      · intro W hW
        clear hW
        go_simp
        all_goals with_reducible rfl
      try simp only [Act.put, List.setIfInBounds_toArray, List.set_cons_zero, List.set_cons_succ]
      refine wpAnyH_take (i := 17) (v := ?_) (by simp only [List.getElem?_toArray, List.getElem?_cons_zero, List.getElem?_cons_succ]; rfl) (by kernel_rfl) (by kernel_rfl) (by kernel_rfl) (fun _ _ _ h => h) (Or.inl ⟨by rfl, ?_⟩) HS0 ?_
      rotate_left
      · intro W hW
        clear hW
        go_simp
        all_goals with_reducible rfl
      try simp only [Act.put, List.setIfInBounds_toArray, List.set_cons_zero, List.set_cons_succ]
      refine wpAnyH_take (i := 18) (v := ?_) (by simp only [List.getElem?_toArray, List.getElem?_cons_zero, List.getElem?_cons_succ]; rfl) (by kernel_rfl) (by kernel_rfl) (by kernel_rfl) (fun _ _ _ h => h) (Or.inl ⟨by rfl, ?_⟩) HS0 ?_
      rotate_left
      · intro W hW
        obtain ⟨_, l0, l1, l2, l3⟩ := hW
        go_simp
        all_goals with_reducible rfl
      try simp only [Act.put, List.setIfInBounds_toArray, List.set_cons_zero, List.set_cons_succ]
      refine wpAnyH_take (i := 19) (v := ?_) (by simp only [List.getElem?_toArray, List.getElem?_cons_zero, List.getElem?_cons_succ]; rfl) (by kernel_rfl) (by kernel_rfl) (by kernel_rfl) (fun _ _ _ h => h) (Or.inl ⟨by rfl, ?_⟩) HS0 ?_
      rotate_left
      · intro W hW
        clear hW
        go_simp
        all_goals with_reducible rfl
      try simp only [Act.put, List.setIfInBounds_toArray, List.set_cons_zero, List.set_cons_succ]
      refine wpAnyH_take (i := 20) (v := ?_) (by simp only [List.getElem?_toArray, List.getElem?_cons_zero, List.getElem?_cons_succ]; rfl) (by kernel_rfl) (by kernel_rfl) (by kernel_rfl) (fun _ _ _ h => h) (Or.inl ⟨by rfl, ?_⟩) HS0 ?_
      rotate_left
      · intro W hW
        clear hW
        go_simp
        all_goals with_reducible rfl
      try simp only [Act.put, List.setIfInBounds_toArray, List.set_cons_zero, List.set_cons_succ]
      refine wpAnyH_ready (rs := [4, 21]) (by kernel_rfl) (by simp) ?_
      refine AllReadyH.cons (by simp only [List.getElem?_toArray, List.getElem?_cons_zero, List.getElem?_cons_succ]; rfl) (fun K hK => ?_) ?_
      · go_simp
        refine hK.out _ _ HS0 (fun _ => ?_)
        clear hK K
        try simp only [Act.put, List.setIfInBounds_toArray, List.set_cons_zero, List.set_cons_succ]
        refine wpAnyH_ready (rs := [21]) (by kernel_rfl) (by simp) ?_
        obtain ⟨W1, hW1⟩ : ∃ W', W' = W0.alloc (.cells #[.int .u16 ((n4 : Int) / 65536), .int .u16 ((n4 : Int) % 65536)] 102) := ⟨_, rfl⟩
        have hB7 : Below B w1 W1 := by rw [hW1]; exact HB6.out.alloc (by omega) _
        have hh7 : W1.heap[b]? = some (.cells #[.string rest, .slice A p.length c, .int .i64 gap, .bool ended] 154 (0, 0)) := by rw [hW1, heap_alloc_old' _ _ _ (by omega)]; exact HH6.out
        have hn7 : W1.heap[g]? = some (.cells #[.int .u8 ((n4 : Int) / 16777216), .int .u8 ((n4 : Int) / 65536 % 256), .int .u8 ((n4 : Int) / 256 % 256), .int .u8 ((n4 : Int) % 256)] 182 (0, 0)) := by rw [hW1, heap_alloc_old' _ _ _ (by omega)]; exact HN6.out
        have hR7 : Kd.R (Kd.int .u16) 102 W1 B (fun k => k ≠ b) (.slice A p.length c) p := by rw [hW1]; exact Kd.R_below HR6.out ((Below.refl _ _).alloc (Nat.le_refl _) _)
        have hC7 : Kd.C (Kd.int .u16) W1 (some ⟨W0.heap.size, 0, none⟩) 2 [(n4 : Int) / 65536, (n4 : Int) % 65536] := by rw [hW1]; exact C_new .u16 W0 [(n4 : Int) / 65536, (n4 : Int) % 65536] _ (by simp)
        have hs7 : g < W1.heap.size := by rw [hW1]; simp; omega
        have HS7 := HSh.out W1 hB7 hn7
        obtain ⟨n1, _⟩ := heap_cell (j := 1) hh7 rfl
        have HH7 := Aside0.mk hh7
        have HN7 := Aside0.mk hn7
        have HR7 := Aside0.mk hR7
        have HB7 := Aside0.mk hB7
        have HC7 := Aside0.mk hC7
        clear hh7 hn7 hR7 hB7 hC7
        have HW1 := Lib.hid hW1
        clear hW1
        refine AllReadyH.cons (by simp only [List.getElem?_toArray, List.getElem?_cons_zero, List.getElem?_cons_succ]; rfl) (fun K hK => ?_) ?_
        · go_simp
          rw [← HW1.out]
          refine hK.out _ _ HS7 (fun _ => ?_)
          clear hK K HW1
          try simp only [Act.put, List.setIfInBounds_toArray, List.set_cons_zero, List.set_cons_succ]
          refine wpAnyH_ready (rs := [22]) (by kernel_rfl) (by simp) ?_
          refine AllReadyH.cons (by simp only [List.getElem?_toArray, List.getElem?_cons_zero, List.getElem?_cons_succ]; rfl) (fun K hK => ?_) AllReadyH.nil
          refine Kd.R_append_rows_step (Kd.int .u16) (Rr := (Kd.int .u16).K W1) (w0 := w1) B rfl (.tmp 70) (.tmp 87) 152 102 (.int .u16 0) 2 rfl Tryz.underlying152 info_u16 rfl (by decide) (by omega) (.slice A p.length c) p [(n4 : Int) / 65536, (n4 : Int) % 65536] (some ⟨W0.heap.size, 0, none⟩) 2 2 (fun k => k ≠ b) (fun _ => False) rfl rfl HR7.out HC7.out (fun _ _ h => h) (fun _ h => h.elim) (fun k hk => by omega) HB7.out (by omega) (by omega) ?_
          intro v1 w6 ho hb6 hgr _
          have hh8 := (hgr.block b (by omega) hbo).trans HH7.out
          have hn8 := (hgr.block g (by omega) hgo).trans HN7.out
          obtain ⟨A1, e1, rfl, _, _⟩ := Kd.R_reads ho
          have HS8 := HSh.out w6 hb6 hn8
          obtain ⟨q1, z1⟩ := heap_cell (j := 1) hh8 rfl
          have HH8 := Aside0.mk hh8
          have HN8 := Aside0.mk hn8
          have HO8 := Aside0.mk ho
          have HB8 := Aside0.mk hb6
          clear hh8 hn8 ho hb6 hgr
          refine hK.out _ _ HS8 (fun _ => ?_)
          clear hK K
          try simp only [Act.put, List.setIfInBounds_toArray, List.set_cons_zero, List.set_cons_succ]
          refine wpAnyH_take (i := 23) (v := ?_) (by simp only [List.getElem?_toArray, List.getElem?_cons_zero, List.getElem?_cons_succ]; rfl) (by kernel_rfl) (by kernel_rfl) (by kernel_rfl) (fun _ _ _ h => h) (Or.inl ⟨by rfl, ?_⟩) HS8 ?_
          rotate_left
          · intro W hW
            clear hW
            go_simp
            all_goals with_reducible rfl
          try simp only [Act.put, List.setIfInBounds_toArray, List.set_cons_zero, List.set_cons_succ]
          refine wpAnyH_take (i := 24) (v := ?_) (by simp only [List.getElem?_toArray, List.getElem?_cons_zero, List.getElem?_cons_succ]; rfl) (by kernel_rfl) (by kernel_rfl) (by kernel_rfl) (fun _ _ _ h => h) (Or.inl ⟨by rfl, ?_⟩) HS8 ?_
          rotate_left
          · intro W hW
            clear hW
            go_simp
            all_goals with_reducible rfl
          try simp only [Act.put, List.setIfInBounds_toArray, List.set_cons_zero, List.set_cons_succ]
          refine wpAnyH_ready (rs := [25]) (by kernel_rfl) (by simp) ?_
          refine AllReadyH.cons (by simp only [List.getElem?_toArray, List.getElem?_cons_zero, List.getElem?_cons_succ]; rfl) (fun K hK => ?_) ?_
          · go_simp
            refine hK.out _ _ (HSh.out _ (HB8.out.setCell hBb _) ((heap_set_other _ (by omega)).trans HN8.out)) (fun _ => ?_)
            clear hK K
            try simp only [Act.put, List.setIfInBounds_toArray, List.set_cons_zero, List.set_cons_succ]
            refine wpAnyH_done (by kernel_rfl) ?_ _
            refine NoPanic.normal ?_
            obtain ⟨q3, z3⟩ := heap_cell (j := 3) HH8.out rfl
            obtain ⟨q0, z0⟩ := heap_cell (j := 0) HH8.out rfl
            go_wp2_with fail
            go_ret
            have h6 := HO8.out
            rw [show (p ++ [(n4 : Int) / 65536, (n4 : Int) % 65536]).length = p.length + 2 by simp] at h6
            exact ⟨(((HB8.out.setCell hBb _).setCell hBb _).setCell hBb _), .inr ⟨⟨#[]⟩, p ++ [(n4 : Int) / 65536, (n4 : Int) % 65536], .inr ⟨by rw [HS2.out], rfl, _, heap_set103 _ _ _ HH8.out, Kd.R_far (Kd.R_far (Kd.R_far h6 (fun _ h => h) _) (fun _ h => h) _) (fun _ h => h) _⟩⟩⟩
          exact AllReadyH.nil
        exact AllReadyH.nil
      obtain ⟨W1, hW1⟩ : ∃ W', W' = W0.alloc (.cells #[.int .u16 ((n4 : Int) / 65536), .int .u16 ((n4 : Int) % 65536)] 102) := ⟨_, rfl⟩
      have hB7 : Below B w1 W1 := by rw [hW1]; exact HB6.out.alloc (by omega) _
      have hh7 : W1.heap[b]? = some (.cells #[.string rest, .slice A p.length c, .int .i64 gap, .bool ended] 154 (0, 0)) := by rw [hW1, heap_alloc_old' _ _ _ (by omega)]; exact HH6.out
      have hn7 : W1.heap[g]? = some (.cells #[.int .u8 ((n4 : Int) / 16777216), .int .u8 ((n4 : Int) / 65536 % 256), .int .u8 ((n4 : Int) / 256 % 256), .int .u8 ((n4 : Int) % 256)] 182 (0, 0)) := by rw [hW1, heap_alloc_old' _ _ _ (by omega)]; exact HN6.out
      have hR7 : Kd.R (Kd.int .u16) 102 W1 B (fun k => k ≠ b) (.slice A p.length c) p := by rw [hW1]; exact Kd.R_below HR6.out ((Below.refl _ _).alloc (Nat.le_refl _) _)
      have hC7 : Kd.C (Kd.int .u16) W1 (some ⟨W0.heap.size, 0, none⟩) 2 [(n4 : Int) / 65536, (n4 : Int) % 65536] := by rw [hW1]; exact C_new .u16 W0 [(n4 : Int) / 65536, (n4 : Int) % 65536] _ (by simp)
      have hs7 : g < W1.heap.size := by rw [hW1]; simp; omega
      have HS7 := HSh.out W1 hB7 hn7
      obtain ⟨n1, _⟩ := heap_cell (j := 1) hh7 rfl
      have HH7 := Aside0.mk hh7
      have HN7 := Aside0.mk hn7
      have HR7 := Aside0.mk hR7
      have HB7 := Aside0.mk hB7
      have HC7 := Aside0.mk hC7
      clear hh7 hn7 hR7 hB7 hC7
      have HW1 := Lib.hid hW1
      clear hW1
      refine AllReadyH.cons (by simp only [List.getElem?_toArray, List.getElem?_cons_zero, List.getElem?_cons_succ]; rfl) (fun K hK => ?_) ?_
      · go_simp
        rw [← HW1.out]
        refine hK.out _ _ HS7 (fun _ => ?_)
        clear hK K HW1
        try simp only [Act.put, List.setIfInBounds_toArray, List.set_cons_zero, List.set_cons_succ]
        refine wpAnyH_ready (rs := [4]) (by kernel_rfl) (by simp) ?_
        refine AllReadyH.cons (by simp only [List.getElem?_toArray, List.getElem?_cons_zero, List.getElem?_cons_succ]; rfl) (fun K hK => ?_) ?_
        · go_simp
          refine hK.out _ _ HS7 (fun _ => ?_)
          clear hK K
          try simp only [Act.put, List.setIfInBounds_toArray, List.set_cons_zero, List.set_cons_succ]
          refine wpAnyH_ready (rs := [22]) (by kernel_rfl) (by simp) ?_
          refine AllReadyH.cons (by simp only [List.getElem?_toArray, List.getElem?_cons_zero, List.getElem?_cons_succ]; rfl) (fun K hK => ?_) AllReadyH.nil
          refine Kd.R_append_rows_step (Kd.int .u16) (Rr := (Kd.int .u16).K W1) (w0 := w1) B rfl (.tmp 70) (.tmp 87) 152 102 (.int .u16 0) 2 rfl Tryz.underlying152 info_u16 rfl (by decide) (by omega) (.slice A p.length c) p [(n4 : Int) / 65536, (n4 : Int) % 65536] (some ⟨W0.heap.size, 0, none⟩) 2 2 (fun k => k ≠ b) (fun _ => False) rfl rfl HR7.out HC7.out (fun _ _ h => h) (fun _ h => h.elim) (fun k hk => by omega) HB7.out (by omega) (by omega) ?_
          intro v1 w6 ho hb6 hgr _
          have hh8 := (hgr.block b (by omega) hbo).trans HH7.out
          have hn8 := (hgr.block g (by omega) hgo).trans HN7.out
          obtain ⟨A1, e1, rfl, _, _⟩ := Kd.R_reads ho
          have HS8 := HSh.out w6 hb6 hn8
          obtain ⟨q1, z1⟩ := heap_cell (j := 1) hh8 rfl
          have HH8 := Aside0.mk hh8
          have HN8 := Aside0.mk hn8
          have HO8 := Aside0.mk ho
          have HB8 := Aside0.mk hb6
          clear hh8 hn8 ho hb6 hgr
          refine hK.out _ _ HS8 (fun _ => ?_)
          clear hK K
          try simp only [Act.put, List.setIfInBounds_toArray, List.set_cons_zero, List.set_cons_succ]
          refine wpAnyH_take (i := 23) (v := ?_) (by simp only [List.getElem?_toArray, List.getElem?_cons_zero, List.getElem?_cons_succ]; rfl) (by kernel_rfl) (by kernel_rfl) (by kernel_rfl) (fun _ _ _ h => h) (Or.inl ⟨by rfl, ?_⟩) HS8 ?_
          rotate_left
          · intro W hW
            clear hW
            go_simp
            all_goals with_reducible rfl
          try simp only [Act.put, List.setIfInBounds_toArray, List.set_cons_zero, List.set_cons_succ]
          refine wpAnyH_take (i := 24) (v := ?_) (by simp only [List.getElem?_toArray, List.getElem?_cons_zero, List.getElem?_cons_succ]; rfl) (by kernel_rfl) (by kernel_rfl) (by kernel_rfl) (fun _ _ _ h => h) (Or.inl ⟨by rfl, ?_⟩) HS8 ?_
          rotate_left
          · intro W hW
            clear hW
            go_simp
            all_goals with_reducible rfl
          try simp only [Act.put, List.setIfInBounds_toArray, List.set_cons_zero, List.set_cons_succ]
          refine wpAnyH_ready (rs := [25]) (by kernel_rfl) (by simp) ?_
          refine AllReadyH.cons (by simp only [List.getElem?_toArray, List.getElem?_cons_zero, List.getElem?_cons_succ]; rfl) (fun K hK => ?_) ?_
          · go_simp
            refine hK.out _ _ (HSh.out _ (HB8.out.setCell hBb _) ((heap_set_other _ (by omega)).trans HN8.out)) (fun _ => ?_)
            clear hK K
            try simp only [Act.put, List.setIfInBounds_toArray, List.set_cons_zero, List.set_cons_succ]
            refine wpAnyH_done (by kernel_rfl) ?_ _
            refine NoPanic.normal ?_
            obtain ⟨q3, z3⟩ := heap_cell (j := 3) HH8.out rfl
            obtain ⟨q0, z0⟩ := heap_cell (j := 0) HH8.out rfl
            go_wp2_with fail
            go_ret
            have h6 := HO8.out
            rw [show (p ++ [(n4 : Int) / 65536, (n4 : Int) % 65536]).length = p.length + 2 by simp] at h6
            exact ⟨(((HB8.out.setCell hBb _).setCell hBb _).setCell hBb _), .inr ⟨⟨#[]⟩, p ++ [(n4 : Int) / 65536, (n4 : Int) % 65536], .inr ⟨by rw [HS2.out], rfl, _, heap_set103 _ _ _ HH8.out, Kd.R_far (Kd.R_far (Kd.R_far h6 (fun _ h => h) _) (fun _ h => h) _) (fun _ h => h) _⟩⟩⟩
          exact AllReadyH.nil
        exact AllReadyH.nil
      exact AllReadyH.nil
      -- region 11, end
    · have HS := Lib.hid (HST.out.trans (show stepW (wl, rl, true) p gap = match pieceL wl with
        | none => none
        | some x => if true = true ∧ rl = [] then none else some (rl, p ++ [x], gap, !true) by rw [stepW, if_neg (by simp)] <;> rfl))
      clear s1 s2 s3
      go_wp2_with fail
      refine (Piece_calls word _ (by omega)).mono ?_
      rintro e w4 ⟨rfl, b4⟩
      rw [HW.out]
      have hb4 : b < w4.heap.size := Nat.lt_of_lt_of_le hb3 b4.size
      have hB4 : B ≤ w4.heap.size := by omega
      have hh4 := (b4.block b hb3).trans HH3.out
      have HR4 := Aside0.mk (Kd.R_below HR3.out b4)
      have HB4 := Aside0.mk (below_then HB3'.out (by omega) b4)
      clear k0 g0 k1 g1 k2 g2 k3 g3
      obtain ⟨k1, g1⟩ := heap_cell (j := 1) hh4 rfl
      have HH4 := Aside0.mk hh4
      clear hh4 b4
      have hno : some b ≠ (Value.slice A p.length c).ownBlock := fun e => HR4.out.1 b e.symm rfl
      have HNO := Lib.hid hno
      clear hno
      rcases hpl : pieceL wl with _ | y
      · have HS2 := Lib.hid (show stepL rest.data.toList p gap = none by rw [HS.out, hpl])
        rw [show pieceN wl = 0 by rw [pieceN, hpl]; rfl, show pieceOk wl = false by rw [pieceOk, hpl]; rfl]
        clear hpl
        go_wp2_with ((with_reducible refine gate_builtin (b := .append) (xs := #[.tmp 106, .tmp 108]) rfl ?_); at_builtin; refine Kd.R_append (Kd.int .u16) (w0 := w1) B rfl (.tmp 106) (.tmp 108) 152 102 (.int .u16 0) 2 rfl Tryz.underlying152 info_u16 rfl (by decide) (by omega) (.slice A p.length c) p 0 [.int .u16 0] (fun k => k ≠ b) (fun _ => False) rfl rfl ?aP (fun _ hk => hk.elim) ?aF ?aO ?aB ?aS ?aL ?_; (case aP => exact rfl); (case aF => exact fun k hk => by omega); (case aO => exact HR4.out); (case aB => exact HB4.out); (case aS => omega); (case aL => omega); intro v1 w5 ho hbw5 hgr _; (have hh5 := (hgr.block b hb4 HNO.out).trans HH4.out); (obtain ⟨A1, e1, rfl, _, _⟩ := Kd.R_reads ho); (obtain ⟨q0, z0⟩ := heap_cell (j := 0) hh5 rfl); (obtain ⟨q1, z1⟩ := heap_cell (j := 1) hh5 rfl); (obtain ⟨q3, z3⟩ := heap_cell (j := 3) hh5 rfl); (have HH5 := Aside0.mk hh5); (have HO5 := Aside0.mk ho); (have HB5 := Aside0.mk hbw5); clear hh5 ho hbw5 hgr)
        go_ret
        exact ⟨(((HB5.out.setCell hBb _).setCell hBb _).setCell hBb _), .inl ⟨HS2.out, rfl⟩⟩
      · rw [show pieceN wl = y by rw [pieceN, hpl]; rfl, show pieceOk wl = true by rw [pieceOk, hpl]; rfl]
        · by_cases hrl : rl = []
          · have HS2 := Lib.hid (show stepL rest.data.toList p gap = none by rw [HS.out, hpl]; simp [hrl])
            have er : rst.toList.isEmpty = true := by rw [toList_eq, HRL.out, hrl]; rfl
            clear hpl hrl
            go_wp2_with ((with_reducible refine gate_builtin (b := .append) (xs := #[.tmp 106, .tmp 108]) rfl ?_); at_builtin; refine Kd.R_append (Kd.int .u16) (w0 := w1) B rfl (.tmp 106) (.tmp 108) 152 102 (.int .u16 0) 2 rfl Tryz.underlying152 info_u16 rfl (by decide) (by omega) (.slice A p.length c) p y [.int .u16 y] (fun k => k ≠ b) (fun _ => False) rfl rfl ?aP (fun _ hk => hk.elim) ?aF ?aO ?aB ?aS ?aL ?_; (case aP => exact rfl); (case aF => exact fun k hk => by omega); (case aO => exact HR4.out); (case aB => exact HB4.out); (case aS => omega); (case aL => omega); intro v1 w5 ho hbw5 hgr _; (have hh5 := (hgr.block b hb4 HNO.out).trans HH4.out); (obtain ⟨A1, e1, rfl, _, _⟩ := Kd.R_reads ho); (obtain ⟨q0, z0⟩ := heap_cell (j := 0) hh5 rfl); (obtain ⟨q1, z1⟩ := heap_cell (j := 1) hh5 rfl); (obtain ⟨q3, z3⟩ := heap_cell (j := 3) hh5 rfl); (have HH5 := Aside0.mk hh5); (have HO5 := Aside0.mk ho); (have HB5 := Aside0.mk hbw5); clear hh5 ho hbw5 hgr)
            go_ret
            exact ⟨(((HB5.out.setCell hBb _).setCell hBb _).setCell hBb _), .inl ⟨HS2.out, rfl⟩⟩
          · have HS2 := Lib.hid (show stepL rest.data.toList p gap = some (rl, p ++ [y], gap, false) by rw [HS.out, hpl]; simp [hrl])
            have er : rst.toList.isEmpty = false := by rw [toList_eq, HRL.out]; simpa using hrl
            clear hpl hrl
            go_wp2_with ((with_reducible refine gate_builtin (b := .append) (xs := #[.tmp 106, .tmp 108]) rfl ?_); at_builtin; refine Kd.R_append (Kd.int .u16) (w0 := w1) B rfl (.tmp 106) (.tmp 108) 152 102 (.int .u16 0) 2 rfl Tryz.underlying152 info_u16 rfl (by decide) (by omega) (.slice A p.length c) p y [.int .u16 y] (fun k => k ≠ b) (fun _ => False) rfl rfl ?aP (fun _ hk => hk.elim) ?aF ?aO ?aB ?aS ?aL ?_; (case aP => exact rfl); (case aF => exact fun k hk => by omega); (case aO => exact HR4.out); (case aB => exact HB4.out); (case aS => omega); (case aL => omega); intro v1 w5 ho hbw5 hgr _; (have hh5 := (hgr.block b hb4 HNO.out).trans HH4.out); (obtain ⟨A1, e1, rfl, _, _⟩ := Kd.R_reads ho); (obtain ⟨q0, z0⟩ := heap_cell (j := 0) hh5 rfl); (obtain ⟨q1, z1⟩ := heap_cell (j := 1) hh5 rfl); (obtain ⟨q3, z3⟩ := heap_cell (j := 3) hh5 rfl); (have HH5 := Aside0.mk hh5); (have HO5 := Aside0.mk ho); (have HB5 := Aside0.mk hbw5); clear hh5 ho hbw5 hgr)
            go_ret
            exact ⟨(((HB5.out.setCell hBb _).setCell hBb _).setCell hBb _), .inr ⟨rst, p ++ [y], false, by rw [HS2.out, HRL.out], rfl, _, heap_set103 _ _ _ HH5.out, by have h6 := HO5.out; rw [show (p ++ [y]).length = p.length + 1 by simp] at h6; exact Kd.R_far (Kd.R_far (Kd.R_far h6 (fun _ h => h) _) (fun _ h => h) _) (fun _ h => h) _⟩⟩

theorem step_calls (B b : Nat) (hBb : B ≤ b) (rest : ByteArray) (p : List Int) (gap : Int) (ended : Bool) (w : World) (hs : rest.size ≤ 900000) (hp : p.length ≤ 1000) (hg0 : -1 ≤ gap) (hg1 : gap ≤ 1000) (hH : Holds w B b rest p gap ended) (hE : Aside0 (Errs w)) (hM : Aside0 (Mx w)) :
    Calls Tryz.prog 92 #[.pointer (some ⟨b, 0, none⟩)] w fun e w' => Below B w w' ∧ ((stepL rest.data.toList p gap = none ∧ e = .returned (.bool false)) ∨ ∃ (rest' : ByteArray) (p' : List Int) (gap' : Int) (ended' : Bool), stepL rest.data.toList p gap = some (rest'.data.toList, p', gap', ended') ∧ e = .returned (.bool true) ∧ Holds w' B b rest' p' gap' ended') := by
  rcases hpre : Lib.hasPrefix rest.data.toList [58] with _ | _
  · refine (step_word B b hBb rest p gap ended w hs hp hpre hH hE hM).mono ?_
    rintro e w' ⟨hb, h | ⟨r, q, d, h1, h2, h3⟩⟩
    · exact ⟨hb, .inl h⟩
    · exact ⟨hb, .inr ⟨r, q, gap, d, h1, h2, h3⟩⟩
  · refine (step_colon B b hBb rest p gap ended w hs hp hg0 hg1 hpre hH).mono ?_
    rintro e w' ⟨hb, ⟨h1, h2⟩ | ⟨h1, h2, r, h3, h4⟩⟩
    · exact ⟨hb, .inl ⟨by rw [stepL, if_pos hpre, if_pos h1], h2⟩⟩
    · exact ⟨hb, .inr ⟨r, p, p.length, _, by rw [stepL, if_pos hpre, if_neg (by omega), h3], h2, h4⟩⟩
end Go.Proofs.YtplehdcnnaamkaaGreatDoor

/- The reader's run: plain Lean. -/
namespace Go.Proofs.YtplehdcnnaamkaaGreatDoor
open Go.RowKit Go.Proofs.YtplehdcnnaamkaaGreatDoorW.PrintWords

def startL (s : List UInt8) : Option (List UInt8) := if Lib.hasPrefix s [58] = true then (if Lib.hasPrefix s [58, 58] = true then some (s.drop 1) else none) else some s
def runL : Nat → List UInt8 → List Int → Int → Bool → Option (List Int × Int)
  | _, _, p, gap, true => some (p, gap)
  | 0, _, _, _, false => none
  | n + 1, rest, p, gap, false => match stepL rest p gap with
    | none => none
    | some (r', p', g', e') => if 8 < p'.length then none else runL n r' p' g' e'
/-- Pieces, with the gap filled. -/
def fillL (p : List Int) (gap : Int) : Option (List Int) :=
  if gap < 0 then (if p.length = 8 then some p else none)
  else if p.length < 8 then some (p.take gap.toNat ++ List.replicate (8 - p.length) 0 ++ p.drop gap.toNat) else none
/-- A text's eight pieces; none: it is no address. -/
def sixL (s : List UInt8) : Option (List Int) := match startL s with
  | none => none
  | some r => match runL (r.length + 1) r [] (-1) false with
    | none => none
    | some (p, gap) => fillL p gap
def sixOk (s : List UInt8) : Bool := (sixL s).isSome
def sixX (s : List UInt8) : List Int := (sixL s).getD []

theorem piece_bd (l : List UInt8) (x : Int) (h : pieceL l = some x) : 0 ≤ x ∧ x ≤ 65535 := by
  rw [pieceL] at h
  split at h
  · cases h
  · rename_i hl
    have key : ∀ (l : List Int) (m : Int) (k : Nat), 0 ≤ m → m < 16 ^ k → k + l.length ≤ 4 → ∀ x, accN 16 m l = some x → 0 ≤ x ∧ x ≤ 65535 := by
      intro l
      induction l with
      | nil =>
        intro m k h0 h1 hk x hx
        obtain rfl := Option.some.inj hx
        have h4 : k = 0 ∨ k = 1 ∨ k = 2 ∨ k = 3 ∨ k = 4 := by simp at hk; omega
        rcases h4 with rfl | rfl | rfl | rfl | rfl <;> simp only [Int.reducePow] at h1 <;> omega
      | cons r rs ih =>
        intro m k h0 h1 hk x hx
        rw [accN] at hx
        split at hx
        · cases hx
        · rename_i hr
          have hb := hexV_bd r
          have hs := pow_small m k h1 (by simp at hk; omega)
          have hm : min (m * 16 + hexV r) 1099511627776 = m * 16 + hexV r := by omega
          rw [hm] at hx
          refine ih (m * 16 + hexV r) (k + 1) (by omega) ?_ (by simp at hk; omega) x hx
          exact pow_step m (hexV r) k 1 h1 (by omega) (by omega)
    refine key (intsOf l) 0 0 (by omega) (by decide) ?_ x h
    have : (intsOf l).length = l.length := by simp [intsOf]
    simp only [not_or] at hl
    omega
theorem cut_dec (s : List UInt8) : ((Lib.cut s [58]).2.2 = true → (Lib.cut s [58]).2.1.length < s.length) ∧ ((Lib.cut s [58]).2.2 = false → (Lib.cut s [58]).2.1 = []) := by
  unfold Lib.cut
  split
  · rename_i h
    refine ⟨fun _ => ?_, fun h' => (by cases h')⟩
    rw [List.length_drop]
    rcases Nat.eq_zero_or_pos s.length with h0 | h0
    · exfalso
      have : s = [] := List.eq_nil_of_length_eq_zero h0
      subst this
      revert h
      decide
    · simp
      omega
  · exact ⟨fun h' => (by cases h'), fun _ => rfl⟩
/-- What a step leaves. -/
theorem step_inv (rest : List UInt8) (p : List Int) (gap : Int) (r' : List UInt8) (p' : List Int) (g' : Int) (e' : Bool) (h : stepL rest p gap = some (r', p', g', e')) (hp : ∀ x ∈ p, 0 ≤ x ∧ x ≤ 65535) (hg : -1 ≤ gap ∧ gap ≤ p.length) :
    (∀ x ∈ p', 0 ≤ x ∧ x ≤ 65535) ∧ (-1 ≤ g' ∧ g' ≤ p'.length) ∧ p'.length ≤ p.length + 2 ∧ r'.length ≤ rest.length ∧ (e' = false → r'.length < rest.length) := by
  rw [stepL] at h
  split at h
  · rename_i hpre
    have h0 : 0 < rest.length := by
      rcases rest with _ | ⟨c, r⟩
      · cases hpre
      · simp
    split at h
    · cases h
    · simp only [Option.some.injEq, Prod.mk.injEq] at h
      obtain ⟨rfl, rfl, rfl, rfl⟩ := h
      refine ⟨hp, ⟨by omega, by omega⟩, by omega, by rw [List.length_drop]; omega, fun _ => by rw [List.length_drop]; omega⟩
  · rw [stepW] at h
    have hc := cut_dec rest
    have hl := cut_le rest [58]
    split at h
    · simp only [Option.some.injEq, Prod.mk.injEq] at h
      obtain ⟨rfl, rfl, rfl, rfl⟩ := h
      have hb : 0 ≤ strictN (Lib.cut rest [58]).1 ∧ strictN (Lib.cut rest [58]).1 < 4294967296 := by
        rcases strict_val (Lib.cut rest [58]).1 with ⟨_, _, h3⟩ | ⟨n, hn, _, _, h3, _⟩ <;> rw [h3] <;> omega
      refine ⟨fun x hx => ?_, ⟨hg.1, by simp; omega⟩, by simp, by simp, fun h => (by cases h)⟩
      rcases List.mem_append.1 hx with hx | hx
      · exact hp x hx
      · simp at hx
        rcases hx with rfl | rfl <;> omega
    · split at h
      · cases h
      · rename_i x hx
        split at h
        · cases h
        · simp only [Option.some.injEq, Prod.mk.injEq] at h
          obtain ⟨rfl, rfl, rfl, rfl⟩ := h
          refine ⟨fun y hy => ?_, ⟨hg.1, by simp; omega⟩, by simp, hl.2, fun he => hc.1 (by simpa using he)⟩
          rcases List.mem_append.1 hy with hy | hy
          · exact hp y hy
          · rw [List.mem_singleton.1 hy]
            exact piece_bd _ _ hx
end Go.Proofs.YtplehdcnnaamkaaGreatDoor

/- The document's reading of an address of eight pieces, and that the reader's is the same: plain Lean. -/
namespace Go.Proofs.YtplehdcnnaamkaaGreatDoor
open Go.RowKit Go.Proofs.YtplehdcnnaamkaaGreatDoorW.PrintWords

/-- The pieces of some words; the last one may be an address of four bytes. -/
def listW (last : Bool) : List (List UInt8) → Option (List Int)
  | [] => some []
  | w :: ws => if strictOk w = true ∧ last = true ∧ ws = [] then some [strictN w / 65536, strictN w % 65536] else match pieceL w with
    | none => none
    | some x => (listW last ws).map (x :: ·)
def listD (last : Bool) (s : List UInt8) : Option (List Int) := if s = [] then some [] else listW last (splitL (isAt ⟨#[58]⟩) s)
/-- Where two colons stand. -/
def dcol : List UInt8 → Option (List UInt8 × List UInt8)
  | [] => none
  | a :: r => if a = 58 ∧ r.head? = some 58 then some ([], r.tail) else (dcol r).map fun p => (a :: p.1, p.2)
def docL (s : List UInt8) : Option (List Int) := match dcol s with
  | none => match listD true s with
    | none => none
    | some l => if l.length = 8 then some l else none
  | some (a, b) => match listD false a, listD true b with
    | some l, some r => if l.length + r.length ≤ 7 then some (l ++ List.replicate (8 - (l.length + r.length)) 0 ++ r) else none
    | _, _ => none

theorem at_colon (c : UInt8) : isAt ⟨#[58]⟩ c = decide (c = 58) := by
  by_cases h : c = 58
  · subst h; rfl
  · have hb : ((58 : UInt8) == c) = false := beq_eq_false_iff_ne.2 fun h' => h h'.symm
    simp [isAt, Lib.indexByte, hb, h]
theorem pre_colon (s : List UInt8) : Lib.hasPrefix s [58] = decide (s.head? = some 58) := by
  cases s with
  | nil => rfl
  | cons a r =>
    by_cases h : a = 58
    · subst h; simp [Lib.hasPrefix]
    · have h2 : ¬ (58 : UInt8) = a := fun h' => h h'.symm
      simp only [Lib.hasPrefix, List.isPrefixOf, List.head?_cons, Option.some.injEq, h, decide_false, Bool.and_eq_false_imp, beq_iff_eq]
      exact fun h' => absurd h' h2
theorem index_colon (a : UInt8) (r : List UInt8) : Lib.index (a :: r) [58] = if a = 58 then 0 else if Lib.index r [58] = -1 then -1 else Lib.index r [58] + 1 := by
  rw [Lib.index]
  by_cases h : a = 58
  · subst h; simp
  · have hb : ¬ (58 : UInt8) = a := fun h' => h h'.symm
    simp [h, hb]
theorem index_word (w r : List UInt8) (h : ∀ c ∈ w, c ≠ 58) : Lib.index (w ++ 58 :: r) [58] = (w.length : Int) := by
  induction w with
  | nil => rw [List.nil_append, index_colon, if_pos rfl]; rfl
  | cons a w ih =>
    rw [List.cons_append, index_colon, if_neg (h a (by simp)), ih fun c hc => h c (by simp [hc]), if_neg (by omega)]
    simp
theorem index_nowhere (w : List UInt8) (h : ∀ c ∈ w, c ≠ 58) : Lib.index w [58] = -1 := by
  induction w with
  | nil => rfl
  | cons a w ih => rw [index_colon, if_neg (h a (by simp)), if_pos (ih fun c hc => h c (by simp [hc]))]
/-- A text has a first word and a rest, or is one word. -/
theorem cut_spec (s : List UInt8) : (∃ w r, s = w ++ 58 :: r ∧ (∀ c ∈ w, c ≠ 58) ∧ Lib.cut s [58] = (w, r, true)) ∨ ((∀ c ∈ s, c ≠ 58) ∧ Lib.cut s [58] = (s, [], false)) := by
  have key : (∃ w r, s = w ++ 58 :: r ∧ ∀ c ∈ w, c ≠ 58) ∨ ∀ c ∈ s, c ≠ 58 := by
    induction s with
    | nil => exact .inr (by simp)
    | cons a s ih =>
      by_cases h : a = 58
      · exact .inl ⟨[], s, by rw [h]; rfl, by simp⟩
      · rcases ih with ⟨w, r, rfl, hw⟩ | hn
        · refine .inl ⟨a :: w, r, rfl, fun c hc => ?_⟩
          rcases List.mem_cons.1 hc with rfl | hc
          · exact h
          · exact hw c hc
        · refine .inr fun c hc => ?_
          rcases List.mem_cons.1 hc with rfl | hc
          · exact h
          · exact hn c hc
  rcases key with ⟨w, r, rfl, hw⟩ | hn
  · refine .inl ⟨w, r, rfl, hw, ?_⟩
    rw [Lib.cut, index_word w r hw, if_pos (by omega)]
    simp
  · refine .inr ⟨hn, ?_⟩
    rw [Lib.cut, index_nowhere s hn, if_neg (by omega)]
theorem split_word (w r : List UInt8) (h : ∀ c ∈ w, c ≠ 58) : splitL (isAt ⟨#[58]⟩) (w ++ 58 :: r) = w :: splitL (isAt ⟨#[58]⟩) r := by
  induction w with
  | nil => rw [List.nil_append, splitL, if_pos (by rw [at_colon]; decide)]
  | cons a w ih => rw [List.cons_append, splitL, if_neg (by rw [at_colon]; simpa using h a (by simp)), ih fun c hc => h c (by simp [hc])]
theorem split_one (w : List UInt8) (h : ∀ c ∈ w, c ≠ 58) : splitL (isAt ⟨#[58]⟩) w = [w] := by
  induction w with
  | nil => rfl
  | cons a w ih => rw [splitL, if_neg (by rw [at_colon]; simpa using h a (by simp)), ih fun c hc => h c (by simp [hc])]
theorem dcol_one (w : List UInt8) (h : ∀ c ∈ w, c ≠ 58) : dcol w = none := by
  induction w with
  | nil => rfl
  | cons a w ih => rw [dcol, if_neg (fun hh => h a (by simp) hh.1), ih fun c hc => h c (by simp [hc])]; rfl
theorem dcol_word (w r : List UInt8) (h : ∀ c ∈ w, c ≠ 58) : dcol (w ++ 58 :: r) = if r.head? = some 58 then some (w, r.tail) else (dcol r).map fun p => (w ++ 58 :: p.1, p.2) := by
  induction w with
  | nil =>
    rw [List.nil_append, dcol]
    by_cases hr : r.head? = some 58
    · rw [if_pos ⟨rfl, hr⟩, if_pos hr]
    · rw [if_neg (fun hh => hr hh.2), if_neg hr]
      rfl
  | cons a w ih =>
    rw [List.cons_append, dcol, if_neg (fun hh => h a (by simp) hh.1), ih fun c hc => h c (by simp [hc])]
    by_cases hr : r.head? = some 58
    · rw [if_pos hr, if_pos hr]; rfl
    · rw [if_neg hr, if_neg hr, Option.map_map]
      rfl
theorem list_empty (last : Bool) (ws : List (List UInt8)) : listW last ([] :: ws) = none := by
  rw [listW, if_neg (fun h => absurd h.1 (by decide))]
  rfl
theorem list_more (last : Bool) (w : List UInt8) (ws : List (List UInt8)) (h : ws ≠ []) : listW last (w :: ws) = match pieceL w with
    | none => none
    | some x => (listW last ws).map (x :: ·) := by
  rw [listW, if_neg (fun hh => h hh.2.2)]
theorem bind_over (o : Option (List Int)) (p : List Int) (g : Int) (h : 8 < p.length) : (o.bind fun q => if 8 < (p ++ q).length then none else some (p ++ q, g)) = none := by
  cases o with
  | none => rfl
  | some q => exact if_pos (by simp; omega)
theorem bind_map (o : Option (List Int)) (p : List Int) (x g : Int) : ((o.map (x :: ·)).bind fun q => if 8 < (p ++ q).length then none else some (p ++ q, g)) = o.bind fun q => if 8 < ((p ++ [x]) ++ q).length then none else some ((p ++ [x]) ++ q, g) := by
  cases o <;> simp
theorem runL_step (n : Nat) (rest : List UInt8) (p : List Int) (gap : Int) : runL (n + 1) rest p gap false = match stepL rest p gap with
    | none => none
    | some (r', p', g', e') => if 8 < p'.length then none else runL n r' p' g' e' := rfl
theorem runL_end (n : Nat) (rest : List UInt8) (p : List Int) (gap : Int) : runL n rest p gap true = some (p, gap) := by cases n <;> rfl
/-- One word alone. -/
theorem run_last (n : Nat) (rest : List UInt8) (p : List Int) (gap : Int) (hn : ∀ c ∈ rest, c ≠ 58) (hc : Lib.cut rest [58] = (rest, [], false)) : runL (n + 1) rest p gap false = (listW true (splitL (isAt ⟨#[58]⟩) rest)).bind fun q => if 8 < (p ++ q).length then none else some (p ++ q, gap) := by
  have hp : Lib.hasPrefix rest [58] = false := by
    rw [pre_colon, decide_eq_false_iff_not]
    intro h
    rcases rest with _ | ⟨a, r⟩
    · cases h
    · exact hn a (by simp) (Option.some.inj h)
  rw [runL_step, stepL, if_neg (by rw [hp]; decide), hc, stepW, split_one rest hn]
  by_cases hs : strictOk rest = true
  · rw [if_pos ⟨hs, rfl⟩, listW, if_pos ⟨hs, rfl, rfl⟩]
    simp only [runL_end]
    rfl
  · rw [if_neg (fun h => hs h.1), listW, if_neg (fun h => hs h.1)]
    cases pieceL rest with
    | none => rfl
    | some x =>
      simp only [Bool.false_eq_true, false_and, if_false, Bool.not_false, runL_end]
      rfl
/-- Behind the gap. -/
theorem run_gap : ∀ (n : Nat) (rest : List UInt8) (p : List Int) (gap : Int), 0 ≤ gap → rest ≠ [] → rest.length < n → runL n rest p gap false = (listW true (splitL (isAt ⟨#[58]⟩) rest)).bind fun q => if 8 < (p ++ q).length then none else some (p ++ q, gap)
  | 0, _, _, _, _, _, h => absurd h (by omega)
  | n + 1, rest, p, gap, hg, hne, hl => by
    rcases cut_spec rest with ⟨w, r, rfl, hw, hc⟩ | ⟨hn, hc⟩
    · rw [runL_step, stepL, pre_colon, hc]
      rcases w with _ | ⟨a, w⟩
      · rw [if_pos (by simp), if_pos hg, split_word _ _ hw, list_empty]
        rfl
      · rw [if_neg (by simpa using hw a (by simp)), stepW, if_neg (by simp), split_word _ _ hw, list_more _ _ _ (splitL_ne _ _)]
        simp only
        cases pieceL (a :: w) with
        | none => rfl
        | some x =>
          simp only [true_and]
          by_cases hr : r = []
          · subst hr
            rw [if_pos rfl]
            simp only [splitL, list_empty]
            rfl
          · rw [if_neg hr]
            simp only [Bool.not_true]
            rw [bind_map]
            by_cases h8 : 8 < (p ++ [x]).length
            · rw [if_pos h8, bind_over _ _ _ h8]
            · rw [if_neg h8]
              exact run_gap n r (p ++ [x]) gap hg hr (by simp at hl; omega)
    · exact run_last n rest p gap hn hc
/-- What a run says as long as no gap is met. -/
def startR (rest : List UInt8) (p : List Int) : Option (List Int × Int) := match dcol rest with
  | none => (listW true (splitL (isAt ⟨#[58]⟩) rest)).bind fun q => if 8 < (p ++ q).length then none else some (p ++ q, -1)
  | some (l, r) => (listW false (splitL (isAt ⟨#[58]⟩) l)).bind fun a => (listD true r).bind fun b => if 8 < (p ++ (a ++ b)).length then none else some (p ++ (a ++ b), ((p ++ a).length : Int))
theorem start_over (rest : List UInt8) (p : List Int) (h : 8 < p.length) : startR rest p = none := by
  rw [startR]
  cases dcol rest with
  | none => exact bind_over _ _ _ h
  | some lr =>
    simp only
    cases listW false (splitL (isAt ⟨#[58]⟩) lr.1) with
    | none => rfl
    | some a => cases listD true lr.2 with
      | none => rfl
      | some b => exact if_pos (by simp; omega)
theorem start_more (w r : List UInt8) (p : List Int) (hw : ∀ c ∈ w, c ≠ 58) (hr : r.head? ≠ some 58) : startR (w ++ 58 :: r) p = match pieceL w with
    | none => none
    | some x => startR r (p ++ [x]) := by
  unfold startR
  rw [dcol_word w r hw, if_neg hr]
  cases dcol r with
  | none =>
    rw [Option.map_none]
    simp only
    rw [split_word w r hw, list_more _ _ _ (splitL_ne _ _)]
    cases pieceL w with
    | none => rfl
    | some x => exact bind_map _ _ _ _
  | some lr =>
    rw [Option.map_some]
    simp only
    rw [split_word w lr.1 hw, list_more _ _ _ (splitL_ne _ _)]
    cases pieceL w with
    | none => rfl
    | some x => cases listW false (splitL (isAt ⟨#[58]⟩) lr.1) with
      | none => rfl
      | some a => cases listD true lr.2 with
        | none => rfl
        | some b =>
          simp only [Option.bind_some, Option.map_some]
          rw [show p ++ (x :: a ++ b) = p ++ [x] ++ (a ++ b) by simp, show p ++ x :: a = p ++ [x] ++ a by simp]
theorem run_start : ∀ (n : Nat) (rest : List UInt8) (p : List Int), rest.head? ≠ some 58 → rest.length < n → runL n rest p (-1) false = startR rest p
  | 0, _, _, _, h => absurd h (by omega)
  | n + 1, rest, p, hh, hl => by
    rcases cut_spec rest with ⟨w, r, rfl, hw, hc⟩ | ⟨hn, hc⟩
    · have hl' : r.length < n := by simp at hl; omega
      rw [runL_step, stepL, pre_colon, hc, if_neg (by simpa using hh), stepW, if_neg (by simp)]
      simp only [true_and, Bool.not_true]
      by_cases hr : r.head? = some 58
      · rcases r with _ | ⟨a, t⟩
        · cases hr
        · obtain rfl := Option.some.inj hr
          rw [startR, dcol_word w _ hw, if_pos hr]
          simp only [List.tail_cons]
          rw [split_one w hw, listW, if_neg (by simp)]
          cases pieceL w with
          | none => rfl
          | some x =>
            simp only
            rw [if_neg (by simp)]
            simp only [listW, Option.map_some, Option.bind_some]
            by_cases h8 : 8 < (p ++ [x]).length
            · rw [if_pos h8]
              cases listD true t with
              | none => rfl
              | some b => exact (if_pos (by simp at h8 ⊢; omega)).symm
            · rw [if_neg h8]
              obtain ⟨m, rfl⟩ : ∃ m, n = m + 1 := ⟨n - 1, by omega⟩
              rw [runL_step, stepL, pre_colon, if_pos (by simp), if_neg (by omega)]
              simp only [List.drop_succ_cons, List.drop_zero]
              rw [if_neg h8]
              rcases t with _ | ⟨c, t⟩
              · rw [List.isEmpty_nil, runL_end, listD, if_pos rfl]
                simp only [Option.bind_some, List.append_nil]
                rw [if_neg h8]
              · rw [List.isEmpty_cons, run_gap m (c :: t) _ _ (by omega) (by simp) (by simp at hl' ⊢; omega), listD, if_neg (by simp)]
                simp only [List.append_assoc]
      · rw [start_more w r p hw hr]
        cases pieceL w with
        | none => rfl
        | some x =>
          simp only
          by_cases h0 : r = []
          · subst h0
            rw [if_pos rfl]
            rfl
          · rw [if_neg h0]
            simp only
            by_cases h8 : 8 < (p ++ [x]).length
            · rw [if_pos h8, start_over _ _ h8]
            · rw [if_neg h8]
              exact run_start n r (p ++ [x]) hr hl'
    · rw [run_last n rest p (-1) hn hc, startR, dcol_one rest hn]
theorem dcol_ne (s a b : List UInt8) (hs : s.head? ≠ some 58) (h : dcol s = some (a, b)) : a ≠ [] := by
  rcases s with _ | ⟨c, r⟩
  · cases h
  · rw [dcol, if_neg (fun hh => hs (by rw [hh.1]; rfl))] at h
    cases hd : dcol r with
    | none => rw [hd] at h; cases h
    | some p =>
      rw [hd, Option.map_some, Option.some.injEq, Prod.mk.injEq] at h
      rw [← h.1]
      simp
/-- The reader's pieces are the document's. -/
theorem six_doc (s : List UInt8) : sixL s = docL s := by
  rw [sixL, startL, pre_colon]
  by_cases hs : s.head? = some 58
  · rw [if_pos (by simpa using hs)]
    rcases s with _ | ⟨a, r⟩
    · cases hs
    · obtain rfl := Option.some.inj hs
      by_cases hr : r.head? = some 58
      · rcases r with _ | ⟨b, t⟩
        · cases hr
        · obtain rfl := Option.some.inj hr
          rw [if_pos (by simp [Lib.hasPrefix]), docL, dcol, if_pos ⟨rfl, rfl⟩]
          simp only [List.drop_succ_cons, List.drop_zero, List.tail_cons]
          rw [runL_step, stepL, pre_colon, if_pos (by simp), if_neg (by omega)]
          simp only [List.drop_succ_cons, List.drop_zero, List.length_nil, Nat.not_lt_zero, if_false]
          rcases t with _ | ⟨c, t⟩
          · rfl
          · rw [List.isEmpty_cons, run_gap _ (c :: t) [] _ (by simp) (by simp) (by simp)]
            simp only [listD, List.nil_append, if_true, reduceCtorEq, if_false]
            cases listW true (splitL (isAt ⟨#[58]⟩) (c :: t)) with
            | none => rfl
            | some q =>
              simp only [Option.bind_some]
              by_cases h8 : 8 < q.length
              · rw [if_pos h8, if_neg (by omega)]
              · rw [if_neg h8]
                simp only [fillL]
                rw [if_neg (by simp)]
                by_cases h7 : q.length ≤ 7
                · rw [if_pos (by omega), if_pos (by simpa using h7)]
                  simp
                · rw [if_neg (by omega), if_neg (by simpa using h7)]
      · rw [if_neg (by
          rcases r with _ | ⟨b, t⟩
          · simp [Lib.hasPrefix]
          · have hb : b ≠ 58 := fun h => hr (by rw [h]; rfl)
            have hb2 : ¬ (58 : UInt8) = b := fun h => hb h.symm
            simp [Lib.hasPrefix, hb2])]
        rw [docL, dcol, if_neg (fun hh => hr hh.2)]
        have hsp : ∀ l, splitL (isAt ⟨#[58]⟩) (58 :: l) = [] :: splitL (isAt ⟨#[58]⟩) l := fun l => split_word [] l (by simp)
        cases dcol r with
        | none =>
          rw [Option.map_none]
          simp only [listD, reduceCtorEq, if_false, hsp, list_empty]
        | some p =>
          rw [Option.map_some]
          simp only [listD, reduceCtorEq, if_false, hsp, list_empty]
  · rw [if_neg (by simpa using hs)]
    simp only
    rw [run_start _ s [] hs (Nat.lt_succ_self _), startR, docL]
    rcases hd : dcol s with _ | ⟨a, b⟩
    · simp only [List.nil_append]
      rcases s with _ | ⟨c, t⟩
      · rfl
      · rw [listD, if_neg (by simp)]
        cases listW true (splitL (isAt ⟨#[58]⟩) (c :: t)) with
        | none => rfl
        | some q =>
          simp only [Option.bind_some]
          by_cases h8 : 8 < q.length
          · rw [if_pos h8, if_neg (by omega)]
          · rw [if_neg h8]
            simp only [fillL]
            rw [if_pos (by omega)]
    · have ha := dcol_ne s a b hs hd
      simp only [List.nil_append]
      rw [show listD false a = listW false (splitL (isAt ⟨#[58]⟩) a) from if_neg ha]
      cases listW false (splitL (isAt ⟨#[58]⟩) a) with
      | none => rfl
      | some l => cases listD true b with
        | none => rfl
        | some r =>
          simp only [Option.bind_some]
          by_cases h8 : 8 < (l ++ r).length
          · rw [if_pos h8, if_neg (by simp at h8; omega)]
          · rw [if_neg h8]
            simp only [fillL]
            rw [if_neg (by omega)]
            by_cases h7 : l.length + r.length ≤ 7
            · rw [if_pos (by simp; omega), if_pos h7]
              simp
            · rw [if_neg (by simp; omega), if_neg h7]
end Go.Proofs.YtplehdcnnaamkaaGreatDoor

/- The document's piece and list of an address of eight pieces. -/
namespace Go.Proofs.YtplehdcnnaamkaaGreatDoor
open Go.RowKit Go.Proofs.YtplehdcnnaamkaaGreatDoorW.PrintWords Go.Proofs.YtplehdcnnaamkaaGreatDoorW.PrintMore

theorem listW_bd (last : Bool) : ∀ (P : List (List UInt8)) (l : List Int), listW last P = some l → ∀ x ∈ l, 0 ≤ x ∧ x ≤ 65535
  | [], l, h => by
    obtain rfl := Option.some.inj h
    simp
  | w :: ws, l, h => by
    rw [listW] at h
    split at h
    · obtain rfl := Option.some.inj h
      have hb : 0 ≤ strictN w ∧ strictN w < 4294967296 := by
        rcases strict_val w with ⟨_, _, h3⟩ | ⟨n, hn, _, _, h3, _⟩ <;> rw [h3] <;> omega
      intro x hx
      simp at hx
      rcases hx with rfl | rfl <;> omega
    · split at h
      · cases h
      · rename_i x hx
        cases hl : listW last ws with
        | none => rw [hl] at h; cases h
        | some q =>
          rw [hl] at h
          obtain rfl := Option.some.inj h
          intro y hy
          rcases List.mem_cons.1 hy with rfl | hy
          · exact piece_bd _ _ hx
          · exact listW_bd last ws q hl y hy
theorem listD_bd (last : Bool) (s : List UInt8) (l : List Int) (h : listD last s = some l) : ∀ x ∈ l, 0 ≤ x ∧ x ≤ 65535 := by
  rw [listD] at h
  split at h
  · obtain rfl := Option.some.inj h
    simp
  · exact listW_bd last _ l h

end Go.Proofs.YtplehdcnnaamkaaGreatDoor

/- six.Of: any pieces. -/
namespace Go.Proofs.YtplehdcnnaamkaaGreatDoor
open Go.RowKit Go.Proofs.YtplehdcnnaamkaaGreatDoorW.PrintWords Go.Proofs.YtplehdcnnaamkaaGreatDoorW.PrintMore

def eight (xs : List Int) : List Int := (xs ++ List.replicate 8 0).take 8
def u16s (xs : List Int) : List Value := xs.map fun x => Value.int .u16 x

theorem u16s_length (xs : List Int) : (u16s xs).length = xs.length := by simp [u16s]
theorem u16s_one (xs : List Int) : ∀ v ∈ u16s xs, v.oneCell' = true := by
  intro v hv
  obtain ⟨x, _, rfl⟩ := List.mem_map.1 hv
  rfl
/-- Numbers copied into a row of eight that lies above. -/
theorem copy8 (W : World) (B g : Nat) (hBg : B ≤ g) (A : Option Addr) (c : Nat) (xs : List Int) (hg : W.heap[g]? = some (.cells (u16s (List.replicate 8 0)).toArray 103 (0, 0)))
    (hA : 0 < xs.length → ∃ ad, A = some ad ∧ ∀ j v, (u16s xs)[j]? = some v → W.cell? (ad.add j) = some v) :
    ∃ W' : World, (Builtin.copy_ #[152, 152] 3 #[.slice (some ⟨g, 0, none⟩) 8 8, .slice A xs.length c]).run Tryz.prog W = .ok (goInt (Nat.min xs.length 8)) W' ∧ W'.heap[g]? = some (.cells (u16s (eight xs)).toArray 103 (0, 0)) ∧ (∀ k, k ≠ g → W'.heap[k]? = W.heap[k]?) ∧ W'.heap.size = W.heap.size ∧ Below B W W' := by
  rcases Nat.eq_zero_or_pos xs.length with h0 | hpos
  · refine ⟨W, ?_, ?_, fun _ _ => rfl, rfl, Below.refl _ _⟩
    · rw [run_copy_none W _ _ _ 102 _ A 8 8 xs.length c Tryz.underlying152 (by kernel_rfl) (by rw [h0]; rfl), h0]
      rfl
    · rw [hg, List.eq_nil_of_length_eq_zero h0]
      rfl
  · obtain ⟨ad, rfl, hc⟩ := hA hpos
    have hlen : (u16s (xs.take 8)).length = Nat.min xs.length 8 := by rw [u16s_length, List.length_take, Nat.min_comm]
    have hle : Nat.min xs.length 8 ≤ 8 := Nat.min_le_right _ _
    have hrun := run_copy_row Tryz.prog W 152 152 3 102 g 0 8 8 ad xs.length c _ 103 (u16s (xs.take 8)) Tryz.underlying152 (by kernel_rfl) hg hlen
      (fun j v hv => hc j v (by
        have : (u16s (xs.take 8)) = (u16s xs).take 8 := by simp [u16s, List.map_take]
        rw [this, List.getElem?_take] at hv
        split at hv
        · exact hv
        · cases hv))
      (by rw [hlen, Nat.zero_add]; exact hle) (u16s_one _)
    refine ⟨_, by rw [hrun, hlen], ?_, fun k hk => setRow_other W g k _ hk, by simp [World.setRow], below_setRow (Below.refl _ _) hBg _⟩
    have key : (u16s (List.replicate 8 0)).toArray.toList.take 0 ++ u16s (xs.take 8) ++ (u16s (List.replicate 8 0)).toArray.toList.drop (0 + (u16s (xs.take 8)).length) = u16s (eight xs) := by
      have e : (xs ++ List.replicate 8 (0 : Int)).take 8 = xs.take 8 ++ List.replicate (8 - xs.length) 0 := by
        rw [List.take_append, List.take_replicate, show min (8 - xs.length) 8 = 8 - xs.length by omega]
      have hl8 : (u16s (xs.take 8)).length = min 8 xs.length := by rw [u16s_length, List.length_take]
      rw [eight, e, hl8]
      simp only [u16s, List.map_append, List.map_replicate, List.take_zero, List.nil_append, List.drop_replicate, Nat.zero_add]
      rw [show 8 - min 8 xs.length = 8 - xs.length by omega]
    rw [hlen] at key
    rw [setRow_heap W g _ _ _ _ hg, key]

set_option maxHeartbeats 2000000 in
set_option maxRecDepth 100000 in
theorem SixOf_calls (A : Option Addr) (c : Nat) (xs : List Int) (w : World) (_hn : xs.length ≤ c) (hb : ∀ x ∈ xs, 0 ≤ x ∧ x ≤ 65535)
    (hA : 0 < xs.length → ∃ ad, A = some ad ∧ ∀ j v, (u16s xs)[j]? = some v → w.cell? (ad.add j) = some v) :
    Calls Tryz.prog 90 #[.slice A xs.length c] w fun e w' => e = .returned (.agg #[.int .u64 (half ((eight xs).take 4)), .int .u64 (half ((eight xs).drop 4))]) ∧ Below w.heap.size w w' := by
  obtain ⟨W', hcp, hg', ho', hs', hb'⟩ := copy8 ((w.alloc (.cells #[.int .u64 0, .int .u64 0] 34)).alloc (.cells #[.int .u16 0, .int .u16 0, .int .u16 0, .int .u16 0, .int .u16 0, .int .u16 0, .int .u16 0, .int .u16 0] 103)) w.heap.size (w.heap.size + 1) (by omega) A c xs (by exact heap_alloc_new' _ _ _ (by simp)) (fun h => by
    obtain ⟨ad, e, hc⟩ := hA h
    refine ⟨ad, e, fun j v hv => ?_⟩
    have h1 := hc j v hv
    have hlt := cell_lt h1
    rw [World.cell?_alloc_lt _ _ _ (by simp; omega), World.cell?_alloc_lt _ _ _ hlt]
    exact h1)
  obtain ⟨y0, y1, y2, y3, y4, y5, y6, y7, hy⟩ : ∃ y0 y1 y2 y3 y4 y5 y6 y7, eight xs = [y0, y1, y2, y3, y4, y5, y6, y7] := by
    have : (eight xs).length = 8 := by simp [eight]
    rcases h : eight xs with _ | ⟨a, _ | ⟨b, _ | ⟨c, _ | ⟨d, _ | ⟨e, _ | ⟨f, _ | ⟨g, _ | ⟨i, _ | ⟨j, l⟩⟩⟩⟩⟩⟩⟩⟩⟩ <;> rw [h] at this <;> simp at this
    exact ⟨_, _, _, _, _, _, _, _, rfl⟩
  have hyb : ∀ y ∈ eight xs, 0 ≤ y ∧ y ≤ 65535 := by
    intro y hy
    rcases List.mem_append.1 (List.mem_of_mem_take hy) with h | h
    · exact hb y h
    · rw [(List.mem_replicate.1 h).2]
      omega
  rw [hy] at hyb hg' ⊢
  have k0 := hyb y0 (by simp)
  have k1 := hyb y1 (by simp)
  have k2 := hyb y2 (by simp)
  have k3 := hyb y3 (by simp)
  have k4 := hyb y4 (by simp)
  have k5 := hyb y5 (by simp)
  have k6 := hyb y6 (by simp)
  have k7 := hyb y7 (by simp)
  have c0 : W'.cell? ⟨w.heap.size + 1, 0, none⟩ = some (.int .u16 y0) := (heap_cell (j := 0) hg' rfl).1
  have c1 : W'.cell? ⟨w.heap.size + 1, 1, none⟩ = some (.int .u16 y1) := (heap_cell (j := 1) hg' rfl).1
  have c2 : W'.cell? ⟨w.heap.size + 1, 2, none⟩ = some (.int .u16 y2) := (heap_cell (j := 2) hg' rfl).1
  have c3 : W'.cell? ⟨w.heap.size + 1, 3, none⟩ = some (.int .u16 y3) := (heap_cell (j := 3) hg' rfl).1
  have c4 : W'.cell? ⟨w.heap.size + 1, 4, none⟩ = some (.int .u16 y4) := (heap_cell (j := 4) hg' rfl).1
  have c5 : W'.cell? ⟨w.heap.size + 1, 5, none⟩ = some (.int .u16 y5) := (heap_cell (j := 5) hg' rfl).1
  have c6 : W'.cell? ⟨w.heap.size + 1, 6, none⟩ = some (.int .u16 y6) := (heap_cell (j := 6) hg' rfl).1
  have c7 : W'.cell? ⟨w.heap.size + 1, 7, none⟩ = some (.int .u16 y7) := (heap_cell (j := 7) hg' rfl).1
  have hr : W'.heap[w.heap.size]? = some (.cells #[.int .u64 0, .int .u64 0] 34 (0, 0)) := by
    rw [ho' _ (by omega), heap_alloc_old' _ _ _ (by simp)]
    exact heap_alloc_new' _ _ _ rfl
  have HR := Aside0.mk hr
  have HB : Aside0 (Below w.heap.size w W') := ⟨((((Below.refl _ _).alloc (Nat.le_refl _) _).alloc (by simp) _)).trans hb'⟩
  clear hr hb' hy hyb hg' ho' hA hb
  go_enter Tryz.func90, Tryz.ntmps90
  go_wp2_with fail
  refine (of_calls y0 y1 y2 y3 y4 y5 y6 y7 k0 k1 k2 k3 k4 k5 k6 k7 _).mono ?_
  rintro e w2 ⟨rfl, b2⟩
  have B2 := Aside0.mk (below_then HB.out HB.out.size b2)
  have hr2 : w2.heap[w.heap.size]? = some (.cells #[.int .u64 0, .int .u64 0] 34 (0, 0)) := (b2.block _ (by rw [hs']; simp; omega)).trans HR.out
  have r0 : w2.cell? ⟨w.heap.size, 0, none⟩ = some (.int .u64 0) := (heap_cell (j := 0) hr2 rfl).1
  have r1 : w2.cell? ⟨w.heap.size, 1, none⟩ = some (.int .u64 0) := (heap_cell (j := 1) hr2 rfl).1
  have g0 := (heap_cell (j := 0) hr2 rfl).2
  have g1 := (heap_cell (j := 1) hr2 rfl).2
  have h2 := Aside0.mk hr2
  clear hr2 b2
  go_wp2_with fail
  refine bodyPost_ret (results_cell_row rfl _ _ w.heap.size 34 _ (0, 0) _ rfl (heap_set1 _ (heap_set0 _ h2.out)) Tryz.underlying34 rfl (by kernel_rfl)) rfl ?_
  exact ⟨rfl, (B2.out.setCell (Nat.le_refl _) _).setCell (Nat.le_refl _) _⟩
end Go.Proofs.YtplehdcnnaamkaaGreatDoor

