/- internal/strconv.formatBits at the bases 8 and 16. Printed by wip/mkbits.py. -/
import Derived.Test.YtajcndaealonbaaDoorTz
import Derived.Test.YtajcndaealonbaaDoorNumD
import Derived.Lib.ItoaWalk
import Derived.Laws.Bits64b
namespace Go.Proofs.YtajcndaealonbaaDoor
open Go.RowKit Go.Proofs.YtajcndaealonbaaDoorW.PrintWords Go.Proofs.YtajcndaealonbaaDoorW.PrintMore

def d36 : ByteArray := ⟨#[48, 49, 50, 51, 52, 53, 54, 55, 56, 57, 97, 98, 99, 100, 101, 102, 103, 104, 105, 106, 107, 108, 109, 110, 111, 112, 113, 114, 115, 116, 117, 118, 119, 120, 121, 122]⟩
theorem d36_fin : ∀ d : Fin 16, d36.data.toList.getD d.val 0 = hexCh d.val := by decide +kernel
theorem d36_at (d : Nat) (hd : d < 16) (h : d < d36.size) : d36[d]'h = hexCh d := by
  rw [Lib.getD_at d36 d h, d36_fin ⟨d, hd⟩]
theorem bound_pow (k x : Nat) (h : x * 8 ^ k < 18446744073709551616) (hx : 1 ≤ x) : k ≤ 21 := by
  rcases Nat.lt_or_ge 21 k with hk | hk
  · exfalso
    have h1 : 8 ^ 22 ≤ 8 ^ k := Nat.pow_le_pow_right (by omega) hk
    have h2 : 1 * 8 ^ k ≤ x * 8 ^ k := Nat.mul_le_mul_right _ hx
    have h3 : (8 : Nat) ^ 22 = 73786976294838206464 := by decide
    omega
  · exact hk
theorem range_put (G : Nat → UInt8) (c : UInt8) (m : Nat) (hm : m < 65) : c :: (List.range' (m + 1) (65 - (m + 1))).map G = (List.range' m (65 - m)).map (fun t => if t = m then c else G t) := by
  rw [show 65 - m = (65 - (m + 1)) + 1 by omega, List.range'_succ, List.map_cons, if_pos rfl]
  congr 1
  refine List.map_congr_left fun t ht => ?_
  rw [if_neg (by have := List.mem_range'_1.1 ht; omega)]

theorem mask8 (x : Nat) (hx : x < 18446744073709551616) : Go.bits .and .u64 (x : Int) 7 = ((x % 8 : Nat) : Int) := by
  have h := bits_and_u64_nat x 7 hx (by omega)
  have e : x &&& 7 = x % 8 := Nat.and_two_pow_sub_one_eq_mod x 3
  rw [e] at h
  exact h
theorem bound8 (x i : Nat) (hx : 8 ≤ x) (hi : i ≤ 64) (h : x * 8 ^ (65 - (i + 1)) < 18446744073709551616) : (x / 8) * 8 ^ (65 - i) < 18446744073709551616 := by
  rw [show 65 - i = (65 - (i + 1)) + 1 by omega, Nat.pow_succ]
  have h1 : (x / 8) * 8 ≤ x := Nat.div_mul_le_self x 8
  have h2 : (x / 8) * 8 ≤ x := by omega
  have h3 : (x / 8) * 8 * 8 ^ (65 - (i + 1)) ≤ x * 8 ^ (65 - (i + 1)) := Nat.mul_le_mul_right _ h2
  rw [show (x / 8) * (8 ^ (65 - (i + 1)) * 8) = (x / 8) * 8 * 8 ^ (65 - (i + 1)) by rw [Nat.mul_assoc, Nat.mul_comm (8 ^ _) 8]]
  omega

set_option maxHeartbeats 4000000 in
set_option maxRecDepth 100000 in
theorem Bits8_calls (u : Nat) (hu : u < 18446744073709551616) (w : World) (hT : Debr w) :
    Calls Tryd.prog 78 #[.slice none 0 0, .int .u64 u, .int .i64 8, .bool false, .bool false] w fun e w' => e = .returned (.tuple #[.slice none 0 0, .string ⟨(digB 8 u).toArray⟩]) ∧ Below w.heap.size w w' := by
  go_enter Tryd.func78, Tryd.ntmps78
  go_wp2_with fail
  refine (Pow2_calls _ (by omega) _).mono ?_
  rintro e w1 ⟨rfl, rfl⟩
  go_wp2_with fail
  refine (Tz_calls 8 3 (by omega) _ (hT.stays ?_)).mono ?_
  · exact (Below.refl _ _).alloc (Nat.le_refl _) _
  rintro e w1 ⟨rfl, rfl⟩
  go_wp2_with fail
  go_loopw [1, 13] (fun uu ii wr => ∃ (x i : Nat) (G : Nat → UInt8), uu = .int .u64 x ∧ ii = .int .i64 i ∧ i ≤ 65 ∧ x ≤ u ∧ (i = 65 ∨ 1 ≤ x) ∧ Aside0 (digB 8 u = digB 8 x ++ (List.range' i (65 - i)).map G) ∧ Aside0 (x * 8 ^ (65 - i) < 18446744073709551616) ∧ Aside0 (∀ t, t < 65 → wr.cell? ⟨w.heap.size, t, none⟩ = some (.int .u8 ((G t).toNat : Int)) ∧ wr.frozen? ⟨w.heap.size, t, none⟩ = false) ∧ Aside0 (Below w.heap.size w wr) ∧ w.heap.size < wr.heap.size) (fun uu _ _ => (intOf uu).toNat)
  case atStart =>
    refine ⟨u, 65, fun _ => 0, rfl, rfl, by omega, by omega, .inl rfl, ⟨by simp⟩, ⟨by simpa using hu⟩, ⟨fun t ht => ⟨?_, World.frozen?_alloc_new _ _ _ _⟩⟩, ⟨(Below.refl _ _).alloc (Nat.le_refl _) _⟩, by simp⟩
    rw [World.cell?_alloc_new]
    have : Tryd.zeroCells125 = Array.replicate 65 (.int .u8 0) := by rfl
    rw [this, Array.getElem?_replicate, if_pos ht]
    rfl
  case round =>
    obtain ⟨x, i, G, rfl, rfl, hi, hxu, hix, hr, hp, hC, HB, hsz⟩ := hrel
    have hx64 : x < 18446744073709551616 := by omega
    have hi1 : 1 ≤ i := by
      rcases hix with rfl | h
      · omega
      · have := bound_pow _ _ hp.out h
        omega
    obtain ⟨m, rfl⟩ : ∃ m, i = m + 1 := ⟨i - 1, by omega⟩
    have hc := (hC.out m (by omega)).1
    have hf := (hC.out m (by omega)).2
    by_cases hlt : 8 ≤ x
    · have hX : ∀ h, (ByteArray.mk #[48, 49, 50, 51, 52, 53, 54, 55, 56, 57, 97, 98, 99, 100, 101, 102, 103, 104, 105, 106, 107, 108, 109, 110, 111, 112, 113, 114, 115, 116, 117, 118, 119, 120, 121, 122])[x % 8]'h = hexCh (x % 8) := d36_at _ (by omega)
      have hM := mask8 x hx64
      go_wp2_with fail
      refine ⟨⟨x / 8, m, fun t => if t = m then hexCh (x % 8) else G t, by go_num, by go_num, by omega, by omega, .inr (by omega), ⟨?_⟩, ⟨bound8 x m hlt (by omega) hp.out⟩, ⟨fun t ht => ?_⟩, ⟨HB.out.setCell (by simp) _⟩, by simpa using hsz⟩, by simp [intOf]; omega⟩
      · rw [hr.out, digB_big (by omega) hlt, List.append_assoc, ← range_put G _ m (by omega)]
        rfl
      · by_cases htm : t = m
        · subst htm
          exact ⟨by rw [World.cell?_setCell_same _ _ _ hc]; simp, by rw [World.frozen?_setCell]; exact hf⟩
        · exact ⟨by rw [World.cell?_setCell_other _ _ _ _ (by simp; try omega)]; simp only [if_neg htm]; exact (hC.out t ht).1, by rw [World.frozen?_setCell]; exact (hC.out t ht).2⟩
    · have hX : ∀ h, (ByteArray.mk #[48, 49, 50, 51, 52, 53, 54, 55, 56, 57, 97, 98, 99, 100, 101, 102, 103, 104, 105, 106, 107, 108, 109, 110, 111, 112, 113, 114, 115, 116, 117, 118, 119, 120, 121, 122])[x]'h = hexCh x := d36_at _ (by omega)
      have hsl1 : ∀ W, (Instr.sliceAt 125 (.pointer (some ⟨w.heap.size, 0, none⟩)) (some (.int .i64 (m : Int))) none none).run Tryd.prog W = .ok (.slice (some ⟨w.heap.size, m, none⟩) (65 - m) (65 - m)) W := fun W => by
        rw [run_sliceAt_array_l W 125 ⟨w.heap.size, 0, none⟩ (by simp [Program.arrayLen, Program.elem, Tryd.underlying125]) .i64 (m : Int) (by omega) (by simp [Program.arrayLen, Tryd.underlying125]; omega)]
        go_simp
        try omega
      have hL : digB 8 u = (List.range' m (65 - m)).map (fun t => if t = m then hexCh x else G t) := by
        rw [hr.out, digB_small (by omega), ← range_put G _ m (by omega)]
        rfl
      have hcv : ∀ W : World, (∀ t, t < 65 → W.cell? ⟨w.heap.size, t, none⟩ = some (.int .u8 (((if t = m then hexCh x else G t)).toNat : Int))) → (convert 65 9 (.slice (some ⟨w.heap.size, m, none⟩) (65 - m) (65 - m))).run Tryd.prog W = .ok (.string ⟨(digB 8 u).toArray⟩) W := by
        intro W hW
        have h := run_convert_bytes_back (P := Tryd.prog) W 65 9 5 ⟨w.heap.size, m, none⟩ (65 - m) (digB 8 u) Tryd.underlying65 Tryd.underlying5 Tryd.underlying9 (fun j hj => by
          have hj' : j < 65 - m := by rw [hL] at hj; simpa using hj
          rw [Lib.add_plain, hW (m + j) (by omega)]
          congr 3
          simp only [hL, List.getElem_map, List.getElem_range', Nat.one_mul])
        rw [show (digB 8 u).length = 65 - m by rw [hL]; simp] at h
        exact h
      have hcv2 := hcv (wr.setCell ⟨w.heap.size, m, none⟩ (.int .u8 ((hexCh x).toNat : Int))) (fun t ht => by
        by_cases htm : t = m
        · subst htm
          rw [World.cell?_setCell_same _ _ _ hc, if_pos rfl]
        · rw [World.cell?_setCell_other _ _ _ _ (by simp; try omega), if_neg htm]; exact (hC.out t ht).1)
      clear hcv hL
      go_wp2_with fail
      go_ret2
      exact ⟨rfl, HB.out.setCell (by simp) _⟩

theorem mask16 (x : Nat) (hx : x < 18446744073709551616) : Go.bits .and .u64 (x : Int) 15 = ((x % 16 : Nat) : Int) := by
  have h := bits_and_u64_nat x 15 hx (by omega)
  have e : x &&& 15 = x % 16 := Nat.and_two_pow_sub_one_eq_mod x 4
  rw [e] at h
  exact h
theorem bound16 (x i : Nat) (hx : 16 ≤ x) (hi : i ≤ 64) (h : x * 8 ^ (65 - (i + 1)) < 18446744073709551616) : (x / 16) * 8 ^ (65 - i) < 18446744073709551616 := by
  rw [show 65 - i = (65 - (i + 1)) + 1 by omega, Nat.pow_succ]
  have h1 : (x / 16) * 16 ≤ x := Nat.div_mul_le_self x 16
  have h2 : (x / 16) * 8 ≤ x := by omega
  have h3 : (x / 16) * 8 * 8 ^ (65 - (i + 1)) ≤ x * 8 ^ (65 - (i + 1)) := Nat.mul_le_mul_right _ h2
  rw [show (x / 16) * (8 ^ (65 - (i + 1)) * 8) = (x / 16) * 8 * 8 ^ (65 - (i + 1)) by rw [Nat.mul_assoc, Nat.mul_comm (8 ^ _) 8]]
  omega

set_option maxHeartbeats 4000000 in
set_option maxRecDepth 100000 in
theorem Bits16_calls (u : Nat) (hu : u < 18446744073709551616) (w : World) (hT : Debr w) :
    Calls Tryd.prog 78 #[.slice none 0 0, .int .u64 u, .int .i64 16, .bool false, .bool false] w fun e w' => e = .returned (.tuple #[.slice none 0 0, .string ⟨(digB 16 u).toArray⟩]) ∧ Below w.heap.size w w' := by
  go_enter Tryd.func78, Tryd.ntmps78
  go_wp2_with fail
  refine (Pow2_calls _ (by omega) _).mono ?_
  rintro e w1 ⟨rfl, rfl⟩
  go_wp2_with fail
  refine (Tz_calls 16 4 (by omega) _ (hT.stays ?_)).mono ?_
  · exact (Below.refl _ _).alloc (Nat.le_refl _) _
  rintro e w1 ⟨rfl, rfl⟩
  go_wp2_with fail
  go_loopw [1, 13] (fun uu ii wr => ∃ (x i : Nat) (G : Nat → UInt8), uu = .int .u64 x ∧ ii = .int .i64 i ∧ i ≤ 65 ∧ x ≤ u ∧ (i = 65 ∨ 1 ≤ x) ∧ Aside0 (digB 16 u = digB 16 x ++ (List.range' i (65 - i)).map G) ∧ Aside0 (x * 8 ^ (65 - i) < 18446744073709551616) ∧ Aside0 (∀ t, t < 65 → wr.cell? ⟨w.heap.size, t, none⟩ = some (.int .u8 ((G t).toNat : Int)) ∧ wr.frozen? ⟨w.heap.size, t, none⟩ = false) ∧ Aside0 (Below w.heap.size w wr) ∧ w.heap.size < wr.heap.size) (fun uu _ _ => (intOf uu).toNat)
  case atStart =>
    refine ⟨u, 65, fun _ => 0, rfl, rfl, by omega, by omega, .inl rfl, ⟨by simp⟩, ⟨by simpa using hu⟩, ⟨fun t ht => ⟨?_, World.frozen?_alloc_new _ _ _ _⟩⟩, ⟨(Below.refl _ _).alloc (Nat.le_refl _) _⟩, by simp⟩
    rw [World.cell?_alloc_new]
    have : Tryd.zeroCells125 = Array.replicate 65 (.int .u8 0) := by rfl
    rw [this, Array.getElem?_replicate, if_pos ht]
    rfl
  case round =>
    obtain ⟨x, i, G, rfl, rfl, hi, hxu, hix, hr, hp, hC, HB, hsz⟩ := hrel
    have hx64 : x < 18446744073709551616 := by omega
    have hi1 : 1 ≤ i := by
      rcases hix with rfl | h
      · omega
      · have := bound_pow _ _ hp.out h
        omega
    obtain ⟨m, rfl⟩ : ∃ m, i = m + 1 := ⟨i - 1, by omega⟩
    have hc := (hC.out m (by omega)).1
    have hf := (hC.out m (by omega)).2
    by_cases hlt : 16 ≤ x
    · have hX : ∀ h, (ByteArray.mk #[48, 49, 50, 51, 52, 53, 54, 55, 56, 57, 97, 98, 99, 100, 101, 102, 103, 104, 105, 106, 107, 108, 109, 110, 111, 112, 113, 114, 115, 116, 117, 118, 119, 120, 121, 122])[x % 16]'h = hexCh (x % 16) := d36_at _ (by omega)
      have hM := mask16 x hx64
      go_wp2_with fail
      refine ⟨⟨x / 16, m, fun t => if t = m then hexCh (x % 16) else G t, by go_num, by go_num, by omega, by omega, .inr (by omega), ⟨?_⟩, ⟨bound16 x m hlt (by omega) hp.out⟩, ⟨fun t ht => ?_⟩, ⟨HB.out.setCell (by simp) _⟩, by simpa using hsz⟩, by simp [intOf]; omega⟩
      · rw [hr.out, digB_big (by omega) hlt, List.append_assoc, ← range_put G _ m (by omega)]
        rfl
      · by_cases htm : t = m
        · subst htm
          exact ⟨by rw [World.cell?_setCell_same _ _ _ hc]; simp, by rw [World.frozen?_setCell]; exact hf⟩
        · exact ⟨by rw [World.cell?_setCell_other _ _ _ _ (by simp; try omega)]; simp only [if_neg htm]; exact (hC.out t ht).1, by rw [World.frozen?_setCell]; exact (hC.out t ht).2⟩
    · have hX : ∀ h, (ByteArray.mk #[48, 49, 50, 51, 52, 53, 54, 55, 56, 57, 97, 98, 99, 100, 101, 102, 103, 104, 105, 106, 107, 108, 109, 110, 111, 112, 113, 114, 115, 116, 117, 118, 119, 120, 121, 122])[x]'h = hexCh x := d36_at _ (by omega)
      have hsl1 : ∀ W, (Instr.sliceAt 125 (.pointer (some ⟨w.heap.size, 0, none⟩)) (some (.int .i64 (m : Int))) none none).run Tryd.prog W = .ok (.slice (some ⟨w.heap.size, m, none⟩) (65 - m) (65 - m)) W := fun W => by
        rw [run_sliceAt_array_l W 125 ⟨w.heap.size, 0, none⟩ (by simp [Program.arrayLen, Program.elem, Tryd.underlying125]) .i64 (m : Int) (by omega) (by simp [Program.arrayLen, Tryd.underlying125]; omega)]
        go_simp
        try omega
      have hL : digB 16 u = (List.range' m (65 - m)).map (fun t => if t = m then hexCh x else G t) := by
        rw [hr.out, digB_small (by omega), ← range_put G _ m (by omega)]
        rfl
      have hcv : ∀ W : World, (∀ t, t < 65 → W.cell? ⟨w.heap.size, t, none⟩ = some (.int .u8 (((if t = m then hexCh x else G t)).toNat : Int))) → (convert 65 9 (.slice (some ⟨w.heap.size, m, none⟩) (65 - m) (65 - m))).run Tryd.prog W = .ok (.string ⟨(digB 16 u).toArray⟩) W := by
        intro W hW
        have h := run_convert_bytes_back (P := Tryd.prog) W 65 9 5 ⟨w.heap.size, m, none⟩ (65 - m) (digB 16 u) Tryd.underlying65 Tryd.underlying5 Tryd.underlying9 (fun j hj => by
          have hj' : j < 65 - m := by rw [hL] at hj; simpa using hj
          rw [Lib.add_plain, hW (m + j) (by omega)]
          congr 3
          simp only [hL, List.getElem_map, List.getElem_range', Nat.one_mul])
        rw [show (digB 16 u).length = 65 - m by rw [hL]; simp] at h
        exact h
      have hcv2 := hcv (wr.setCell ⟨w.heap.size, m, none⟩ (.int .u8 ((hexCh x).toNat : Int))) (fun t ht => by
        by_cases htm : t = m
        · subst htm
          rw [World.cell?_setCell_same _ _ _ hc, if_pos rfl]
        · rw [World.cell?_setCell_other _ _ _ _ (by simp; try omega), if_neg htm]; exact (hC.out t ht).1)
      clear hcv hL
      go_wp2_with fail
      go_ret2
      exact ⟨rfl, HB.out.setCell (by simp) _⟩
end Go.Proofs.YtajcndaealonbaaDoor
