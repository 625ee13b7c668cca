/- percent.at, Decode, Right. -/
import Derived.Test.YtfcnfkedoihpoaaDoorVal
namespace Go.Proofs.YtfcnfkedoihpoaaDoor
open Go.RowKit Go.Proofs.YtfcnfkedoihpoaaDoorW.PrintWords Go.Proofs.YtfcnfkedoihpoaaDoorW.PrintMore

/-- Do % and two digits stand at the head? -/
def threeL : List UInt8 → Bool
  | c :: a :: b :: _ => c == 37 && (decide (0 ≤ hexV (a.toNat : Int)) && decide (0 ≤ hexV (b.toNat : Int)))
  | _ => false
def valL : List UInt8 → Int
  | _ :: a :: b :: _ => 16 * hexV (a.toNat : Int) + hexV (b.toNat : Int)
  | _ => 0

theorem drop_byte (q : ByteArray) (j : Nat) (h : j < q.size) : q.data.toList.drop j = (q[j]'h) :: q.data.toList.drop (j + 1) := by
  rw [List.drop_eq_getElem_cons (by simpa using h)]
  rfl

theorem or_hex_fin : ∀ a : Fin 16, ∀ b : Fin 16, (Go.bits .or .i64 (wrap64 ((a.val : Int) * 16)) (b.val : Int)) % 256 = 16 * (a.val : Int) + (b.val : Int) := by decide +kernel
theorem or_hex (a b : Int) (ha : 0 ≤ a) (ha' : a ≤ 15) (hb : 0 ≤ b) (hb' : b ≤ 15) : (Go.bits .or .i64 (wrap64 (a * 16)) b) % 256 = 16 * a + b := by
  have := or_hex_fin ⟨a.toNat, by omega⟩ ⟨b.toNat, by omega⟩
  simp only [Int.toNat_of_nonneg ha, Int.toNat_of_nonneg hb] at this
  exact this

theorem three_at (t : ByteArray) (j : Nat) (h2 : j + 2 < t.size) (hc : (t[j]'(by omega)).toNat = 37) :
    threeL (t.data.toList.drop j) = (decide (0 ≤ hexV ((t[j+1]'(by omega)).toNat : Int)) && decide (0 ≤ hexV ((t[j+2]'h2).toNat : Int))) ∧ valL (t.data.toList.drop j) = 16 * hexV ((t[j+1]'(by omega)).toNat : Int) + hexV ((t[j+2]'h2).toNat : Int) := by
  rw [drop_byte t j (by omega), drop_byte t (j + 1) (by omega), drop_byte t (j + 2) h2]
  have : ((t[j]'(by omega)) == 37) = true := by
    rw [beq_iff_eq]
    exact UInt8.toNat_inj.1 hc
  simp [threeL, valL, this]
theorem three_short (t : ByteArray) (j : Nat) (h2 : ¬ j + 2 < t.size) : threeL (t.data.toList.drop j) = false := by
  have : (t.data.toList.drop j).length ≤ 2 := by rw [List.length_drop]; simp; omega
  rcases hl : t.data.toList.drop j with _ | ⟨a, _ | ⟨b, _ | ⟨c, r⟩⟩⟩
  · rfl
  · rfl
  · rfl
  · rw [hl] at this; simp at this
theorem three_not (t : ByteArray) (j : Nat) (hj : j < t.size) (hc : ¬ (t[j]'hj).toNat = 37) : threeL (t.data.toList.drop j) = false := by
  rw [drop_byte t j hj]
  have : ((t[j]'hj) == 37) = false := by
    rw [beq_eq_false_iff_ne]
    intro h
    rw [h] at hc
    exact hc rfl
  rcases t.data.toList.drop (j + 1) with _ | ⟨b, _ | ⟨c, r⟩⟩
  · rfl
  · rfl
  · simp [threeL, this]

set_option maxHeartbeats 1000000 in
theorem at_calls (t : ByteArray) (j : Nat) (hj : j < t.size) (hs : t.size ≤ 1000000) (w : World) :
    Calls Tryd.prog 33 #[.string t, .int .i64 j] w fun e w' => ∃ x : Int, e = .returned (.tuple #[.int .u8 x, .bool (threeL (t.data.toList.drop j))]) ∧ Aside0 (threeL (t.data.toList.drop j) = true → x = valL (t.data.toList.drop j)) ∧ Drawn0 w w' := by
  by_cases hc : (t[j]'hj).toNat = 37
  · by_cases h2 : j + 2 < t.size
    · have E3 := Lib.hid (three_at t j h2 hc)
      have hcb : (((t[j]'hj).toNat : Int) != 37) = false := by simp [hc]
      clear hc
      have hge : decide ((t.size : Int) ≤ (j : Int) + 2) = false := by simp; omega
      have i1 : IntKind.i64.wrap ((j : Int) + 1) = (j : Int) + 1 := IntWalk.i64_in _ (by omega)
      have i2 : IntKind.i64.wrap ((j : Int) + 2) = (j : Int) + 2 := IntWalk.i64_in _ (by omega)
      have p1 : 0 ≤ (j : Int) + 1 := by omega
      have p2 : 0 ≤ (j : Int) + 2 := by omega
      have p3 : (j : Int) + 1 < (t.size : Int) := by omega
      have p4 : (j : Int) + 2 < (t.size : Int) := by omega
      have n1 : ((j : Int) + 1).toNat = j + 1 := by omega
      have n2 : ((j : Int) + 2).toNat = j + 2 := by omega
      have b1 := (t[j+1]'(by omega)).toNat_lt
      have b2 := (t[j+2]'(by omega)).toNat_lt
      by_cases h0 : 0 ≤ hexV ((t[j+1]'(by omega)).toNat : Int)
      all_goals
        go_enter Tryd.func33, Tryd.ntmps33
        go_wp2_with fail
        go_quiet ((go_at_call 56; exact Calls.quiet_of_same ((Value_calls _ _).mono fun _ _ h => ⟨h.1, h.2.symm⟩)))
        go_wp2_with fail
        go_ret2
        refine ⟨_, ret_two rfl ?_, ⟨fun h3 => ?_⟩, by repeat (first | exact Drawn0.refl _ | apply Drawn0.step)⟩
        · rw [E3.out.1]; first | (simp [h0]; done) | (simp; omega)
        · rw [E3.out.2]
          rw [E3.out.1, Bool.and_eq_true, decide_eq_true_eq, decide_eq_true_eq] at h3
          exact or_hex _ _ h3.1 (hexV_bd _).2 h3.2 (hexV_bd _).2
    · have E3 := Lib.hid (three_short t j h2)
      have hcb : (((t[j]'hj).toNat : Int) != 37) = false := by simp [hc]
      clear hc
      have hge : decide ((t.size : Int) ≤ (j : Int) + 2) = true := by simp; omega
      go_enter Tryd.func33, Tryd.ntmps33
      go_wp2_with fail
      go_ret2
      exact ⟨_, ret_two rfl E3.out.symm, ⟨fun h3 => by rw [E3.out] at h3; cases h3⟩, Drawn0.refl _⟩
  · have E3 := Lib.hid (three_not t j hj hc)
    have hcb : (((t[j]'hj).toNat : Int) != 37) = true := by simp; omega
    clear hc
    go_enter Tryd.func33, Tryd.ntmps33
    go_wp2_with fail
    go_ret2
    exact ⟨_, ret_two rfl E3.out.symm, ⟨fun h3 => by rw [E3.out] at h3; cases h3⟩, Drawn0.refl _⟩

def decF : Nat → List UInt8 → List UInt8
  | 0, _ => []
  | _ + 1, [] => []
  | n + 1, c :: r => if threeL (c :: r) = true then UInt8.ofNat (valL (c :: r)).toNat :: decF n (r.drop 2) else c :: decF n r
/-- What was encoded. -/
def decL (l : List UInt8) : List UInt8 := decF l.length l
theorem decF_enough : ∀ (n m : Nat) (l : List UInt8), l.length ≤ n → l.length ≤ m → decF n l = decF m l
  | 0, 0, _, _, _ => rfl
  | 0, m + 1, l, h, _ => by
    obtain rfl : l = [] := List.length_eq_zero_iff.1 (by omega)
    rfl
  | n + 1, 0, l, _, h => by
    obtain rfl : l = [] := List.length_eq_zero_iff.1 (by omega)
    rfl
  | n + 1, m + 1, [], _, _ => rfl
  | n + 1, m + 1, c :: r, h, h' => by
    simp only [List.length_cons] at h h'
    have e1 : decF n (r.drop 2) = decF m (r.drop 2) := decF_enough n m _ (by rw [List.length_drop]; omega) (by rw [List.length_drop]; omega)
    have e2 : decF n r = decF m r := decF_enough n m _ (by omega) (by omega)
    simp only [decF, e1, e2]
theorem decL_three (l : List UInt8) (h : threeL l = true) : decL l = UInt8.ofNat (valL l).toNat :: decL (l.drop 3) := by
  rcases l with _ | ⟨c, r⟩
  · cases h
  · rw [decL, List.length_cons, decF, if_pos h, decL, show (c :: r).drop 3 = r.drop 2 from rfl, decF_enough r.length (r.drop 2).length _ (by rw [List.length_drop]; omega) (Nat.le_refl _)]
theorem decL_not (c : UInt8) (r : List UInt8) (h : threeL (c :: r) = false) : decL (c :: r) = c :: decL r := by
  rw [decL, List.length_cons, decF, if_neg (by rw [h]; decide), decL]
theorem valL_bd (l : List UInt8) (h : threeL l = true) : 0 ≤ valL l ∧ valL l ≤ 255 := by
  rcases l with _ | ⟨c, _ | ⟨a, _ | ⟨b, r⟩⟩⟩
  · cases h
  · cases h
  · cases h
  · simp only [threeL, Bool.and_eq_true, decide_eq_true_eq] at h
    have h1 := hexV_bd (a.toNat : Int)
    have h2 := hexV_bd (b.toNat : Int)
    simp only [valL]
    omega
theorem decL_nil : decL [] = [] := rfl

/-- Bytes as whole numbers. -/
def intsOf (l : List UInt8) : List Int := l.map fun b => (b.toNat : Int)
theorem intsOf_append (a b : List UInt8) : intsOf (a ++ b) = intsOf a ++ intsOf b := by simp [intsOf]
theorem strOf_ints (l : List UInt8) : strOfNums (intsOf l) = ⟨l.toArray⟩ := by
  have : l.map ((fun n : Int => UInt8.ofNat n.toNat) ∘ fun b : UInt8 => (b.toNat : Int)) = l := by
    conv => rhs; rw [← List.map_id l]
    refine List.map_congr_left fun b _ => ?_
    simp
  simp [strOfNums, intsOf, this]

set_option maxHeartbeats 1000000 in
theorem Decode_calls (t : ByteArray) (hs : t.size ≤ 1000000) (w : World) :
    Calls Tryd.prog 12 #[.string t] w fun e w' => e = .returned (.string ⟨(decL t.data.toList).toArray⟩) ∧ Below w.heap.size w w' := by
  go_enter Tryd.func12, Tryd.ntmps12
  go_wp2
  go_loopw [3, 4] (fun v i wr => ∃ (j : Nat) (l : List UInt8), i = .int .i64 j ∧ l.length ≤ j ∧ j ≤ t.size ∧ Aside0 (l ++ decL (t.data.toList.drop j) = decL t.data.toList) ∧ Aside0 (Kd.R (Kd.int .u8) 5 wr w.heap.size (fun _ => True) v (intsOf l)) ∧ Aside0 (Below w.heap.size w wr)) (fun _ i _ => t.size - (intOf i).toNat)
  case atStart => exact ⟨0, [], rfl, by simp, by omega, ⟨rfl⟩, ⟨Kd.R_nil _ _ _ _ _⟩, ⟨Below.refl _ _⟩⟩
  case round =>
    obtain ⟨j, l, rfl, hl, hj, hr, HO, HB⟩ := hrel
    by_cases hlt : j < t.size
    · go_wp2_with fail
      refine (at_calls t j hlt hs _).mono ?_
      rintro e w1 ⟨x, rfl, hx, hd⟩
      have HO1 := Aside0.mk (Kd.R_below HO.out hd.below)
      have HB1 := Aside0.mk (below_then HB.out HB.out.size hd.below)
      have hsz : w.heap.size ≤ w1.heap.size := HB1.out.size
      clear HO HB hd
      cases h3 : threeL (t.data.toList.drop j)
      · have hx2 := t[j].toNat_lt
        have H3 := Lib.hid h3
        clear h3 hx
        go_wp2_with ((with_reducible refine gate_builtin (b := .append) (xs := #[.tmp 25, .tmp 27]) rfl ?_); at_builtin; refine Kd.R_append (Kd.int .u8) (w0 := w) w.heap.size rfl (.tmp 25) (.tmp 27) 59 5 (.int .u8 0) 1 rfl Tryd.underlying59 info_u8 rfl (by decide) (by omega) u3 (intsOf l) (t[j].toNat : Int) [.int .u8 (t[j].toNat : Int)] (fun _ => True) (fun _ => False) rfl rfl ?aP (fun _ hk => hk.elim) ?aF ?aO ?aB ?aS ?aL ?_; (case aP => exact rfl); (case aF => exact fun _ _ => trivial); (case aO => exact HO1.out); (case aB => exact HB1.out); (case aS => omega); (case aL => rw [intsOf, List.length_map]; omega); intro v1 w1 ho hb hg _)
        refine ⟨⟨j + 1, l ++ [t[j]], by go_num, by simp; omega, by omega, ⟨?_⟩, ⟨by rw [intsOf_append]; exact ho⟩, ⟨hb⟩⟩, by simp [intOf]; omega⟩
        have h4 := H3.out
        rw [drop_byte t j hlt] at h4
        rw [← hr.out, drop_byte t j hlt, decL_not _ _ h4, List.append_assoc]
        rfl
      · have hv := valL_bd _ h3
        have hx1 := hx.out h3
        have hx2 : 0 ≤ x ∧ x ≤ 255 := by omega
        have hj3 : j + 2 < t.size := by
          rcases Nat.lt_or_ge (j + 2) t.size with h | h
          · exact h
          · rw [three_short t j (by omega)] at h3; cases h3
        have H3 := Lib.hid h3
        have HX := Lib.hid hx1
        clear h3 hx hx1 hv
        go_wp2_with ((with_reducible refine gate_builtin (b := .append) (xs := #[.tmp 25, .tmp 27]) rfl ?_); at_builtin; refine Kd.R_append (Kd.int .u8) (w0 := w) w.heap.size rfl (.tmp 25) (.tmp 27) 59 5 (.int .u8 0) 1 rfl Tryd.underlying59 info_u8 rfl (by decide) (by omega) u3 (intsOf l) x [.int .u8 x] (fun _ => True) (fun _ => False) rfl rfl ?aP (fun _ hk => hk.elim) ?aF ?aO ?aB ?aS ?aL ?_; (case aP => exact rfl); (case aF => exact fun _ _ => trivial); (case aO => exact HO1.out); (case aB => exact HB1.out); (case aS => omega); (case aL => rw [intsOf, List.length_map]; omega); intro v1 w1 ho hb hg _)
        refine ⟨⟨j + 3, l ++ [UInt8.ofNat x.toNat], by go_num, by simp; omega, by omega, ⟨?_⟩, ⟨?_⟩, ⟨hb⟩⟩, by simp [intOf]; omega⟩
        · rw [← hr.out, decL_three _ H3.out, HX.out, List.drop_drop, List.append_assoc]
          rfl
        · rw [intsOf_append]
          have : intsOf [UInt8.ofNat x.toNat] = [x] := by
            simp [intsOf]; omega
          rw [this]
          exact ho
    · have hcv := own_string (P := Tryd.prog) Tryd.underlying59 Tryd.underlying5 Tryd.underlying9 (Kd.own_of_R HO.out)
      go_wp2
      go_ret
      have he := hr.out
      rw [List.drop_of_length_le (by simp; omega), decL_nil, List.append_nil] at he
      exact ⟨ret_string (by rw [strOf_ints, he]), HB.out⟩
end Go.Proofs.YtfcnfkedoihpoaaDoor
