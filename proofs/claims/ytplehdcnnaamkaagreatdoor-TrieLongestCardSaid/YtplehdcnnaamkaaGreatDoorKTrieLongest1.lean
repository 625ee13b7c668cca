/- Texts that the claim's row leans on, joined by wip/pack.py: Dec NumP Num1 Six4 Sh Split Ends EndsP DecP FourP Four1 NumD FourQ Decim Scal Pct Byte ShelfB Text Enc Awake AwN Strict Laid -/
import Derived.Test.YtplehdcnnaamkaaGreatDoorKTrieLongest0
import Derived.Lib.Strings
import Derived.Shelf.Strings.Builder1
import Derived.Shelf.Strings.Builder2
import Derived.Shelf.Strings.OnBuilder
import Derived.Shelf.Small.Utf8
import Derived.Shelf.Small.Strs
import Derived.Shelf.Strings.BuilderF
import Derived.Shelf.Strings.BuilderK
import Derived.Shelf.Strings.BuilderRune
import Derived.Shelf.Strconv.Atoi
import Derived.Shelf.Strconv.Itoa0
import Derived.Shelf.Strconv.Itoa1
import Derived.Shelf.LaysM
import Derived.Shelf.Strconv.Itoa2
import Derived.Shelf.Strconv.Itoa3
import Derived.Shelf.Strconv.AtoiErrFast
import Derived.Shelf.Strconv.ParseIntEmpty
import Derived.Shelf.Strconv.AtoiFail
import Derived.Shelf.Strconv.Clone
import Derived.Shelf.Strconv.SyntaxError
import Derived.Shelf.LaysC
import Derived.Shelf.Strconv.ToError
import Derived.Shelf.Strconv.Lower
import Derived.Shelf.Strconv.ParseUint10
import Derived.Shelf.Strconv.ParseUint10Empty
import Derived.Shelf.Strconv.ParseUint10Any
import Derived.Shelf.Strconv.ParseInt10
import Derived.Shelf.Strconv.AtoiLong
import Derived.Shelf.Strconv.AtoiInnerAll
import Derived.Shelf.Strconv.RangeError
import Derived.Shelf.Strconv.ToErrorRange
import Derived.Shelf.Strconv.AtoiAll
import Derived.Shelf.Strings.Search1
import Derived.Shelf.Strings.Search2
import Derived.Shelf.Strings.Cut
import Derived.Shelf.Strings.Shaped
import Derived.Shelf.Strings.Prefix
import Derived.Shelf.Unicode.Latin
import Derived.Shelf.Bits.Mul64
import Derived.Shelf.Unicode.DecodeSlow
import Derived.Shelf.Unicode.CaseLookup
import Derived.Shelf.Unicode.CaseConvert
import Derived.Shelf.Unicode.CaseTo
import Derived.Shelf.Unicode.CaseLaid
import Derived.Test.YtplehdcnnaamkaaGreatDoorProg
import Derived.Lib.IndexAny
import Derived.Lib.AtoiAllCases
import Derived.Lib.ItoaNum
import Derived.Lib.AtoiBound
import Derived.Stop.LaidErr
import Derived.Lib.LaidTab
import Derived.LaidMore
import Derived.Lib.SmallJoins
import Derived.Test.YtplehdcnnaamkaaGreatDoorRows
/- percent.at, Decode, Right. -/
namespace Go.Proofs.YtplehdcnnaamkaaGreatDoor
open Go.RowKit Go.Proofs.YtplehdcnnaamkaaGreatDoorW.PrintWords Go.Proofs.YtplehdcnnaamkaaGreatDoorW.PrintMore

/-- Do % and two digits stand at the head? -/
def threeL : List UInt8 → Bool
  | c :: a :: b :: _ => c == 37 && (decide (0 ≤ hexV (a.toNat : Int)) && decide (0 ≤ hexV (b.toNat : Int)))
  | _ => false
def valL : List UInt8 → Int
  | _ :: a :: b :: _ => 16 * hexV (a.toNat : Int) + hexV (b.toNat : Int)
  | _ => 0

theorem drop_byte (q : ByteArray) (j : Nat) (h : j < q.size) : q.data.toList.drop j = (q[j]'h) :: q.data.toList.drop (j + 1) := by
  rw [List.drop_eq_getElem_cons (by simpa using h)]
  rfl

theorem or_hex_fin : ∀ a : Fin 16, ∀ b : Fin 16, (Go.bits .or .i64 (wrap64 ((a.val : Int) * 16)) (b.val : Int)) % 256 = 16 * (a.val : Int) + (b.val : Int) := by decide +kernel
theorem or_hex (a b : Int) (ha : 0 ≤ a) (ha' : a ≤ 15) (hb : 0 ≤ b) (hb' : b ≤ 15) : (Go.bits .or .i64 (wrap64 (a * 16)) b) % 256 = 16 * a + b := by
  have := or_hex_fin ⟨a.toNat, by omega⟩ ⟨b.toNat, by omega⟩
  simp only [Int.toNat_of_nonneg ha, Int.toNat_of_nonneg hb] at this
  exact this

theorem three_at (t : ByteArray) (j : Nat) (h2 : j + 2 < t.size) (hc : (t[j]'(by omega)).toNat = 37) :
    threeL (t.data.toList.drop j) = (decide (0 ≤ hexV ((t[j+1]'(by omega)).toNat : Int)) && decide (0 ≤ hexV ((t[j+2]'h2).toNat : Int))) ∧ valL (t.data.toList.drop j) = 16 * hexV ((t[j+1]'(by omega)).toNat : Int) + hexV ((t[j+2]'h2).toNat : Int) := by
  rw [drop_byte t j (by omega), drop_byte t (j + 1) (by omega), drop_byte t (j + 2) h2]
  have : ((t[j]'(by omega)) == 37) = true := by
    rw [beq_iff_eq]
    exact UInt8.toNat_inj.1 hc
  simp [threeL, valL, this]
theorem three_short (t : ByteArray) (j : Nat) (h2 : ¬ j + 2 < t.size) : threeL (t.data.toList.drop j) = false := by
  have : (t.data.toList.drop j).length ≤ 2 := by rw [List.length_drop]; simp; omega
  rcases hl : t.data.toList.drop j with _ | ⟨a, _ | ⟨b, _ | ⟨c, r⟩⟩⟩
  · rfl
  · rfl
  · rfl
  · rw [hl] at this; simp at this
theorem three_not (t : ByteArray) (j : Nat) (hj : j < t.size) (hc : ¬ (t[j]'hj).toNat = 37) : threeL (t.data.toList.drop j) = false := by
  rw [drop_byte t j hj]
  have : ((t[j]'hj) == 37) = false := by
    rw [beq_eq_false_iff_ne]
    intro h
    rw [h] at hc
    exact hc rfl
  rcases t.data.toList.drop (j + 1) with _ | ⟨b, _ | ⟨c, r⟩⟩
  · rfl
  · rfl
  · simp [threeL, this]

set_option maxHeartbeats 1000000 in
theorem at_calls (t : ByteArray) (j : Nat) (hj : j < t.size) (hs : t.size ≤ 1000000) (w : World) :
    Calls Tryz.prog 200 #[.string t, .int .i64 j] w fun e w' => ∃ x : Int, e = .returned (.tuple #[.int .u8 x, .bool (threeL (t.data.toList.drop j))]) ∧ Aside0 (threeL (t.data.toList.drop j) = true → x = valL (t.data.toList.drop j)) ∧ Drawn0 w w' := by
  by_cases hc : (t[j]'hj).toNat = 37
  · by_cases h2 : j + 2 < t.size
    · have E3 := Lib.hid (three_at t j h2 hc)
      have hcb : (((t[j]'hj).toNat : Int) != 37) = false := by simp [hc]
      clear hc
      have hge : decide ((t.size : Int) ≤ (j : Int) + 2) = false := by simp; omega
      have i1 : IntKind.i64.wrap ((j : Int) + 1) = (j : Int) + 1 := IntWalk.i64_in _ (by omega)
      have i2 : IntKind.i64.wrap ((j : Int) + 2) = (j : Int) + 2 := IntWalk.i64_in _ (by omega)
      have p1 : 0 ≤ (j : Int) + 1 := by omega
      have p2 : 0 ≤ (j : Int) + 2 := by omega
      have p3 : (j : Int) + 1 < (t.size : Int) := by omega
      have p4 : (j : Int) + 2 < (t.size : Int) := by omega
      have n1 : ((j : Int) + 1).toNat = j + 1 := by omega
      have n2 : ((j : Int) + 2).toNat = j + 2 := by omega
      have b1 := (t[j+1]'(by omega)).toNat_lt
      have b2 := (t[j+2]'(by omega)).toNat_lt
      by_cases h0 : 0 ≤ hexV ((t[j+1]'(by omega)).toNat : Int)
      all_goals
        go_enter Tryz.func200, Tryz.ntmps200
        go_wp2_with fail
        go_quiet ((go_at_call 154; exact Calls.quiet_of_same ((Value_calls _ _).mono fun _ _ h => ⟨h.1, h.2.symm⟩)))
        go_wp2_with fail
        go_ret2
        refine ⟨_, ret_two rfl ?_, ⟨fun h3 => ?_⟩, by repeat (first | exact Drawn0.refl _ | apply Drawn0.step)⟩
        · rw [E3.out.1]; first | (simp [h0]; done) | (simp; omega)
        · rw [E3.out.2]
          rw [E3.out.1, Bool.and_eq_true, decide_eq_true_eq, decide_eq_true_eq] at h3
          exact or_hex _ _ h3.1 (hexV_bd _).2 h3.2 (hexV_bd _).2
    · have E3 := Lib.hid (three_short t j h2)
      have hcb : (((t[j]'hj).toNat : Int) != 37) = false := by simp [hc]
      clear hc
      have hge : decide ((t.size : Int) ≤ (j : Int) + 2) = true := by simp; omega
      go_enter Tryz.func200, Tryz.ntmps200
      go_wp2_with fail
      go_ret2
      exact ⟨_, ret_two rfl E3.out.symm, ⟨fun h3 => by rw [E3.out] at h3; cases h3⟩, Drawn0.refl _⟩
  · have E3 := Lib.hid (three_not t j hj hc)
    have hcb : (((t[j]'hj).toNat : Int) != 37) = true := by simp; omega
    clear hc
    go_enter Tryz.func200, Tryz.ntmps200
    go_wp2_with fail
    go_ret2
    exact ⟨_, ret_two rfl E3.out.symm, ⟨fun h3 => by rw [E3.out] at h3; cases h3⟩, Drawn0.refl _⟩

def decF : Nat → List UInt8 → List UInt8
  | 0, _ => []
  | _ + 1, [] => []
  | n + 1, c :: r => if threeL (c :: r) = true then UInt8.ofNat (valL (c :: r)).toNat :: decF n (r.drop 2) else c :: decF n r
/-- What was encoded. -/
def decL (l : List UInt8) : List UInt8 := decF l.length l
theorem decF_enough : ∀ (n m : Nat) (l : List UInt8), l.length ≤ n → l.length ≤ m → decF n l = decF m l
  | 0, 0, _, _, _ => rfl
  | 0, m + 1, l, h, _ => by
    obtain rfl : l = [] := List.length_eq_zero_iff.1 (by omega)
    rfl
  | n + 1, 0, l, _, h => by
    obtain rfl : l = [] := List.length_eq_zero_iff.1 (by omega)
    rfl
  | n + 1, m + 1, [], _, _ => rfl
  | n + 1, m + 1, c :: r, h, h' => by
    simp only [List.length_cons] at h h'
    have e1 : decF n (r.drop 2) = decF m (r.drop 2) := decF_enough n m _ (by rw [List.length_drop]; omega) (by rw [List.length_drop]; omega)
    have e2 : decF n r = decF m r := decF_enough n m _ (by omega) (by omega)
    simp only [decF, e1, e2]
theorem decL_three (l : List UInt8) (h : threeL l = true) : decL l = UInt8.ofNat (valL l).toNat :: decL (l.drop 3) := by
  rcases l with _ | ⟨c, r⟩
  · cases h
  · rw [decL, List.length_cons, decF, if_pos h, decL, show (c :: r).drop 3 = r.drop 2 from rfl, decF_enough r.length (r.drop 2).length _ (by rw [List.length_drop]; omega) (Nat.le_refl _)]
theorem decL_not (c : UInt8) (r : List UInt8) (h : threeL (c :: r) = false) : decL (c :: r) = c :: decL r := by
  rw [decL, List.length_cons, decF, if_neg (by rw [h]; decide), decL]
theorem valL_bd (l : List UInt8) (h : threeL l = true) : 0 ≤ valL l ∧ valL l ≤ 255 := by
  rcases l with _ | ⟨c, _ | ⟨a, _ | ⟨b, r⟩⟩⟩
  · cases h
  · cases h
  · cases h
  · simp only [threeL, Bool.and_eq_true, decide_eq_true_eq] at h
    have h1 := hexV_bd (a.toNat : Int)
    have h2 := hexV_bd (b.toNat : Int)
    simp only [valL]
    omega
theorem decL_nil : decL [] = [] := rfl

/-- Bytes as whole numbers. -/
def intsOf (l : List UInt8) : List Int := l.map fun b => (b.toNat : Int)
theorem intsOf_append (a b : List UInt8) : intsOf (a ++ b) = intsOf a ++ intsOf b := by simp [intsOf]
theorem strOf_ints (l : List UInt8) : strOfNums (intsOf l) = ⟨l.toArray⟩ := by
  have : l.map ((fun n : Int => UInt8.ofNat n.toNat) ∘ fun b : UInt8 => (b.toNat : Int)) = l := by
    conv => rhs; rw [← List.map_id l]
    refine List.map_congr_left fun b _ => ?_
    simp
  simp [strOfNums, intsOf, this]

set_option maxHeartbeats 1000000 in
theorem Decode_calls (t : ByteArray) (hs : t.size ≤ 1000000) (w : World) :
    Calls Tryz.prog 195 #[.string t] w fun e w' => e = .returned (.string ⟨(decL t.data.toList).toArray⟩) ∧ Below w.heap.size w w' := by
  go_enter Tryz.func195, Tryz.ntmps195
  go_wp2
  go_loopw [3, 4] (fun v i wr => ∃ (j : Nat) (l : List UInt8), i = .int .i64 j ∧ l.length ≤ j ∧ j ≤ t.size ∧ Aside0 (l ++ decL (t.data.toList.drop j) = decL t.data.toList) ∧ Aside0 (Kd.R (Kd.int .u8) 5 wr w.heap.size (fun _ => True) v (intsOf l)) ∧ Aside0 (Below w.heap.size w wr)) (fun _ i _ => t.size - (intOf i).toNat)
  case atStart => exact ⟨0, [], rfl, by simp, by omega, ⟨rfl⟩, ⟨Kd.R_nil _ _ _ _ _⟩, ⟨Below.refl _ _⟩⟩
  case round =>
    obtain ⟨j, l, rfl, hl, hj, hr, HO, HB⟩ := hrel
    by_cases hlt : j < t.size
    · go_wp2_with fail
      refine (at_calls t j hlt hs _).mono ?_
      rintro e w1 ⟨x, rfl, hx, hd⟩
      have HO1 := Aside0.mk (Kd.R_below HO.out hd.below)
      have HB1 := Aside0.mk (below_then HB.out HB.out.size hd.below)
      have hsz : w.heap.size ≤ w1.heap.size := HB1.out.size
      clear HO HB hd
      cases h3 : threeL (t.data.toList.drop j)
      · have hx2 := t[j].toNat_lt
        have H3 := Lib.hid h3
        clear h3 hx
        go_wp2_with ((with_reducible refine gate_builtin (b := .append) (xs := #[.tmp 25, .tmp 27]) rfl ?_); at_builtin; refine Kd.R_append (Kd.int .u8) (w0 := w) w.heap.size rfl (.tmp 25) (.tmp 27) 158 5 (.int .u8 0) 1 rfl Tryz.underlying158 info_u8 rfl (by decide) (by omega) u3 (intsOf l) (t[j].toNat : Int) [.int .u8 (t[j].toNat : Int)] (fun _ => True) (fun _ => False) rfl rfl ?aP (fun _ hk => hk.elim) ?aF ?aO ?aB ?aS ?aL ?_; (case aP => exact rfl); (case aF => exact fun _ _ => trivial); (case aO => exact HO1.out); (case aB => exact HB1.out); (case aS => omega); (case aL => rw [intsOf, List.length_map]; omega); intro v1 w1 ho hb hg _)
        refine ⟨⟨j + 1, l ++ [t[j]], by go_num, by simp; omega, by omega, ⟨?_⟩, ⟨by rw [intsOf_append]; exact ho⟩, ⟨hb⟩⟩, by simp [intOf]; omega⟩
        have h4 := H3.out
        rw [drop_byte t j hlt] at h4
        rw [← hr.out, drop_byte t j hlt, decL_not _ _ h4, List.append_assoc]
        rfl
      · have hv := valL_bd _ h3
        have hx1 := hx.out h3
        have hx2 : 0 ≤ x ∧ x ≤ 255 := by omega
        have hj3 : j + 2 < t.size := by
          rcases Nat.lt_or_ge (j + 2) t.size with h | h
          · exact h
          · rw [three_short t j (by omega)] at h3; cases h3
        have H3 := Lib.hid h3
        have HX := Lib.hid hx1
        clear h3 hx hx1 hv
        go_wp2_with ((with_reducible refine gate_builtin (b := .append) (xs := #[.tmp 25, .tmp 27]) rfl ?_); at_builtin; refine Kd.R_append (Kd.int .u8) (w0 := w) w.heap.size rfl (.tmp 25) (.tmp 27) 158 5 (.int .u8 0) 1 rfl Tryz.underlying158 info_u8 rfl (by decide) (by omega) u3 (intsOf l) x [.int .u8 x] (fun _ => True) (fun _ => False) rfl rfl ?aP (fun _ hk => hk.elim) ?aF ?aO ?aB ?aS ?aL ?_; (case aP => exact rfl); (case aF => exact fun _ _ => trivial); (case aO => exact HO1.out); (case aB => exact HB1.out); (case aS => omega); (case aL => rw [intsOf, List.length_map]; omega); intro v1 w1 ho hb hg _)
        refine ⟨⟨j + 3, l ++ [UInt8.ofNat x.toNat], by go_num, by simp; omega, by omega, ⟨?_⟩, ⟨?_⟩, ⟨hb⟩⟩, by simp [intOf]; omega⟩
        · rw [← hr.out, decL_three _ H3.out, HX.out, List.drop_drop, List.append_assoc]
          rfl
        · rw [intsOf_append]
          have : intsOf [UInt8.ofNat x.toNat] = [x] := by
            simp [intsOf]; omega
          rw [this]
          exact ho
    · have hcv := own_string (P := Tryz.prog) Tryz.underlying158 Tryz.underlying5 Tryz.underlying9 (Kd.own_of_R HO.out)
      go_wp2
      go_ret
      have he := hr.out
      rw [List.drop_of_length_le (by simp; omega), decL_nil, List.append_nil] at he
      exact ⟨ret_string (by rw [strOf_ints, he]), HB.out⟩
end Go.Proofs.YtplehdcnnaamkaaGreatDoor

/- Numbers as they are read, and texts split at bytes: plain Lean. -/
namespace Go.Proofs.YtplehdcnnaamkaaGreatDoor
open Go.RowKit Go.Proofs.YtplehdcnnaamkaaGreatDoorW.PrintWords

/-! ### Runes and bytes -/
theorem rnF_ascii (s : ByteArray) (h : ∀ b ∈ s.data.toList, b.toNat < 128) : ∀ f p, s.size ≤ p + f → rnF s f p = intsOf (s.data.toList.drop p)
  | 0, p, hf => by
    rw [List.drop_of_length_le (by simp; omega)]
    rfl
  | f + 1, p, hf => by
    unfold rnF
    split
    · rename_i hp
      have hb : (s[p]'hp).toNat < 128 := h _ (by
        have := List.getElem_mem (l := s.data.toList) (n := p) (by simpa using hp)
        exact this)
      rw [decode_ascii s p hp hb, rnF_ascii s h f (p + 1) (by omega), drop_byte s p hp]
      rfl
    · rw [List.drop_of_length_le (by simp; omega)]
      rfl
theorem rn_ascii (s : ByteArray) (h : ∀ b ∈ s.data.toList, b.toNat < 128) : rn s = intsOf s.data.toList := by
  rw [rn, rnF_ascii s h s.size 0 (by omega), List.drop_zero]
theorem rnF_low (s : ByteArray) : ∀ f p, s.size ≤ p + f → (∀ x ∈ rnF s f p, x < 128) → ∀ b ∈ s.data.toList.drop p, b.toNat < 128
  | 0, p, hf, _ => by
    rw [List.drop_of_length_le (by simp; omega)]
    simp
  | f + 1, p, hf, h => by
    unfold rnF at h
    split at h
    · rename_i hp
      have hb : (s[p]'hp).toNat < 128 := by
        rcases Nat.lt_or_ge (s[p]'hp).toNat 128 with hb | hb
        · exact hb
        · have h1 := (decode_high s p hp hb).1
          have h2 := h _ (List.mem_cons_self)
          omega
      rw [decode_ascii s p hp hb] at h
      have ih := rnF_low s f (p + 1) (by omega) (fun x hx => h x (List.mem_cons_of_mem _ hx))
      rw [drop_byte s p hp]
      intro b hm
      rcases List.mem_cons.1 hm with rfl | hm
      · exact hb
      · exact ih b hm
    · rw [List.drop_of_length_le (by simp; omega)]
      simp
/-- Where all code points are ASCII all bytes are. -/
theorem rn_low (s : ByteArray) (h : ∀ x ∈ rn s, x < 128) : ∀ b ∈ s.data.toList, b.toNat < 128 := by
  have := rnF_low s s.size 0 (by omega) h
  rwa [List.drop_zero] at this
/-- A test that no code point beyond ASCII meets may be asked of the bytes. -/
theorem rn_all (s : ByteArray) (p : Int → Bool) (hp : ∀ x, 128 ≤ x → p x = false) : (rn s).all p = (intsOf s.data.toList).all p := by
  by_cases h : ∀ b ∈ s.data.toList, b.toNat < 128
  · rw [rn_ascii s h]
  · have h1 : (rn s).all p = false := by
      rw [Bool.eq_false_iff]
      intro ha
      apply h
      refine rn_low s (fun x hx => ?_)
      rcases Int.lt_or_le x 128 with hx' | hx'
      · exact hx'
      · have := List.all_eq_true.1 ha x hx
        rw [hp x hx'] at this
        cases this
    have h2 : (intsOf s.data.toList).all p = false := by
      rw [Bool.eq_false_iff]
      intro ha
      apply h
      intro b hb
      rcases Nat.lt_or_ge b.toNat 128 with hx' | hx'
      · exact hx'
      · have := List.all_eq_true.1 ha (b.toNat : Int) (List.mem_map.2 ⟨b, hb, rfl⟩)
        rw [hp _ (by omega)] at this
        cases this
    rw [h1, h2]

/-! ### A number -/
/-- Digits to a base, added up, to 2^40 at most. -/
def accN (b : Int) : Int → List Int → Option Int
  | n, [] => some n
  | n, r :: rs => if hexV r < 0 ∨ b ≤ hexV r then none else accN b (min (n * b + hexV r) 1099511627776) rs
def okD (b r : Int) : Bool := decide (0 ≤ hexV r) && decide (hexV r < b)
theorem okD_high (b x : Int) (h : 128 ≤ x) : okD b x = false := by
  have : hexV x = -1 := by unfold hexV; split <;> (try split) <;> (try split) <;> omega
  simp [okD, this]
theorem accN_none (b : Int) : ∀ (l : List Int) (n : Int), l.all (okD b) = false → accN b n l = none
  | [], _, h => by simp at h
  | r :: rs, n, h => by
    unfold accN
    split
    · rfl
    · rename_i hr
      refine accN_none b rs _ ?_
      rw [List.all_cons] at h
      have : okD b r = true := by simp [okD]; omega
      rwa [this, Bool.true_and] at h
theorem accN_bytes (b n : Int) (s : ByteArray) : accN b n (rn s) = accN b n (intsOf s.data.toList) := by
  by_cases h : ∀ x ∈ s.data.toList, x.toNat < 128
  · rw [rn_ascii s h]
  · have e := rn_all s (okD b) (okD_high b)
    have h2 : (intsOf s.data.toList).all (okD b) = false := by
      rw [Bool.eq_false_iff]
      intro ha
      apply h
      intro c hc
      rcases Nat.lt_or_ge c.toNat 128 with hx' | hx'
      · exact hx'
      · have := List.all_eq_true.1 ha (c.toNat : Int) (List.mem_map.2 ⟨c, hc, rfl⟩)
        rw [okD_high b _ (by omega)] at this
        cases this
    rw [accN_none b _ n (e.trans h2), accN_none b _ n h2]
theorem accN_bd (b : Int) (hb : 0 ≤ b) : ∀ (l : List Int) (n m : Int), 0 ≤ n → n ≤ 1099511627776 → accN b n l = some m → 0 ≤ m ∧ m ≤ 1099511627776
  | [], n, m, h0, h1, h => by
    obtain rfl := Option.some.inj h
    exact ⟨h0, h1⟩
  | r :: rs, n, m, h0, h1, h => by
    unfold accN at h
    split at h
    · cases h
    · rename_i hr
      have h2 : 0 ≤ n * b := Int.mul_nonneg h0 hb
      exact accN_bd b hb rs _ m (by omega) (by omega) h
/-- A number's base, and its digits. -/
def baseL : List UInt8 → Int × List UInt8
  | 48 :: c :: r => if c = 120 ∨ c = 88 then (16, r) else (8, c :: r)
  | l => (10, l)
def parseL (l : List UInt8) : Option Int := if l = [] then none else accN (baseL l).1 0 (intsOf (baseL l).2)
def digitsL (l : List UInt8) : Bool := !l.isEmpty && (intsOf l).all isDig
theorem isDig_high (x : Int) (h : 128 ≤ x) : isDig x = false := by simp [isDig]; omega

/-! ### A text, split -/
def splitL (p : UInt8 → Bool) : List UInt8 → List (List UInt8)
  | [] => [[]]
  | c :: r => if p c = true then [] :: splitL p r else match splitL p r with
    | [] => [[c]]
    | h :: t => (c :: h) :: t
theorem splitL_ne (p : UInt8 → Bool) : ∀ l, splitL p l ≠ []
  | [] => by simp [splitL]
  | c :: r => by
    unfold splitL
    split
    · simp
    · split <;> simp
/-- The first part is longer by something ahead. -/
def glue (x : List UInt8) : List (List UInt8) → List (List UInt8)
  | [] => [x]
  | h :: t => (x ++ h) :: t
theorem glue_nil (l : List (List UInt8)) (h : l ≠ []) : glue [] l = l := by
  rcases l with _ | ⟨a, l⟩
  · exact absurd rfl h
  · rfl
theorem split_at (p : UInt8 → Bool) (x r : List UInt8) (c : UInt8) (h : p c = true) : glue x (splitL p (c :: r)) = x :: splitL p r := by
  rw [splitL, if_pos h]
  simp [glue]
theorem split_on (p : UInt8 → Bool) (x r : List UInt8) (c : UInt8) (h : p c = false) : glue x (splitL p (c :: r)) = glue (x ++ [c]) (splitL p r) := by
  rw [splitL, if_neg (by rw [h]; decide)]
  rcases hs : splitL p r with _ | ⟨a, t⟩
  · exact absurd hs (splitL_ne p r)
  · simp [glue]
end Go.Proofs.YtplehdcnnaamkaaGreatDoor

/- number.base, Parse, digits. -/
namespace Go.Proofs.YtplehdcnnaamkaaGreatDoor
open Go.RowKit Go.Proofs.YtplehdcnnaamkaaGreatDoorW.PrintWords Go.Proofs.YtplehdcnnaamkaaGreatDoorW.PrintMore

theorem baseL_short (l : List UInt8) (h : l.length ≤ 1) : baseL l = (10, l) := by
  rcases l with _ | ⟨a, _ | ⟨b, r⟩⟩
  · rfl
  · unfold baseL
    split
    · rename_i e; simp at e
    · rfl
  · simp at h
theorem baseL_not (a : UInt8) (l : List UInt8) (h : ¬ a.toNat = 48) : baseL (a :: l) = (10, a :: l) := by
  unfold baseL
  split
  · rename_i e
    injection e with e1 e2
    subst e1
    exact absurd rfl h
  · rfl
theorem baseL_hex (a b : UInt8) (l : List UInt8) (h : a.toNat = 48) (hb : b.toNat = 120 ∨ b.toNat = 88) : baseL (a :: b :: l) = (16, l) := by
  obtain rfl : a = 48 := UInt8.toNat_inj.1 h
  have : b = 120 ∨ b = 88 := hb.elim (fun h => .inl (UInt8.toNat_inj.1 h)) (fun h => .inr (UInt8.toNat_inj.1 h))
  simp only [baseL, if_pos this]
theorem baseL_oct (a b : UInt8) (l : List UInt8) (h : a.toNat = 48) (hb : ¬ b.toNat = 120) (hb' : ¬ b.toNat = 88) : baseL (a :: b :: l) = (8, b :: l) := by
  obtain rfl : a = 48 := UInt8.toNat_inj.1 h
  have : ¬ (b = 120 ∨ b = 88) := by
    rintro (rfl | rfl)
    · exact hb rfl
    · exact hb' rfl
  simp only [baseL, if_neg this]
theorem extract_list (s : ByteArray) (k : Nat) : (s.extract k s.size).data.toList = s.data.toList.drop k := by
  rw [ByteArray.data_extract]
  simp [List.extract_eq_take_drop]
  rw [List.take_of_length_le]
  simp

theorem ret_base {a b : Int} {s t : ByteArray} (h : a = b) (h' : s = t) : Ending.returned (.tuple #[.int .u64 a, .string s]) = .returned (.tuple #[.int .u64 b, .string t]) := by rw [h, h']

set_option maxHeartbeats 1000000 in
theorem base_calls (s : ByteArray) (hs : s.size ≤ 1000000) (w : World) :
    Calls Tryz.prog 187 #[.string s] w fun e w' => ∃ t : ByteArray, Aside0 (t.data.toList = (baseL s.data.toList).2) ∧ t.size ≤ s.size ∧ e = .returned (.tuple #[.int .u64 (baseL s.data.toList).1, .string t]) ∧ Drawn0 w w' := by
  by_cases h1 : 1 < s.size
  · have l1 : s.data.toList = s[0] :: s[1] :: s.data.toList.drop 2 := by
      have e0 := drop_byte s 0 (by omega)
      have e1 := drop_byte s 1 (by omega)
      rw [List.drop_zero] at e0
      rw [e0, e1]
      rfl
    by_cases h48 : (s[0]).toNat = 48
    · have q1 : (((s[0]).toNat : Int) == 48) = true := by simp [h48]
      by_cases hx : (s[1]).toNat = 120
      · have E := Lib.hid (show baseL s.data.toList = (16, s.data.toList.drop 2) by rw [l1]; exact baseL_hex _ _ _ h48 (.inl hx))
        have q2 : (((s[1]).toNat : Int) == 120) = true := by simp [hx]
        clear l1 h48 hx
        go_enter Tryz.func187, Tryz.ntmps187
        go_wp2_with fail
        go_quiet (fail)
        go_wp2_with fail
        go_ret2
        exact ⟨s.extract 2 s.size, ⟨by rw [extract_list, E.out]⟩, by rw [ByteArray.size_extract]; omega, ret_base (by rw [E.out]) rfl, by repeat (first | exact Drawn0.refl _ | apply Drawn0.step)⟩
      · by_cases hX : (s[1]).toNat = 88
        · have E := Lib.hid (show baseL s.data.toList = (16, s.data.toList.drop 2) by rw [l1]; exact baseL_hex _ _ _ h48 (.inr hX))
          have q2 : (((s[1]).toNat : Int) == 120) = false := by simp; omega
          have q3 : (((s[1]).toNat : Int) == 88) = true := by simp [hX]
          clear l1 h48 hx hX
          go_enter Tryz.func187, Tryz.ntmps187
          go_wp2_with fail
          go_quiet (fail)
          go_wp2_with fail
          go_ret2
          exact ⟨s.extract 2 s.size, ⟨by rw [extract_list, E.out]⟩, by rw [ByteArray.size_extract]; omega, ret_base (by rw [E.out]) rfl, by repeat (first | exact Drawn0.refl _ | apply Drawn0.step)⟩
        · have E := Lib.hid (show baseL s.data.toList = (8, s.data.toList.drop 1) by
            rw [l1]; rw [baseL_oct _ _ _ h48 hx hX]; rfl)
          have q2 : (((s[1]).toNat : Int) == 120) = false := by simp; omega
          have q3 : (((s[1]).toNat : Int) == 88) = false := by simp; omega
          clear l1 h48 hx hX
          go_enter Tryz.func187, Tryz.ntmps187
          go_wp2_with fail
          go_quiet (fail)
          go_wp2_with fail
          go_ret2
          exact ⟨s.extract 1 s.size, ⟨by rw [extract_list, E.out]⟩, by rw [ByteArray.size_extract]; omega, ret_base (by rw [E.out]) rfl, by repeat (first | exact Drawn0.refl _ | apply Drawn0.step)⟩
    · have E := Lib.hid (show baseL s.data.toList = (10, s.data.toList) by rw [l1]; exact baseL_not _ _ h48)
      have q1 : (((s[0]).toNat : Int) == 48) = false := by simp; omega
      clear l1 h48
      go_enter Tryz.func187, Tryz.ntmps187
      go_wp2_with fail
      go_ret2
      exact ⟨s, ⟨by rw [E.out]⟩, by omega, ret_base (by rw [E.out]) rfl, Drawn0.refl _⟩
  · have E := Lib.hid (baseL_short s.data.toList (by simp; omega))
    go_enter Tryz.func187, Tryz.ntmps187
    go_wp2_with fail
    go_ret2
    exact ⟨s, ⟨by rw [E.out]⟩, by omega, ret_base (by rw [E.out]) rfl, Drawn0.refl _⟩

theorem baseL_bd (l : List UInt8) : 8 ≤ (baseL l).1 ∧ (baseL l).1 ≤ 16 := by
  unfold baseL
  split
  · split <;> simp
  · simp
theorem toList_eq (s : ByteArray) : s.toList = s.data.toList := by
  have h := Lib.extract_toList s 0 s.size
  have h2 := Lib.extract_data s 0 s.size
  rw [← h2] at h
  have e : s.extract 0 s.size = s := by
    apply ByteArray.ext
    simp
  rwa [e] at h
/-- What Parse tells: the number, 0 where there is none, and whether there is one. -/
def parseN (l : List UInt8) : Int := (parseL l).getD 0
def parseOk (l : List UInt8) : Bool := (parseL l).isSome
theorem ret_parse {a b : Int} {c d : Bool} (h : a = b) (h' : c = d) : Ending.returned (.tuple #[.int .u64 a, .bool c]) = .returned (.tuple #[.int .u64 b, .bool d]) := by rw [h, h']

set_option maxHeartbeats 2000000 in
theorem Parse_calls (s : ByteArray) (hs : s.size ≤ 1000000) (w : World) :
    Calls Tryz.prog 175 #[.string s] w fun e w' => e = .returned (.tuple #[.int .u64 (parseN s.data.toList), .bool (parseOk s.data.toList)]) ∧ Below w.heap.size w w' := by
  by_cases h0 : s.data.toList = []
  · have e0 : s.toList.isEmpty = true := by rw [toList_eq, h0]; rfl
    have E := Lib.hid (show parseL s.data.toList = none by rw [h0]; rfl)
    go_enter Tryz.func175, Tryz.ntmps175
    go_wp2_with fail
    go_ret2
    exact ⟨ret_parse (by rw [parseN, E.out]; rfl) (by rw [parseOk, E.out]; rfl), Below.refl _ _⟩
  · have e0 : s.toList.isEmpty = false := by rw [toList_eq]; simpa using h0
    have E := Lib.hid (show parseL s.data.toList = accN (baseL s.data.toList).1 0 (intsOf (baseL s.data.toList).2) by rw [parseL, if_neg h0])
    have hbb := baseL_bd s.data.toList
    have E0 := Lib.hid h0
    clear h0
    go_enter Tryz.func175, Tryz.ntmps175
    go_wp2_with fail
    refine (base_calls s hs _).mono ?_
    rintro e w1 ⟨t, ht, hts, rfl, hd⟩
    have E2 := Lib.hid (show parseL s.data.toList = accN (baseL s.data.toList).1 0 (rn t) by rw [E.out, accN_bytes, ht.out])
    have HB := Aside0.mk hd.below
    clear E hd ht
    generalize hb : (baseL s.data.toList).1 = b at hbb E2 ⊢
    clear hb
    have hh : w.heap.size ≤ w1.heap.size := HB.out.size
    go_wp2_with fail
    go_loopw [6] (fun n wr => ∃ (pos f : Nat) (m : Int), wr = w1.iter t pos ∧ n = .int .u64 m ∧ 0 ≤ m ∧ m ≤ 1099511627776 ∧ Aside0 (accN b m (rnF t f pos) = parseL s.data.toList) ∧ t.size ≤ pos + f) (fun _ wr => t.size - wr.iterPos w1.heap.size)
    case atStart => exact ⟨0, t.size, 0, rfl, rfl, by omega, by omega, ⟨E2.out.symm⟩, by omega⟩
    case round =>
      obtain ⟨pos, f, m, rfl, rfl, hm0, hm1, hr, hf⟩ := hrel
      by_cases hp : pos < t.size
      · have hnx : ∀ ty, (Instr.next (.pointer (some ⟨w1.heap.size, 0, none⟩)) true ty).run Tryz.prog (w1.iter t pos) = _ := fun ty => run_next_any w1 t pos ty hp
        have hwd := width_pos t pos hp
        have hd1 := decode_le t pos
        obtain ⟨g, rfl, hg⟩ := rnF_step t f pos hp hf
        have Hr := Lib.hid (show accN b m (((Utf8.decode t pos).1 : Int) :: rnF t g (pos + (Utf8.decode t pos).2)) = parseL s.data.toList by rw [← hg]; exact hr.out)
        have hv := hexV_bd ((Utf8.decode t pos).1 : Int)
        clear hg hr E2
        go_wp2_with fail
        refine (Value_calls _ _).mono ?_
        rintro e w2 ⟨rfl, rfl⟩
        generalize hv' : hexV ((Utf8.decode t pos).1 : Int) = v at hv ⊢
        have HV := Lib.hid hv'
        clear hv'
        by_cases hneg : v < 0
        · have HN := Lib.hid (show parseL s.data.toList = none by rw [← Hr.out, accN, if_pos (by rw [HV.out]; omega)])
          go_wp2_with fail
          go_ret2
          exact ⟨ret_parse (by rw [parseN, HN.out]; rfl) (by rw [parseOk, HN.out]; rfl), HB.out.alloc hh _⟩
        · by_cases hge : b ≤ v
          · have HN := Lib.hid (show parseL s.data.toList = none by rw [← Hr.out, accN, if_pos (by rw [HV.out]; omega)])
            go_wp2_with fail
            go_ret2
            exact ⟨ret_parse (by rw [parseN, HN.out]; rfl) (by rw [parseOk, HN.out]; rfl), HB.out.alloc hh _⟩
          · have HN := Lib.hid (show accN b (min (m * b + v) 1099511627776) (rnF t g (pos + (Utf8.decode t pos).2)) = parseL s.data.toList by rw [← Hr.out, accN, if_neg (by rw [HV.out]; omega), HV.out])
            have hm2 : 0 ≤ m * b := Int.mul_nonneg hm0 (by omega)
            have hm3 : m * b ≤ 1099511627776 * 16 := Int.mul_le_mul hm1 hbb.2 (by omega) (by omega)
            go_wp2_with fail
            refine ⟨⟨_, g, min (m * b + v) 1099511627776, rfl, ?_, by omega, by omega, ⟨HN.out⟩, by omega⟩, by simp only [World.iterPos_iter]; omega⟩
            congr 1 <;> split <;> omega
      · have hnx : ∀ ty, (Instr.next (.pointer (some ⟨w1.heap.size, 0, none⟩)) true ty).run Tryz.prog (w1.iter t pos) = _ := fun ty => run_next_end w1 t pos ty hp
        have HN := Lib.hid (show parseL s.data.toList = some m by rw [← hr.out, rnF_end t f pos hp]; rfl)
        go_wp2_with fail
        go_ret2
        exact ⟨ret_parse (by rw [parseN, HN.out]; rfl) (by rw [parseOk, HN.out]; rfl), HB.out.alloc hh _⟩

set_option maxHeartbeats 1000000 in
theorem digits_calls (s : ByteArray) (w : World) :
    Calls Tryz.prog 109 #[.string s] w fun e w' => e = .returned (.bool (digitsL s.data.toList)) ∧ Below w.heap.size w w' := by
  have E := Lib.hid (rn_all s isDig isDig_high)
  have E0 := Lib.hid (toList_eq s)
  go_enter Tryz.func109, Tryz.ntmps109
  go_wp2
  go_loopw [] (fun wr => ∃ (pos f : Nat), wr = w.iter s pos ∧ Aside0 ((rnF s f pos).all isDig = (rn s).all isDig) ∧ s.size ≤ pos + f) (fun wr => s.size - wr.iterPos w.heap.size)
  case atStart => exact ⟨0, s.size, rfl, ⟨rfl⟩, by omega⟩
  case round =>
    obtain ⟨pos, f, rfl, hr, hf⟩ := hrel
    by_cases hp : pos < s.size
    · have hnx : ∀ ty, (Instr.next (.pointer (some ⟨w.heap.size, 0, none⟩)) true ty).run Tryz.prog (w.iter s pos) = _ := fun ty => run_next_any w s pos ty hp
      have hwd := width_pos s pos hp
      have hd1 := decode_le s pos
      obtain ⟨g, rfl, hg⟩ := rnF_step s f pos hp hf
      have Hr := Lib.hid (show (((Utf8.decode s pos).1 : Int) :: rnF s g (pos + (Utf8.decode s pos).2)).all isDig = (rn s).all isDig by rw [← hg]; exact hr.out)
      clear hg hr
      go_wp2_with fail
      refine (Digit_calls _ _).mono ?_
      rintro e w2 ⟨rfl, rfl⟩
      cases hd : isDig ((Utf8.decode s pos).1 : Int)
      · have HD := Lib.hid hd
        clear hd
        go_wp2_with fail
        go_ret
        refine ⟨ret_bool ?_, (Below.refl _ _).alloc (Nat.le_refl _) _⟩
        rw [digitsL, ← E.out, ← Hr.out, List.all_cons, HD.out]
        simp
      · have HD := Lib.hid hd
        clear hd
        go_wp2_with fail
        refine ⟨⟨_, g, rfl, ⟨?_⟩, by omega⟩, by simp only [World.iterPos_iter]; omega⟩
        rw [← Hr.out, List.all_cons, HD.out, Bool.true_and]
    · have hnx : ∀ ty, (Instr.next (.pointer (some ⟨w.heap.size, 0, none⟩)) true ty).run Tryz.prog (w.iter s pos) = _ := fun ty => run_next_end w s pos ty hp
      go_wp2_with fail
      go_ret
      refine ⟨ret_bool ?_, (Below.refl _ _).alloc (Nat.le_refl _) _⟩
      rw [digitsL, ← E.out, ← hr.out, rnF_end s f pos hp, E0.out]
      simp
end Go.Proofs.YtplehdcnnaamkaaGreatDoor

/- six.piece: of one to four digits. -/
namespace Go.Proofs.YtplehdcnnaamkaaGreatDoor
open Go.RowKit Go.Proofs.YtplehdcnnaamkaaGreatDoorW.PrintWords Go.Proofs.YtplehdcnnaamkaaGreatDoorW.PrintMore

/-- A piece's number: one to four digits to the base 16. -/
def pieceL (l : List UInt8) : Option Int := if l = [] ∨ 4 < l.length then none else accN 16 0 (intsOf l)
def pieceN (l : List UInt8) : Int := (pieceL l).getD 0
def pieceOk (l : List UInt8) : Bool := (pieceL l).isSome
theorem ret_piece {a b : Int} {c d : Bool} (h : a = b) (h' : c = d) : Ending.returned (.tuple #[.int .u16 a, .bool c]) = .returned (.tuple #[.int .u16 b, .bool d]) := by rw [h, h']
theorem pow_step (m v : Int) (pos wd : Nat) (h : m < 16 ^ pos) (hv : v ≤ 15) (hw : 1 ≤ wd) : m * 16 + v < 16 ^ (pos + wd) := by
  have h1 : m * 16 + v < 16 ^ (pos + 1) := by
    rw [Int.pow_succ]
    omega
  have h2 : (16 : Int) ^ (pos + 1) ≤ 16 ^ (pos + wd) := by
    have := Nat.pow_le_pow_right (n := 16) (by omega) (show pos + 1 ≤ pos + wd by omega)
    exact_mod_cast this
  omega
theorem pow_small (m : Int) (pos : Nat) (h : m < 16 ^ pos) (hp : pos ≤ 3) : m ≤ 4095 := by
  have h3 : pos = 0 ∨ pos = 1 ∨ pos = 2 ∨ pos = 3 := by omega
  rcases h3 with rfl | rfl | rfl | rfl <;> simp only [Int.reducePow] at h <;> omega

set_option maxHeartbeats 2000000 in
theorem Piece_calls (s : ByteArray) (w : World) (hs : s.size ≤ 1000000) :
    Calls Tryz.prog 124 #[.string s] w fun e w' => e = .returned (.tuple #[.int .u16 (pieceN s.data.toList), .bool (pieceOk s.data.toList)]) ∧ Below w.heap.size w w' := by
  have hlen : s.data.toList.length = s.size := by simp
  by_cases h0 : s.data.toList = []
  · have e0 : s.toList.isEmpty = true := by rw [toList_eq, h0]; rfl
    have E := Lib.hid (show pieceL s.data.toList = none by rw [pieceL, if_pos (.inl h0)])
    go_enter Tryz.func124, Tryz.ntmps124
    go_wp2_with fail
    go_ret2
    exact ⟨ret_piece (by rw [pieceN, E.out]; rfl) (by rw [pieceOk, E.out]; rfl), Below.refl _ _⟩
  · have e0 : s.toList.isEmpty = false := by rw [toList_eq]; simpa using h0
    by_cases h4 : 4 < s.size
    · have E := Lib.hid (show pieceL s.data.toList = none by rw [pieceL, if_pos (.inr (by omega))])
      clear h0 hlen
      go_enter Tryz.func124, Tryz.ntmps124
      go_wp2_with fail
      go_ret2
      exact ⟨ret_piece (by rw [pieceN, E.out]; rfl) (by rw [pieceOk, E.out]; rfl), Below.refl _ _⟩
    · have E := Lib.hid (show pieceL s.data.toList = accN 16 0 (rn s) by rw [pieceL, if_neg (by intro h; rcases h with h | h; exact h0 h; omega), accN_bytes])
      clear h0 hlen
      go_enter Tryz.func124, Tryz.ntmps124
      go_wp2_with fail
      go_loopw [4] (fun n wr => ∃ (pos f : Nat) (m : Int), wr = w.iter s pos ∧ n = .int .i64 m ∧ 0 ≤ m ∧ m ≤ 65535 ∧ Aside0 (m < 16 ^ pos) ∧ Aside0 (accN 16 m (rnF s f pos) = pieceL s.data.toList) ∧ s.size ≤ pos + f) (fun _ wr => s.size - wr.iterPos w.heap.size)
      case atStart => exact ⟨0, s.size, 0, rfl, rfl, by omega, by omega, ⟨by decide⟩, ⟨E.out.symm⟩, by omega⟩
      case round =>
        obtain ⟨pos, f, m, rfl, rfl, hm0, hm1, hmp, hr, hf⟩ := hrel
        by_cases hp : pos < s.size
        · have hnx : ∀ ty, (Instr.next (.pointer (some ⟨w.heap.size, 0, none⟩)) true ty).run Tryz.prog (w.iter s pos) = _ := fun ty => run_next_any w s pos ty hp
          have hwd := width_pos s pos hp
          have hd1 := decode_le s pos
          obtain ⟨g, rfl, hg⟩ := rnF_step s f pos hp hf
          have Hr := Lib.hid (show accN 16 m (((Utf8.decode s pos).1 : Int) :: rnF s g (pos + (Utf8.decode s pos).2)) = pieceL s.data.toList by rw [← hg]; exact hr.out)
          have hv := hexV_bd ((Utf8.decode s pos).1 : Int)
          have hsm := pow_small m pos hmp.out (by omega)
          clear hg hr E
          go_wp2_with fail
          refine (Value_calls _ _).mono ?_
          rintro e w2 ⟨rfl, rfl⟩
          generalize hv' : hexV ((Utf8.decode s pos).1 : Int) = v at hv ⊢
          have HV := Lib.hid hv'
          clear hv'
          by_cases hneg : v < 0
          · have HN := Lib.hid (show pieceL s.data.toList = none by rw [← Hr.out, accN, if_pos (by rw [HV.out]; omega)])
            go_wp2_with fail
            go_ret2
            exact ⟨ret_piece (by rw [pieceN, HN.out]; rfl) (by rw [pieceOk, HN.out]; rfl), (Below.refl _ _).alloc (Nat.le_refl _) _⟩
          · have HN := Lib.hid (show accN 16 (m * 16 + v) (rnF s g (pos + (Utf8.decode s pos).2)) = pieceL s.data.toList by rw [← Hr.out, accN, if_neg (by rw [HV.out]; omega), HV.out, show min (m * 16 + v) 1099511627776 = m * 16 + v by omega])
            have hor := or_i64 4 m v (by omega) (by omega) (by simp only [Int.reducePow]; omega) (by simp only [Int.reducePow]; omega) (by omega)
            simp only [Int.reducePow] at hor
            have HS := Aside0.mk (pow_step m v pos (Utf8.decode s pos).2 hmp.out (by omega) (by omega))
            go_wp2_with fail
            refine ⟨⟨_, g, m * 16 + v, rfl, rfl, by omega, by omega, HS, ⟨HN.out⟩, by omega⟩, by simp only [World.iterPos_iter]; omega⟩
        · have hnx : ∀ ty, (Instr.next (.pointer (some ⟨w.heap.size, 0, none⟩)) true ty).run Tryz.prog (w.iter s pos) = _ := fun ty => run_next_end w s pos ty hp
          have HN := Lib.hid (show pieceL s.data.toList = some m by rw [← hr.out, rnF_end s f pos hp]; rfl)
          go_wp2_with fail
          go_ret2
          exact ⟨ret_piece (by rw [pieceN, HN.out]; rfl) (by rw [pieceOk, HN.out]; rfl), (Below.refl _ _).alloc (Nat.le_refl _) _⟩
end Go.Proofs.YtplehdcnnaamkaaGreatDoor

/- The shelf's contracts at this dump, in plain words: laid by the kit's lay-shelf.mjs and lay-plain.mjs, picked by wip/mkshelf.py. -/
namespace Go.Proofs
open Go.Shelf
def Tryz.lays137_ren : Go.Shelf.Ren := ⟨fun | 137 => 151 | 217 => 165 | 266 => 182 | n => n, fun | 9 => 9 | 5 => 5 | 3 => 3 | n => n, fun | n => n⟩
theorem Tryz.lays137 : Go.Proofs.Lays.n137 Tryz.prog Tryz.lays137_ren := {
  mixed := by kernel_rfl
  f137 := Tryz.func151.trans (congrArg some (by kernel_rfl))
  f217 := Tryz.func165.trans (congrArg some (by kernel_rfl))
  f266 := Tryz.func182.trans (congrArg some (by kernel_rfl))
  t3 := Tryz.underlying3
  a3 := Tryz.isAgg3
  z3 := Tryz.sizeOf3
  v3 := Tryz.zeroValue3
  t5 := Tryz.underlying5
  a5 := Tryz.isAgg5
  z5 := Tryz.sizeOf5
  v5 := Tryz.zeroValue5
  t9 := Tryz.underlying9
  a9 := Tryz.isAgg9
  z9 := Tryz.sizeOf9
  v9 := Tryz.zeroValue9 }
open Go.RowKit in
/-- strings.IndexByte: "IndexByte returns the index of the first instance of c in s, or -1 if c is not present in s.": IT RETURNS 'Lib.indexByte s c'; the world is as it was. (LAID: no walk: one application.) -/
theorem Tryz.strings_IndexByte (s : ByteArray) (c : Int) (w : World) :
    Calls Tryz.prog 151 #[.string s, .int .u8 c] w fun e w' => e = .returned (.int .i64 (Lib.indexByte s.data.toList c.toNat.toUInt8)) ∧ w' = w := Any.strings_IndexByte Tryz.lays137 s c w
def Tryz.lays283_ren : Go.Shelf.Ren := ⟨fun | 283 => 133 | n => n, fun | 3 => 3 | 9 => 9 | 4 => 4 | n => n, fun | n => n⟩
theorem Tryz.lays283 : Go.Proofs.Lays.n283 Tryz.prog Tryz.lays283_ren := {
  mixed := by kernel_rfl
  f283 := Tryz.func133.trans (congrArg some (by kernel_rfl))
  t3 := Tryz.underlying3
  a3 := Tryz.isAgg3
  z3 := Tryz.sizeOf3
  v3 := Tryz.zeroValue3
  t4 := Tryz.underlying4
  a4 := Tryz.isAgg4
  z4 := Tryz.sizeOf4
  v4 := Tryz.zeroValue4
  t9 := Tryz.underlying9
  a9 := Tryz.isAgg9
  z9 := Tryz.sizeOf9
  v9 := Tryz.zeroValue9 }
open Go.Lib in
/-- internal/strconv.small: "small returns the string for an i with 0 <= i < nSmalls.": i's decimal numeral. The world is as it was. (LAID: no walk: one application.) -/
theorem Tryz.internal_strconv_small (i : Nat) (h : i < 100) (w : World) :
    Calls Tryz.prog 133 #[.int .i64 i] w fun e w' => e = .returned (.string ⟨(Lib.decDigits i).toArray⟩) ∧ w' = w := Any.internal_strconv_small Tryz.lays283 i h w
def Tryz.laysM284_ren : Go.Shelf.Ren := ⟨fun | 284 => 134 | 129 => 161 | 317 => 160 | 318 => 162 | n => n, fun | 53 => 23 | 3 => 3 | 212 => 225 | 0 => 0 | 4 => 4 | 46 => 121 | 5 => 5 | 9 => 9 | n => n, fun | 17 => 1 | n => n⟩
theorem Tryz.laysM284 : Go.Proofs.LaysM.n284 Tryz.prog Tryz.laysM284_ren := {
  mixed := by kernel_rfl
  f129 := Tryz.func161.trans (congrArg some (by kernel_rfl))
  f284 := Tryz.func134.trans (congrArg some (by kernel_rfl))
  f317 := Tryz.func160.trans (congrArg some (by kernel_rfl))
  f318 := Tryz.func162.trans (congrArg some (by kernel_rfl))
  t0 := Tryz.underlying0
  a0 := Tryz.isAgg0
  z0 := Tryz.sizeOf0
  v0 := Tryz.zeroValue0
  t3 := Tryz.underlying3
  a3 := Tryz.isAgg3
  z3 := Tryz.sizeOf3
  v3 := Tryz.zeroValue3
  t4 := Tryz.underlying4
  a4 := Tryz.isAgg4
  z4 := Tryz.sizeOf4
  v4 := Tryz.zeroValue4
  t5 := Tryz.underlying5
  a5 := Tryz.isAgg5
  z5 := Tryz.sizeOf5
  v5 := Tryz.zeroValue5
  t9 := Tryz.underlying9
  a9 := Tryz.isAgg9
  z9 := Tryz.sizeOf9
  v9 := Tryz.zeroValue9
  t46 := Tryz.underlying121
  a46 := Tryz.isAgg121
  z46 := Tryz.sizeOf121
  v46 := Tryz.zeroValue121
  t53 := Tryz.underlying23
  a53 := Tryz.isAgg23
  z53 := Tryz.sizeOf23
  v53 := Tryz.zeroValue23
  t212 := Tryz.underlying225
  a212 := Tryz.isAgg225
  z212 := Tryz.sizeOf225
  v212 := Tryz.zeroValue225
  g17 := by kernel_rfl
  i0 := by kernel_rfl
  i3 := by kernel_rfl
  i4 := by kernel_rfl
  i5 := by kernel_rfl
  i9 := by kernel_rfl
  i46 := by kernel_rfl
  i53 := by kernel_rfl
  i212 := by kernel_rfl
  m17 := by kernel_rfl }
open Go.Lib in
/-- internal/strconv.numDigits, at a d that is not 0: THE NUMBER OF d's DECIMAL DIGITS. The world is as it was. (LAID: no walk: one application.) -/
theorem Tryz.internal_strconv_numDigits (u : Nat) (h1 : 1 ≤ u) (h2 : u < 18446744073709551616) (w : World) (htab : Lib.TabIs Tryz.prog w "internal/strconv.uint64pow10" .u64 Lib.pow10Tab) :
    Calls Tryz.prog 134 #[.int .u64 u] w fun e w' => e = .returned (.int .i64 (Lib.nDigits u)) ∧ w' = w := Any.internal_strconv_numDigits Tryz.laysM284 u h1 h2 w htab
def Tryz.lays285_ren : Go.Shelf.Ren := ⟨fun | 285 => 135 | n => n, fun | 37 => 158 | 53 => 23 | 3 => 3 | 4 => 4 | 51 => 110 | 9 => 9 | 5 => 5 | 0 => 0 | n => n, fun | n => n⟩
theorem Tryz.lays285 : Go.Proofs.Lays.n285 Tryz.prog Tryz.lays285_ren := {
  mixed := by kernel_rfl
  f285 := Tryz.func135.trans (congrArg some (by kernel_rfl))
  t0 := Tryz.underlying0
  a0 := Tryz.isAgg0
  z0 := Tryz.sizeOf0
  v0 := Tryz.zeroValue0
  t3 := Tryz.underlying3
  a3 := Tryz.isAgg3
  z3 := Tryz.sizeOf3
  v3 := Tryz.zeroValue3
  t4 := Tryz.underlying4
  a4 := Tryz.isAgg4
  z4 := Tryz.sizeOf4
  v4 := Tryz.zeroValue4
  t5 := Tryz.underlying5
  a5 := Tryz.isAgg5
  z5 := Tryz.sizeOf5
  v5 := Tryz.zeroValue5
  t9 := Tryz.underlying9
  a9 := Tryz.isAgg9
  z9 := Tryz.sizeOf9
  v9 := Tryz.zeroValue9
  t37 := Tryz.underlying158
  a37 := Tryz.isAgg158
  z37 := Tryz.sizeOf158
  v37 := Tryz.zeroValue158
  t51 := Tryz.underlying110
  a51 := Tryz.isAgg110
  z51 := Tryz.sizeOf110
  v51 := Tryz.zeroValue110
  t53 := Tryz.underlying23
  a53 := Tryz.isAgg23
  z53 := Tryz.sizeOf23
  v53 := Tryz.zeroValue23 }
open Go.RowKit Go.Sort Go.Lib in
/-- internal/strconv.formatBase10: "formatBase10 formats the decimal representation of u into a. The caller is responsible for ensuring that a is big enough to hold u. If a is too big, leading zeros will be filled in as needed.": THE ROW HOLDS u's DIGITS ('FmtInv .. 0 ..': every place t holds 'dg u (len - 1 - t)'); all else is as it was but for the count of draws. (LAID: no walk: one application.) -/
theorem Tryz.internal_strconv_formatBase10 (blk off cap : Nat) (u : Nat) (d : Array UInt8) (w : World) (hH : Holds (fun (b : UInt8) => Value.int .u8 (b.toNat : Int)) w blk off d) (hu : u < 10 ^ d.size) (hu64 : u < 18446744073709551616) (hsz : d.size < 4611686018427387904) :
    Calls Tryz.prog 135 #[.slice (some ⟨blk, off, none⟩) d.size cap, .int .u64 u] w fun e w' =>
      e = .returned (.tuple #[]) ∧ ∃ (n v' : Nat) (dk : Array UInt8), w' = (putRow (fun (b : UInt8) => Value.int .u8 (b.toNat : Int)) w blk off dk).drewN n ∧ FmtInv d.size u 0 v' dk := Any.internal_strconv_formatBase10 Tryz.lays285 blk off cap u d w hH hu hu64 hsz
def Tryz.laysC172_ren : Go.Shelf.Ren := ⟨fun | 172 => 110 | 244 => 144 | 245 => 145 | 247 => 169 | 279 => 170 | 280 => 171 | 281 => 172 | 282 => 173 | 287 => 184 | 316 => 185 | 171 => 71 | 205 => 186 | 321 => 190 | 322 => 191 | 243 => 116 | 246 => 149 | 283 => 133 | 284 => 134 | 285 => 135 | 286 => 136 | 129 => 161 | 317 => 160 | 318 => 162 | 319 => 163 | 320 => 164 | 337 => 180 | 338 => 181 | n => n, fun | 9 => 9 | 3 => 3 | 75 => 163 | 76 => 164 | 4 => 4 | 5 => 5 | 167 => 229 | 37 => 158 | 0 => 0 | 85 => 230 | 2 => 2 | 168 => 232 | 53 => 23 | 175 => 247 | 46 => 121 | 210 => 250 | 127 => 192 | 145 => 263 | 143 => 261 | 21 => 21 | 171 => 199 | 173 => 202 | 212 => 225 | 51 => 110 | 20 => 20 | 213 => 226 | 232 => 258 | 233 => 259 | 80 => 40 | n => n, fun | 15 => 5 | 16 => 6 | 17 => 1 | 18 => 7 | 19 => 8 | n => n⟩
theorem Tryz.laysC172 : Go.Proofs.LaysC.n172 Tryz.prog Tryz.laysC172_ren := {
  mixed := by kernel_rfl
  f129 := Tryz.func161.trans (congrArg some (by kernel_rfl))
  f171 := Tryz.func71.trans (congrArg some (by kernel_rfl))
  f172 := Tryz.func110.trans (congrArg some (by kernel_rfl))
  f205 := Tryz.func186.trans (congrArg some (by kernel_rfl))
  f243 := Tryz.func116.trans (congrArg some (by kernel_rfl))
  f244 := Tryz.func144.trans (congrArg some (by kernel_rfl))
  f245 := Tryz.func145.trans (congrArg some (by kernel_rfl))
  f246 := Tryz.func149.trans (congrArg some (by kernel_rfl))
  f247 := Tryz.func169.trans (congrArg some (by kernel_rfl))
  f279 := Tryz.func170.trans (congrArg some (by kernel_rfl))
  f280 := Tryz.func171.trans (congrArg some (by kernel_rfl))
  f281 := Tryz.func172.trans (congrArg some (by kernel_rfl))
  f282 := Tryz.func173.trans (congrArg some (by kernel_rfl))
  f283 := Tryz.func133.trans (congrArg some (by kernel_rfl))
  f284 := Tryz.func134.trans (congrArg some (by kernel_rfl))
  f285 := Tryz.func135.trans (congrArg some (by kernel_rfl))
  f286 := Tryz.func136.trans (congrArg some (by kernel_rfl))
  f287 := Tryz.func184.trans (congrArg some (by kernel_rfl))
  f316 := Tryz.func185.trans (congrArg some (by kernel_rfl))
  f317 := Tryz.func160.trans (congrArg some (by kernel_rfl))
  f318 := Tryz.func162.trans (congrArg some (by kernel_rfl))
  f319 := Tryz.func163.trans (congrArg some (by kernel_rfl))
  f320 := Tryz.func164.trans (congrArg some (by kernel_rfl))
  f321 := Tryz.func190.trans (congrArg some (by kernel_rfl))
  f322 := Tryz.func191.trans (congrArg some (by kernel_rfl))
  f337 := Tryz.func180.trans (congrArg some (by kernel_rfl))
  f338 := Tryz.func181.trans (congrArg some (by kernel_rfl))
  t0 := Tryz.underlying0
  a0 := Tryz.isAgg0
  z0 := Tryz.sizeOf0
  v0 := Tryz.zeroValue0
  t2 := Tryz.underlying2
  a2 := Tryz.isAgg2
  z2 := Tryz.sizeOf2
  v2 := Tryz.zeroValue2
  t3 := Tryz.underlying3
  a3 := Tryz.isAgg3
  z3 := Tryz.sizeOf3
  v3 := Tryz.zeroValue3
  t4 := Tryz.underlying4
  a4 := Tryz.isAgg4
  z4 := Tryz.sizeOf4
  v4 := Tryz.zeroValue4
  t5 := Tryz.underlying5
  a5 := Tryz.isAgg5
  z5 := Tryz.sizeOf5
  v5 := Tryz.zeroValue5
  t9 := Tryz.underlying9
  a9 := Tryz.isAgg9
  z9 := Tryz.sizeOf9
  v9 := Tryz.zeroValue9
  t20 := Tryz.underlying20
  a20 := Tryz.isAgg20
  z20 := Tryz.sizeOf20
  v20 := Tryz.zeroValue20
  t21 := Tryz.underlying21
  a21 := Tryz.isAgg21
  z21 := Tryz.sizeOf21
  v21 := Tryz.zeroValue21
  t37 := Tryz.underlying158
  a37 := Tryz.isAgg158
  z37 := Tryz.sizeOf158
  v37 := Tryz.zeroValue158
  t46 := Tryz.underlying121
  a46 := Tryz.isAgg121
  z46 := Tryz.sizeOf121
  v46 := Tryz.zeroValue121
  t51 := Tryz.underlying110
  a51 := Tryz.isAgg110
  z51 := Tryz.sizeOf110
  v51 := Tryz.zeroValue110
  t53 := Tryz.underlying23
  a53 := Tryz.isAgg23
  z53 := Tryz.sizeOf23
  v53 := Tryz.zeroValue23
  t75 := Tryz.underlying163
  a75 := Tryz.isAgg163
  z75 := Tryz.sizeOf163
  v75 := Tryz.zeroValue163
  t76 := Tryz.underlying164
  a76 := Tryz.isAgg164
  z76 := Tryz.sizeOf164
  v76 := Tryz.zeroValue164
  t85 := Tryz.underlying230
  a85 := Tryz.isAgg230
  z85 := Tryz.sizeOf230
  v85 := Tryz.zeroValue230
  t127 := Tryz.underlying192
  a127 := Tryz.isAgg192
  z127 := Tryz.sizeOf192
  v127 := Tryz.zeroValue192
  t143 := Tryz.underlying261
  a143 := Tryz.isAgg261
  z143 := Tryz.sizeOf261
  v143 := Tryz.zeroValue261
  t145 := Tryz.underlying263
  a145 := Tryz.isAgg263
  z145 := Tryz.sizeOf263
  v145 := Tryz.zeroValue263
  t167 := Tryz.underlying229
  a167 := Tryz.isAgg229
  z167 := Tryz.sizeOf229
  v167 := Tryz.zeroValue229
  t168 := Tryz.underlying232
  a168 := Tryz.isAgg232
  z168 := Tryz.sizeOf232
  v168 := Tryz.zeroValue232
  t171 := Tryz.underlying199
  a171 := Tryz.isAgg199
  z171 := Tryz.sizeOf199
  v171 := Tryz.zeroValue199
  t173 := Tryz.underlying202
  a173 := Tryz.isAgg202
  z173 := Tryz.sizeOf202
  v173 := Tryz.zeroValue202
  t175 := Tryz.underlying247
  a175 := Tryz.isAgg247
  z175 := Tryz.sizeOf247
  v175 := Tryz.zeroValue247
  t210 := Tryz.underlying250
  a210 := Tryz.isAgg250
  z210 := Tryz.sizeOf250
  v210 := Tryz.zeroValue250
  t212 := Tryz.underlying225
  a212 := Tryz.isAgg225
  z212 := Tryz.sizeOf225
  v212 := Tryz.zeroValue225
  t213 := Tryz.underlying226
  a213 := Tryz.isAgg226
  z213 := Tryz.sizeOf226
  t232 := Tryz.underlying258
  a232 := Tryz.isAgg258
  z232 := Tryz.sizeOf258
  v232 := Tryz.zeroValue258
  t233 := Tryz.underlying259
  a233 := Tryz.isAgg259
  z233 := Tryz.sizeOf259
  v233 := Tryz.zeroValue259
  g15 := by kernel_rfl
  g16 := by kernel_rfl
  g17 := by kernel_rfl
  g18 := by kernel_rfl
  g19 := by kernel_rfl
  t80 := Tryz.underlying40
  a80 := Tryz.isAgg40
  z80 := Tryz.sizeOf40
  v80 := Tryz.zeroValue40
  i0 := by kernel_rfl
  i2 := by kernel_rfl
  i3 := by kernel_rfl
  i4 := by kernel_rfl
  i5 := by kernel_rfl
  i9 := by kernel_rfl
  i20 := by kernel_rfl
  i21 := by kernel_rfl
  i37 := by kernel_rfl
  i46 := by kernel_rfl
  i51 := by kernel_rfl
  i53 := by kernel_rfl
  i75 := by kernel_rfl
  i76 := by kernel_rfl
  i80 := by kernel_rfl
  i85 := by kernel_rfl
  i127 := by kernel_rfl
  i143 := by kernel_rfl
  i145 := by kernel_rfl
  i167 := by kernel_rfl
  i168 := by kernel_rfl
  i171 := by kernel_rfl
  i173 := by kernel_rfl
  i175 := by kernel_rfl
  i210 := by kernel_rfl
  i212 := by kernel_rfl
  i232 := by kernel_rfl
  i233 := by kernel_rfl
  m15 := by kernel_rfl
  m16 := by kernel_rfl
  m17 := by kernel_rfl
  m18 := by kernel_rfl
  m19 := by kernel_rfl
  c0 := by kernel_rfl
  c2 := by kernel_rfl
  c3 := by kernel_rfl
  c4 := by kernel_rfl
  c5 := by kernel_rfl
  c9 := by kernel_rfl
  c20 := by kernel_rfl
  c21 := by kernel_rfl
  c37 := by kernel_rfl
  c46 := by kernel_rfl
  c51 := by kernel_rfl
  c53 := by kernel_rfl
  c75 := by kernel_rfl
  c76 := by kernel_rfl
  c80 := by kernel_rfl
  c85 := by kernel_rfl
  c127 := by kernel_rfl
  c143 := by kernel_rfl
  c145 := by kernel_rfl
  c167 := by kernel_rfl
  c168 := by kernel_rfl
  c171 := by kernel_rfl
  c173 := by kernel_rfl
  c175 := by kernel_rfl
  c210 := by kernel_rfl
  c212 := by kernel_rfl
  c213 := by kernel_rfl
  c232 := by kernel_rfl
  c233 := by kernel_rfl }
open Go.RowKit in
/-- strconv.Atoi, AT EVERY STRING THAT SPELLS AN int ('Lib.atoiAll .. = .ok v'; of whatever length: leading zeros count): v, AND NO ERROR. The world: as it was, or with the one new row that '[]byte(..)' lays. (LAID: no walk: one application.) -/
theorem Tryz.strconv_Atoi_ok (s : ByteArray) (hmax : s.size ≤ 9223372036854775806) (v : Int) (h : Lib.atoiAll s.data.toList = .ok v) (w : World) :
    Calls Tryz.prog 110 #[.string s] w fun e w' => e = .returned (.tuple #[.int .i64 v, .nilIface]) ∧ (w' = w ∨ ∃ t, w' = Lib.bytesWorld w 5 t) := Any.strconv_Atoi_ok Tryz.laysC172 s hmax v h w
open Go.RowKit in
/-- strconv.Atoi, AT EVERY NUMERAL THAT NO int HOLDS ('.range'): THE GREATEST OR THE LEAST int, BY THE SIGN ('Lib.atoiSat'), AND AN ERROR THAT IS NOT nil: a *NumError in a new block N: {Func: "Atoi", Num: s's bytes, Err: what the variable ErrRange holds}. Of what was there nothing has turned. (LAID: no walk: one application.) -/
theorem Tryz.strconv_Atoi_range (s : ByteArray) (hlim : s.size ≤ 281474976710656) (h : Lib.atoiAll s.data.toList = .range) (ev : Value) (w : World) (hv : w.cell? ⟨6, 0, none⟩ = some ev) (hev : ev = .nilIface ∨ ∃ te pe, ev = .iface te pe) :
    Calls Tryz.prog 110 #[.string s] w fun e w' => ∃ N, e = .returned (.tuple #[.int .i64 (Lib.atoiSat s.data.toList), .iface 232 (.pointer (some ⟨N, 0, none⟩))]) ∧ w.heap.size ≤ N ∧ w'.heap[N]? = some (.cells #[.string ⟨#[65, 116, 111, 105]⟩, .string s, ev] 250 (0, 0)) ∧ Below w.heap.size w w' := Any.strconv_Atoi_range Tryz.laysC172 s hlim h ev w hv hev
end Go.Proofs

/- scalar.Split and number.Ends. -/
namespace Go.Proofs.YtplehdcnnaamkaaGreatDoor
open Go.RowKit Go.Proofs.YtplehdcnnaamkaaGreatDoorW.PrintWords Go.Proofs.YtplehdcnnaamkaaGreatDoorW.PrintMore

def strs (l : List (List UInt8)) : List ByteArray := l.map fun x => ⟨x.toArray⟩
theorem strs_length (l : List (List UInt8)) : (strs l).length = l.length := by simp [strs]
theorem strs_append (a b : List (List UInt8)) : strs (a ++ b) = strs a ++ strs b := by simp [strs]
/-- A piece of a text. -/
def piece (s : ByteArray) (a b : Nat) : List UInt8 := (s.data.toList.drop a).take (b - a)
theorem extract_piece (s : ByteArray) (a b : Nat) : s.extract a b = ⟨(piece s a b).toArray⟩ := by
  apply ByteArray.ext
  apply Array.ext'
  rw [Lib.extract_data]
  simp [piece]
theorem piece_self (s : ByteArray) (a : Nat) : piece s a a = [] := by simp [piece]
theorem piece_step (s : ByteArray) (a b : Nat) (h : a ≤ b) (hb : b < s.size) : piece s a (b + 1) = piece s a b ++ [s[b]'hb] := by
  unfold piece
  rw [show b + 1 - a = (b - a) + 1 by omega, List.take_succ_eq_append_getElem (by simp; omega)]
  congr 1
  simp
  have : a + (b - a) = b := by omega
  simp only [this]
  rfl
/-- Is a byte one of those to split at? -/
def isAt (at_ : ByteArray) (c : UInt8) : Bool := decide (0 ≤ Lib.indexByte at_.data.toList c)

set_option maxHeartbeats 1000000 in
theorem Split_calls (s a : ByteArray) (w : World) (hs : s.size ≤ 1000000) :
    Calls Tryz.prog 120 #[.string s, .string a] w fun e w' => ∃ v : Value, e = .returned v ∧ Kd.R Kd.string 9 w' w.heap.size (fun _ => True) v (strs (splitL (isAt a) s.data.toList)) ∧ Below w.heap.size w w' := by
  go_enter Tryz.func120, Tryz.ntmps120
  go_wp2
  go_loopw [5, 6, 10] (fun v fr i wr => ∃ (j k : Nat) (l : List (List UInt8)), i = .int .i64 j ∧ fr = .int .i64 k ∧ k ≤ j ∧ j ≤ s.size ∧ l.length ≤ j ∧ Aside0 (l ++ glue (piece s k j) (splitL (isAt a) (s.data.toList.drop j)) = splitL (isAt a) s.data.toList) ∧ Aside0 (Kd.R Kd.string 9 wr w.heap.size (fun _ => True) v (strs l)) ∧ Aside0 (Below w.heap.size w wr)) (fun _ _ i _ => s.size - (intOf i).toNat)
  case atStart => exact ⟨0, 0, [], rfl, rfl, by omega, by omega, by simp, ⟨by rw [piece_self, glue_nil _ (splitL_ne _ _)]; rfl⟩, ⟨Kd.R_nil _ _ _ _ _⟩, ⟨Below.refl _ _⟩⟩
  case round =>
    obtain ⟨j, k, l, rfl, rfl, hk, hj, hl, hr, HO, HB⟩ := hrel
    have hsz : w.heap.size ≤ wr.heap.size := HB.out.size
    have hll := strs_length l
    have HLL := Lib.hid hll
    clear hll
    by_cases hlt : j < s.size
    · have hb := (s[j]'hlt).toNat_lt
      go_wp2_with fail
      refine (Tryz.strings_IndexByte a _ _).mono ?_
      rintro e w1 ⟨rfl, rfl⟩
      have hbyte : ((s[j]'hlt).toNat : Int).toNat.toUInt8 = s[j]'hlt := by simp
      rw [hbyte]
      clear hbyte
      have Hd := Lib.hid (drop_byte s j hlt)
      cases hc : isAt a (s[j]'hlt)
      · have hc' : ¬ 0 ≤ Lib.indexByte a.data.toList (s[j]'hlt) := by simpa [isAt] using hc
        have Hc := Lib.hid hc
        clear hc
        go_wp2_with fail
        refine ⟨⟨j + 1, k, l, by go_num, rfl, by omega, by omega, by omega, ⟨?_⟩, HO, HB⟩, by simp [intOf]; omega⟩
        rw [← hr.out, Hd.out, split_on _ _ _ _ Hc.out, piece_step s k j hk hlt]
      · have hc' : 0 ≤ Lib.indexByte a.data.toList (s[j]'hlt) := by simpa [isAt] using hc
        have Hc := Lib.hid hc
        clear hc
        go_wp2_with ((with_reducible refine gate_builtin (b := .append) (xs := #[.tmp 19, .tmp 24]) rfl ?_); at_builtin; refine Kd.R_append Kd.string (w0 := w) w.heap.size rfl (.tmp 19) (.tmp 24) 92 9 (.string ⟨#[]⟩) 16 rfl Tryz.underlying92 info_string rfl (by decide) (by omega) u5 (strs l) (s.extract k j) [.string (s.extract k j)] (fun _ => True) (fun _ => False) rfl rfl ?aP (fun _ hk => hk.elim) ?aF ?aO ?aB ?aS ?aL ?_; (case aP => exact rfl); (case aF => exact fun _ _ => trivial); (case aO => exact HO.out); (case aB => exact HB.out); (case aS => omega); (case aL => rw [HLL.out]; omega); intro v1 w1 ho hb hg _)
        refine ⟨⟨j + 1, j + 1, l ++ [piece s k j], by go_num, by go_num, by omega, by omega, by simp; omega, ⟨?_⟩, ⟨?_⟩, ⟨hb⟩⟩, by simp [intOf]; omega⟩
        · rw [← hr.out, Hd.out, split_at _ _ _ _ Hc.out, piece_self, glue_nil _ (splitL_ne _ _), List.append_assoc]
          rfl
        · rw [strs_append, show strs [piece s k j] = [s.extract k j] by rw [extract_piece]; rfl]
          exact ho
    · obtain rfl : j = s.size := by omega
      go_wp2_with ((with_reducible refine gate_builtin (b := .append) (xs := #[.tmp 29, .tmp 33]) rfl ?_); at_builtin; refine Kd.R_append Kd.string (w0 := w) w.heap.size rfl (.tmp 29) (.tmp 33) 92 9 (.string ⟨#[]⟩) 16 rfl Tryz.underlying92 info_string rfl (by decide) (by omega) u5 (strs l) (s.extract k s.size) [.string (s.extract k s.size)] (fun _ => True) (fun _ => False) rfl rfl ?aP (fun _ hk => hk.elim) ?aF ?aO ?aB ?aS ?aL ?_; (case aP => exact rfl); (case aF => exact fun _ _ => trivial); (case aO => exact HO.out); (case aB => exact HB.out); (case aS => omega); (case aL => rw [HLL.out]; omega); intro v1 w1 ho hb hg _)
      go_ret
      refine ⟨_, rfl, ?_, hb⟩
      have he := hr.out
      rw [List.drop_of_length_le (by simp)] at he
      rw [← he, show glue (piece s k s.size) (splitL (isAt a) []) = [piece s k s.size] by simp [splitL, glue], strs_append, show strs [piece s k s.size] = [s.extract k s.size] by rw [extract_piece]; rfl]
      exact ho
end Go.Proofs.YtplehdcnnaamkaaGreatDoor

/- number.Ends, and the chapter's example. -/
namespace Go.Proofs.YtplehdcnnaamkaaGreatDoor
open Go.RowKit Go.Proofs.YtplehdcnnaamkaaGreatDoorW.PrintWords Go.Proofs.YtplehdcnnaamkaaGreatDoorW.PrintMore

theorem C_str_at {w : World} {ad : Addr} {n : Nat} {xs : List ByteArray} (h : Kd.C Kd.string w (some ad) n xs) (j : Nat) (hlt : j < xs.length) : w.cell? (ad.add j) = some (.string (xs[j]'hlt)) := by
  obtain ⟨hl, _, hc⟩ := h
  obtain ⟨ad', e, hc⟩ := hc (by omega)
  obtain rfl := Option.some.inj e
  obtain ⟨c, hc1, hc2, hc3⟩ := hc j (xs[j]'hlt) (List.getElem?_eq_getElem hlt)
  obtain rfl : c = [.string (xs[j]'hlt)] := hc2
  have := hc3 0 (.string (xs[j]'hlt)) rfl
  have hsz : (Kd.string).sz = 1 := rfl
  rw [hsz] at this
  rw [show j * 1 + 0 = j by omega] at this
  exact this

theorem mk_size (l : List UInt8) : (ByteArray.mk l.toArray).size = l.length := by
  show l.toArray.size = _
  simp
/-- A name's last part; where that is empty, and another stands ahead, that one. -/
def lastP (P : List (List UInt8)) : List UInt8 := if P.getD (P.length - 1) [] = [] ∧ 1 < P.length then P.getD (P.length - 2) [] else P.getD (P.length - 1) []
/-- Does a name end in a number? -/
def endsL (l : List UInt8) : Bool := parseOk (lastP (splitL (isAt ⟨#[46]⟩) l)) || digitsL (lastP (splitL (isAt ⟨#[46]⟩) l))

theorem strs_get (P : List (List UInt8)) (j : Nat) (h : j < (strs P).length) : (strs P)[j]'h = ⟨(P.getD j []).toArray⟩ := by
  have h' : j < P.length := by rw [strs_length] at h; exact h
  simp only [strs, List.getElem_map]
  rw [List.getD_eq_getElem?_getD, List.getElem?_eq_getElem h']
  rfl
theorem splitL_size (p : UInt8 → Bool) : ∀ l : List UInt8, (splitL p l).length ≤ l.length + 1
  | [] => by simp [splitL]
  | c :: r => by
    have ih := splitL_size p r
    unfold splitL
    split
    · simp; omega
    · split
      · simp
      · rename_i h t hs
        rw [hs] at ih
        simp at ih ⊢
        omega
theorem splitL_part (p : UInt8 → Bool) : ∀ (l : List UInt8), ∀ x ∈ splitL p l, x.length ≤ l.length
  | [], x, h => by simp [splitL] at h; simp [h]
  | c :: r, x, h => by
    unfold splitL at h
    split at h
    · rcases List.mem_cons.1 h with rfl | h
      · simp
      · have := splitL_part p r x h
        simp; omega
    · split at h
      · rename_i hs
        exact absurd hs (splitL_ne p r)
      · rename_i a t hs
        rcases List.mem_cons.1 h with rfl | h
        · have := splitL_part p r a (by rw [hs]; simp)
          simp; omega
        · have := splitL_part p r x (by rw [hs]; simp [h])
          simp; omega
theorem getD_len (P : List (List UInt8)) (n j : Nat) (h : ∀ x ∈ P, x.length ≤ n) : (P.getD j []).length ≤ n := by
  rw [List.getD_eq_getElem?_getD]
  rcases hj : P[j]? with _ | x
  · simp
  · exact h x (List.mem_of_getElem? hj)

set_option maxHeartbeats 2000000 in
theorem Ends_calls (s : ByteArray) (w : World) (hs : s.size ≤ 900000) :
    Calls Tryz.prog 189 #[.string s] w fun e w' => e = .returned (.bool (endsL s.data.toList)) ∧ Below w.heap.size w w' := by
  go_enter Tryz.func189, Tryz.ntmps189
  go_wp2_with fail
  refine (Split_calls s _ _ (by omega)).mono ?_
  rintro e w1 ⟨v, rfl, hv, hb⟩
  obtain ⟨A, c, rfl, hcap, hC⟩ := Kd.R_reads hv
  have hpart := splitL_part (isAt ⟨#[46]⟩) s.data.toList
  have hne := splitL_ne (isAt ⟨#[46]⟩) s.data.toList
  have hln := splitL_size (isAt ⟨#[46]⟩) s.data.toList
  rw [show s.data.toList.length = s.size by simp] at hln hpart
  have EL : endsL s.data.toList = (parseOk (lastP (splitL (isAt ⟨#[46]⟩) s.data.toList)) || digitsL (lastP (splitL (isAt ⟨#[46]⟩) s.data.toList))) := rfl
  generalize splitL (isAt ⟨#[46]⟩) s.data.toList = P at hv hcap hC hpart hne hln EL ⊢
  have hlen := strs_length P
  have hpos : 0 < (strs P).length := by
    rw [hlen]
    exact List.length_pos_iff.2 hne
  obtain ⟨ad, rfl⟩ := C_some hC hpos
  obtain ⟨m, hm⟩ : ∃ m, P.length = m + 1 := ⟨P.length - 1, by omega⟩
  have hm' : (strs P).length = m + 1 := by omega
  have h1 := strs_get P m (by omega)
  have c1 := C_str_at hC m (by omega)
  have hlast := getD_len P s.size m hpart
  obtain ⟨q, hq⟩ : ∃ q : ByteArray, q = ⟨(P.getD m []).toArray⟩ := ⟨_, rfl⟩
  rw [h1, ← hq] at c1
  have hql : q.data.toList = P.getD m [] := by rw [hq]
  have hqs : q.size ≤ s.size := by rw [hq, mk_size]; exact hlast
  have hmb : m ≤ 1000000 := by omega
  have HB := Aside0.mk hb
  have HE := Lib.hid EL
  have HM := Lib.hid hm
  have HM' := Lib.hid hm'
  have HP := Lib.hid hpart
  have HC := Lib.hid hC
  have HQ := Lib.hid hql
  rw [hm']
  clear hv hC hb EL h1 hpart hne hpos hlen hm hm' hcap hln hq hql hlast
  by_cases he : q.data.toList = []
  · have e0 : q.toList.isEmpty = true := by rw [toList_eq, he]; rfl
    by_cases h2 : 1 ≤ m
    · have L := Lib.hid (show lastP P = P.getD (m - 1) [] by rw [lastP, HM.out, if_pos ⟨by rw [Nat.add_sub_cancel, ← HQ.out, he], by omega⟩]; rfl)
      have c2 := C_str_at HC.out (m - 1) (by have := HM'.out; omega)
      rw [strs_get P (m - 1) (by have := HM'.out; omega)] at c2
      have hprev := getD_len P s.size (m - 1) HP.out
      obtain ⟨y, hy⟩ : ∃ y : ByteArray, y = ⟨(P.getD (m - 1) []).toArray⟩ := ⟨_, rfl⟩
      rw [← hy] at c2
      have c3 := c2
      rw [show m - 1 = m + 1 - 2 by omega] at c3
      have hys : y.size ≤ s.size := by rw [hy, mk_size]; exact hprev
      have HY := Lib.hid (show y.data.toList = lastP P by rw [hy, L.out])
      clear he hy hprev L
      go_wp2_with fail
      refine (Parse_calls y (by omega) _).mono ?_
      rintro e w2 ⟨rfl, hb2⟩
      cases hp : parseOk y.data.toList
      · have HQ := Lib.hid hp
        clear hp
        go_wp2_with fail
        refine (digits_calls _ _).mono ?_
        rintro e w3 ⟨rfl, hb3⟩
        go_wp2_with fail
        go_ret
        have B2 := below_then HB.out HB.out.size hb2
        exact ⟨ret_bool (by rw [HE.out, ← HY.out, HQ.out]; simp), below_then B2 B2.size hb3⟩
      · have HQ := Lib.hid hp
        clear hp
        go_wp2_with fail
        go_ret
        exact ⟨ret_bool (by rw [HE.out, ← HY.out, HQ.out]; rfl), below_then HB.out HB.out.size hb2⟩
    · obtain rfl : m = 0 := by omega
      have HY := Lib.hid (show q.data.toList = lastP P by rw [lastP, HM.out, if_neg (fun h => by omega), HQ.out])
      replace c1 : w1.cell? ad = some (.string q) := c1
      clear he
      go_wp2_with fail
      refine (Parse_calls q (by omega) _).mono ?_
      rintro e w2 ⟨rfl, hb2⟩
      cases hp : parseOk q.data.toList
      · have HQ := Lib.hid hp
        clear hp
        go_wp2_with fail
        refine (digits_calls _ _).mono ?_
        rintro e w3 ⟨rfl, hb3⟩
        go_wp2_with fail
        go_ret
        have B2 := below_then HB.out HB.out.size hb2
        exact ⟨ret_bool (by rw [HE.out, ← HY.out, HQ.out]; simp), below_then B2 B2.size hb3⟩
      · have HQ := Lib.hid hp
        clear hp
        go_wp2_with fail
        go_ret
        exact ⟨ret_bool (by rw [HE.out, ← HY.out, HQ.out]; rfl), below_then HB.out HB.out.size hb2⟩
  · have HY := Lib.hid (show q.data.toList = lastP P by rw [lastP, HM.out, if_neg (fun h => he (by rw [HQ.out]; exact h.1)), HQ.out]; rfl)
    have e0 : q.toList.isEmpty = false := by rw [toList_eq]; simpa using he
    clear he
    go_wp2_with fail
    refine (Parse_calls q (by omega) _).mono ?_
    rintro e w2 ⟨rfl, hb2⟩
    cases hp : parseOk q.data.toList
    · have HQ := Lib.hid hp
      clear hp
      go_wp2_with fail
      refine (digits_calls _ _).mono ?_
      rintro e w3 ⟨rfl, hb3⟩
      go_wp2_with fail
      go_ret
      have B2 := below_then HB.out HB.out.size hb2
      exact ⟨ret_bool (by rw [HE.out, ← HY.out, HQ.out]; simp), below_then B2 B2.size hb3⟩
    · have HQ := Lib.hid hp
      clear hp
      go_wp2_with fail
      go_ret
      exact ⟨ret_bool (by rw [HE.out, ← HY.out, HQ.out]; rfl), below_then HB.out HB.out.size hb2⟩
end Go.Proofs.YtplehdcnnaamkaaGreatDoor

/- The last part of a name: plain Lean. -/
namespace Go.Proofs.YtplehdcnnaamkaaGreatDoor
open Go.RowKit Go.Proofs.YtplehdcnnaamkaaGreatDoorW.PrintWords

theorem dot_at (c : UInt8) : isAt ⟨#[46]⟩ c = (c == 46) := by
  rw [isAt, ← Lib.contains_iff_indexByte]
  rw [Bool.eq_iff_iff]
  simp
end Go.Proofs.YtplehdcnnaamkaaGreatDoor

/- Decimal numbers: plain Lean. -/
namespace Go.Proofs.YtplehdcnnaamkaaGreatDoor
open Go.RowKit Go.Proofs.YtplehdcnnaamkaaGreatDoorW.PrintWords

/-- Digits, added up. -/
def accD : Int → List Int → Int
  | n, [] => n
  | n, r :: rs => accD (10 * n + (r - 48)) rs
def decV (l : List UInt8) : Int := accD 0 (intsOf l)
theorem accD_mono : ∀ (l : List Int) (n : Int), 0 ≤ n → l.all isDig = true → n ≤ accD n l
  | [], n, _, _ => Int.le_refl _
  | r :: rs, n, h0, h => by
    rw [List.all_cons, Bool.and_eq_true] at h
    have hr : 48 ≤ r ∧ r ≤ 57 := by have := h.1; simp [isDig] at this; exact this
    have := accD_mono rs (10 * n + (r - 48)) (by omega) h.2
    unfold accD
    omega
/-- A decimal number of at most another: digits, no nought ahead. -/
def plainD (l : List UInt8) : Bool := digitsL l && !(decide (1 < l.length) && l.head? == some 48)
def decOk (l : List UInt8) (most : Int) : Bool := plainD l && decide (decV l ≤ most)
def decN (l : List UInt8) (most : Int) : Int := if decOk l most = true then decV l else 0
theorem isDig_iff (r : Int) : isDig r = true ↔ 48 ≤ r ∧ r ≤ 57 := by simp [isDig]
theorem parse_digits : ∀ (l : List UInt8) (acc : Nat), acc < 18446744073709551616 → (intsOf l).all isDig = true →
    (accD acc (intsOf l) < 18446744073709551616 → ∃ u : Nat, Lib.parseUint10 acc l = .ok u ∧ (u : Int) = accD acc (intsOf l)) ∧ (18446744073709551616 ≤ accD acc (intsOf l) → Lib.parseUint10 acc l = .range)
  | [], acc, ha, _ => ⟨fun _ => ⟨acc, rfl, rfl⟩, fun h => by
      exfalso
      have : accD (acc : Int) (intsOf []) = acc := rfl
      omega⟩
  | c :: r, acc, ha, h => by
    rw [show intsOf (c :: r) = (c.toNat : Int) :: intsOf r from rfl, List.all_cons, Bool.and_eq_true] at h
    have hc := (isDig_iff _).1 h.1
    have e : accD (acc : Int) (intsOf (c :: r)) = accD ((acc * 10 + (c.toNat - 48) : Nat) : Int) (intsOf r) := by
      rw [show intsOf (c :: r) = (c.toNat : Int) :: intsOf r from rfl, accD]
      congr 1
      omega
    have hm := accD_mono (intsOf r) ((acc * 10 + (c.toNat - 48) : Nat) : Int) (by omega) h.2
    rw [e, Lib.parseUint10, if_pos ⟨by omega, by omega⟩]
    by_cases h1 : 1844674407370955162 ≤ acc
    · rw [if_pos h1]
      exact ⟨fun _ => by omega, fun _ => rfl⟩
    · rw [if_neg h1]
      by_cases h2 : 18446744073709551616 ≤ acc * 10 + (c.toNat - 48)
      · rw [if_pos h2]
        exact ⟨fun _ => by omega, fun _ => rfl⟩
      · rw [if_neg h2]
        exact parse_digits r _ (by omega) h.2
theorem atoi_digits (l : List UInt8) (h : digitsL l = true) : (decV l ≤ 9223372036854775807 → Lib.atoiAll l = .ok (decV l)) ∧ (9223372036854775807 < decV l → Lib.atoiAll l = .range) := by
  rw [digitsL, Bool.and_eq_true] at h
  rcases l with _ | ⟨c, r⟩
  · simp at h
  · have hc := h.2
    rw [show intsOf (c :: r) = (c.toNat : Int) :: intsOf r from rfl, List.all_cons, Bool.and_eq_true] at hc
    have hc1 := (isDig_iff _).1 hc.1
    rw [Lib.atoiAll_plain c r (by omega) (by omega), Lib.parseMag, if_neg (by simp)]
    have := parse_digits (c :: r) 0 (by omega) h.2
    rw [show accD ((0 : Nat) : Int) (intsOf (c :: r)) = decV (c :: r) from rfl] at this
    constructor
    · intro hv
      obtain ⟨u, hu, hu2⟩ := this.1 (by omega)
      rw [hu, Lib.signless, if_neg (by omega), hu2]
    · intro hv
      rcases Int.lt_or_le (decV (c :: r)) 18446744073709551616 with hl | hl
      · obtain ⟨u, hu, hu2⟩ := this.1 hl
        rw [hu, Lib.signless, if_pos (by omega)]
      · rw [this.2 hl]
        rfl
theorem decV_nonneg (l : List UInt8) (h : digitsL l = true) : 0 ≤ decV l := by
  rw [digitsL, Bool.and_eq_true] at h
  exact accD_mono _ 0 (Int.le_refl _) h.2
end Go.Proofs.YtplehdcnnaamkaaGreatDoor

/- Addresses of four bytes, as they are read: plain Lean. -/
namespace Go.Proofs.YtplehdcnnaamkaaGreatDoor
open Go.RowKit Go.Proofs.YtplehdcnnaamkaaGreatDoorW.PrintWords

/-- The parts of an address: an empty one behind the last point is left out. -/
def partsF (P : List (List UInt8)) : List (List UInt8) := if 1 < P.length ∧ P.getD (P.length - 1) [] = [] then P.take (P.length - 1) else P
/-- The parts from place j on, added up. -/
def sumF (n : Nat) : Nat → Int → List (List UInt8) → Option Int
  | _, s, [] => some (s % 4294967296)
  | j, s, p :: ps => match parseL p with
    | none => none
    | some x => if j + 1 = n then (if (256 : Int) ^ (5 - n) ≤ x then none else sumF n (j + 1) (s + x) ps) else if 256 ≤ x then none else sumF n (j + 1) (s + x * (256 : Int) ^ (3 - j)) ps
def fourP (Q : List (List UInt8)) : Option Int := if 4 < Q.length then none else sumF Q.length 0 0 Q
def fourL (l : List UInt8) : Option Int := fourP (partsF (splitL (isAt ⟨#[46]⟩) l))
def fourN (l : List UInt8) : Int := (fourL l).getD 0
def fourOk (l : List UInt8) : Bool := (fourL l).isSome
theorem partsF_ne (P : List (List UInt8)) (h : P ≠ []) : partsF P ≠ [] := by
  unfold partsF
  split
  · rename_i hc
    intro he
    have := congrArg List.length he
    rw [List.length_take] at this
    simp at this
    omega
  · exact h
theorem partsF_get (P : List (List UInt8)) (j : Nat) (h : j < (partsF P).length) : (partsF P).getD j [] = P.getD j [] ∧ j < P.length := by
  unfold partsF at h ⊢
  split
  · rename_i hc
    rw [if_pos hc, List.length_take] at h
    refine ⟨?_, by omega⟩
    rw [List.getD_eq_getElem?_getD, List.getD_eq_getElem?_getD, List.getElem?_take, if_pos (by omega)]
  · rename_i hc
    rw [if_neg hc] at h
    exact ⟨rfl, h⟩
theorem drop_getD (Q : List (List UInt8)) (j : Nat) (h : j < Q.length) : Q.drop j = Q.getD j [] :: Q.drop (j + 1) := by
  rw [List.drop_eq_getElem_cons h, List.getD_eq_getElem?_getD, List.getElem?_eq_getElem h]
  rfl
theorem sumF_step (n j : Nat) (s : Int) (Q : List (List UInt8)) (h : j < Q.length) : sumF n j s (Q.drop j) = match parseL (Q.getD j []) with
    | none => none
    | some x => if j + 1 = n then (if (256 : Int) ^ (5 - n) ≤ x then none else sumF n (j + 1) (s + x) (Q.drop (j + 1))) else if 256 ≤ x then none else sumF n (j + 1) (s + x * (256 : Int) ^ (3 - j)) (Q.drop (j + 1)) := by
  rw [drop_getD Q j h, sumF]
theorem parse_val (p : List UInt8) : (parseL p = none ∧ parseOk p = false ∧ parseN p = 0) ∨ ∃ x, parseL p = some x ∧ parseOk p = true ∧ parseN p = x ∧ 0 ≤ x ∧ x ≤ 1099511627776 := by
  rcases h : parseL p with _ | x
  · left
    exact ⟨rfl, by rw [parseOk, h]; rfl, by rw [parseN, h]; rfl⟩
  · right
    have hb : 0 ≤ x ∧ x ≤ 1099511627776 := by
      unfold parseL at h
      split at h
      · cases h
      · exact accN_bd _ (by have := baseL_bd p; omega) _ 0 x (by omega) (by omega) h
    exact ⟨x, rfl, by rw [parseOk, h]; rfl, by rw [parseN, h]; rfl, hb⟩
end Go.Proofs.YtplehdcnnaamkaaGreatDoor

/- four.Parse, walked. -/
namespace Go.Proofs.YtplehdcnnaamkaaGreatDoor
open Go.RowKit Go.Proofs.YtplehdcnnaamkaaGreatDoorW.PrintWords Go.Proofs.YtplehdcnnaamkaaGreatDoorW.PrintMore

theorem ret_four {a b : Int} {c d : Bool} (h : a = b) (h' : c = d) : Ending.returned (.tuple #[.int .u32 a, .bool c]) = .returned (.tuple #[.int .u32 b, .bool d]) := by rw [h, h']
theorem cell_blk {w : World} {a : Addr} {v : Value} (h : w.cell? a = some v) : a.block < w.heap.size := by
  unfold World.cell? at h
  split at h
  · rename_i hh
    exact (Array.getElem?_eq_some_iff.1 hh).1
  · cases h
theorem four_none {l : List UInt8} {Q : List (List UInt8)} (hQ : Q = partsF (splitL (isAt ⟨#[46]⟩) l)) (h : fourP Q = none) : fourN l = 0 ∧ fourOk l = false := by
  have : fourL l = none := by rw [fourL, ← hQ, h]
  exact ⟨by rw [fourN, this]; rfl, by rw [fourOk, this]; rfl⟩
theorem four_some {l : List UInt8} {Q : List (List UInt8)} {x : Int} (hQ : Q = partsF (splitL (isAt ⟨#[46]⟩) l)) (h : fourP Q = some x) : fourN l = x ∧ fourOk l = true := by
  have : fourL l = some x := by rw [fourL, ← hQ, h]
  exact ⟨by rw [fourN, this]; rfl, by rw [fourOk, this]; rfl⟩

set_option maxHeartbeats 4000000 in
set_option maxRecDepth 100000 in
theorem Four_calls (s : ByteArray) (w : World) (hs : s.size ≤ 900000) :
    Calls Tryz.prog 152 #[.string s] w fun e w' => e = .returned (.tuple #[.int .u32 (fourN s.data.toList), .bool (fourOk s.data.toList)]) ∧ Below w.heap.size w w' := by
  go_enter Tryz.func152, Tryz.ntmps152
  go_wp2_with fail
  refine (Split_calls s _ _ (by omega)).mono ?_
  rintro e w1 ⟨v, rfl, hv, hb⟩
  obtain ⟨A, c, rfl, hcap, hC⟩ := Kd.R_reads hv
  have hpart := splitL_part (isAt ⟨#[46]⟩) s.data.toList
  have hne := splitL_ne (isAt ⟨#[46]⟩) s.data.toList
  have hln := splitL_size (isAt ⟨#[46]⟩) s.data.toList
  rw [show s.data.toList.length = s.size by simp] at hln hpart
  have HN : Aside0 (∀ Q, Q = partsF (splitL (isAt ⟨#[46]⟩) s.data.toList) → fourP Q = none → fourN s.data.toList = 0 ∧ fourOk s.data.toList = false) := ⟨fun Q h h' => four_none h h'⟩
  have HS : Aside0 (∀ Q x, Q = partsF (splitL (isAt ⟨#[46]⟩) s.data.toList) → fourP Q = some x → fourN s.data.toList = x ∧ fourOk s.data.toList = true) := ⟨fun Q x h h' => four_some h h'⟩
  generalize splitL (isAt ⟨#[46]⟩) s.data.toList = P at hv hcap hC hpart hne hln HN HS ⊢
  have hlen := strs_length P
  have hpos : 0 < (strs P).length := by
    rw [hlen]
    exact List.length_pos_iff.2 hne
  obtain ⟨ad, rfl⟩ := C_some hC hpos
  have hcell : ∀ j, j < P.length → w1.cell? (ad.add j) = some (.string ⟨(P.getD j []).toArray⟩) := fun j hj => by
    rw [C_str_at hC j (by omega), strs_get P j (by omega)]
  have hsize : ∀ j, (P.getD j []).length ≤ 900000 := fun j => by have := getD_len P s.size j hpart; omega
  have HB := Aside0.mk hb
  have HCell := Aside0.mk hcell
  have HSz := Aside0.mk hsize
  have hcap' : (strs P).length ≤ c := hcap
  obtain ⟨m, hm⟩ : ∃ m, P.length = m + 1 := ⟨P.length - 1, by have := List.length_pos_iff.2 hne; omega⟩
  have clast := hcell m (by omega)
  have hmb : m ≤ 900000 := by omega
  obtain ⟨q, hq⟩ : ∃ q : ByteArray, q = ⟨(P.getD m []).toArray⟩ := ⟨_, rfl⟩
  rw [← hq] at clast
  have hql : q.data.toList = P.getD m [] := by rw [hq]
  rw [hlen, hm] at hcap' ⊢
  have HPm := Lib.hid hm
  have hway : ∃ (n : Nat) (Q : List (List UInt8)), Q = partsF P ∧ Q.length = n ∧ 1 ≤ n ∧ ((1 ≤ m ∧ n = m ∧ q.toList.isEmpty = true) ∨ (1 ≤ m ∧ n = m + 1 ∧ q.toList.isEmpty = false) ∨ (m = 0 ∧ n = 1)) := by
    refine ⟨_, _, rfl, rfl, List.length_pos_iff.2 (partsF_ne P (by intro h; rw [h] at hm; simp at hm)), ?_⟩
    rw [toList_eq, hql]
    by_cases h1 : 1 ≤ m
    · by_cases h2 : P.getD m [] = []
      · left
        refine ⟨h1, ?_, by rw [h2]; rfl⟩
        rw [partsF, if_pos ⟨by omega, by rw [hm]; exact h2⟩, List.length_take]
        omega
      · right; left
        refine ⟨h1, ?_, by simpa using h2⟩
        rw [partsF, if_neg (by rw [hm]; exact fun h => h2 h.2), hm]
    · right; right
      refine ⟨by omega, ?_⟩
      rw [partsF, if_neg (by omega)]
      omega
  obtain ⟨n, Q, hQ, hQn, hn1, hway⟩ := hway
  have HQ : Aside0 (∀ j, j < n → w1.cell? (ad.add j) = some (.string ⟨(Q.getD j []).toArray⟩)) := ⟨fun j hj => by
    have := partsF_get P j (by rw [← hQ, hQn]; exact hj)
    rw [hQ, this.1]
    exact HCell.out j this.2⟩
  have HSQ : Aside0 (∀ j, j < n → (Q.getD j []).length ≤ 900000) := ⟨fun j hj => by
    have := partsF_get P j (by rw [← hQ, hQn]; exact hj)
    rw [hQ, this.1]
    exact HSz.out j⟩
  have HN' : Aside0 (fourP Q = none → fourN s.data.toList = 0 ∧ fourOk s.data.toList = false) := ⟨HN.out Q hQ⟩
  have HS' : Aside0 (∀ x, fourP Q = some x → fourN s.data.toList = x ∧ fourOk s.data.toList = true) := ⟨fun x => HS.out Q x hQ⟩
  have HQn := Lib.hid hQn
  have hbl := cell_blk (HCell.out 0 (by omega))
  have hblk : ad.block < w1.heap.size := by simpa [Addr.add] using hbl
  clear hv hC hb hpart hlen hpos hcell hsize hcap hne hq hql hQ hQn HN HS HCell HSz hm hbl
  rcases hway with ⟨h1, hnm, e0⟩ | ⟨h1, hnm, e0⟩ | ⟨hnm, h1⟩
  all_goals
    by_cases h4 : 4 < n
    · first
      | (exfalso; omega; done)
      | (have HR := Lib.hid (HN'.out (by rw [fourP, if_pos (by rw [HQn.out]; exact h4)]))
         go_wp2_with fail
         go_ret2
         exact ⟨ret_four HR.out.1.symm HR.out.2.symm, HB.out⟩)
    · have HF := Lib.hid (show fourP Q = sumF Q.length 0 0 Q by rw [fourP, if_neg (by rw [HQn.out]; exact h4)])
      have hql := HQn.out
      have hnm8 : (n = 1 ∧ m = 0) ∨ (n = 1 ∧ m = 1) ∨ (n = 2 ∧ m = 1) ∨ (n = 2 ∧ m = 2) ∨ (n = 3 ∧ m = 2) ∨ (n = 3 ∧ m = 3) ∨ (n = 4 ∧ m = 3) ∨ (n = 4 ∧ m = 4) := by omega
      rcases hnm8 with ⟨rfl, rfl⟩ | ⟨rfl, rfl⟩ | ⟨rfl, rfl⟩ | ⟨rfl, rfl⟩ | ⟨rfl, rfl⟩ | ⟨rfl, rfl⟩ | ⟨rfl, rfl⟩ | ⟨rfl, rfl⟩
      all_goals try (exfalso; omega)
      all_goals
        simp only [Addr.add, Nat.reduceEqDiff, ↓reduceIte] at clast
        go_wp2_with fail
        go_loopw [5, 35] (fun sm i wr => ∃ (j : Nat) (x : Int), i = .int .i64 j ∧ sm = .int .u64 x ∧ j ≤ Q.length ∧ 0 ≤ x ∧ x ≤ j * 4294967296 ∧ Aside0 (sumF Q.length j x (Q.drop j) = fourP Q) ∧ Aside0 (Below w1.heap.size w1 wr)) (fun _ i _ => Q.length - (intOf i).toNat)
        case atStart => exact ⟨0, 0, rfl, rfl, by omega, by omega, by omega, ⟨HF.out.symm⟩, ⟨Below.refl _ _⟩⟩
        case round =>
          obtain ⟨j, x, rfl, rfl, hj, hx0, hx1, hr, hbw⟩ := hrel
          by_cases hlt : j < Q.length
          · have hcj : wr.cell? (ad.add j) = some (.string ⟨(Q.getD j []).toArray⟩) := (hbw.out.cell (by unfold Addr.add; split <;> exact hblk)).trans (HQ.out j (by omega))
            have Hst0 := sumF_step Q.length j x Q hlt
            have HX0 := hr.out
            rw [hql] at Hst0 HX0
            have Hst := Lib.hid Hst0
            have HX := Lib.hid HX0
            clear Hst0 HX0
            have hysz := HSQ.out j (by omega)
            rw [← mk_size] at hysz
            have Hy := Lib.hid (show (ByteArray.mk (Q.getD j []).toArray).data.toList = Q.getD j [] by simp)
            generalize (ByteArray.mk (Q.getD j []).toArray) = y at hcj hysz Hy
            go_wp2_with fail
            refine (Parse_calls y (by omega) _).mono ?_
            rintro e w2 ⟨rfl, b2⟩
            have B2 := Aside0.mk (below_then hbw.out hbw.out.size b2)
            have hpv := parse_val y.data.toList
            clear b2 hcj
            obtain ⟨j1, HJ⟩ : ∃ j1, Aside0 (j1 = j + 1) := ⟨_, ⟨rfl⟩⟩
            have hj4 : j = 0 ∨ j = 1 ∨ j = 2 ∨ j = 3 := by omega
            rcases hj4 with rfl | rfl | rfl | rfl
            all_goals try (exfalso; omega)
            all_goals
              rcases hpv with ⟨hp, ho, hv⟩ | ⟨v, hp, ho, hv, hv0, hv1⟩
              · have HR := Lib.hid (HN'.out (by rw [← HX.out, Hst.out, ← Hy.out, hp]))
                rw [ho, hv]
                clear ho hv hp
                go_wp2_with fail
                go_ret2
                exact ⟨ret_four HR.out.1.symm HR.out.2.symm, below_then HB.out HB.out.size B2.out⟩
              · rw [ho, hv]
                have HY := Hst.out
                rw [← Hy.out, hp] at HY
                simp only [Nat.reduceAdd, Nat.reduceEqDiff, if_true, if_false, Nat.reduceSub, Int.reducePow] at HY
                have HZ := Lib.hid HY
                clear ho hv hp HY
                go_wp2_with fail
                · have HR := HN'.out (by rw [← HX.out, HZ.out, if_pos (by assumption)])
                  go_ret2
                  exact ⟨ret_four HR.1.symm HR.2.symm, below_then HB.out HB.out.size B2.out⟩
                · go_roundw
                  case rel =>
                    have hj1 := HJ.out
                    exact ⟨j1, _, by rw [hj1]; first | rfl | go_num, rfl, by omega, by omega, by omega, ⟨by rw [hql, hj1, ← HX.out, HZ.out, if_neg (by first | assumption | omega)]⟩, B2⟩
                  case measure => simp [intOf]; omega
          · have he := hr.out
            rw [List.drop_of_length_le (by omega), sumF] at he
            have HR := Lib.hid (HS'.out _ he.symm)
            clear he
            go_wp2_with fail
            go_ret2
            exact ⟨ret_four (by first | (rw [HR.out.1]; done) | (rw [HR.out.1]; rfl)) HR.out.2.symm, below_then HB.out HB.out.size hbw.out⟩
end Go.Proofs.YtplehdcnnaamkaaGreatDoor

/- A number, printed to a base, is read as it was: plain Lean. -/
namespace Go.Proofs.YtplehdcnnaamkaaGreatDoor
open Go.RowKit Go.Proofs.YtplehdcnnaamkaaGreatDoorW.PrintWords

def hexCh (d : Nat) : UInt8 := if d < 10 then UInt8.ofNat (48 + d) else UInt8.ofNat (87 + d)
/-- A number's digits to a base. -/
def digB (b u : Nat) : List UInt8 :=
  if _h : u < b ∨ b < 2 then [hexCh u] else digB b (u / b) ++ [hexCh (u % b)]
termination_by u
decreasing_by
  apply Nat.div_lt_self <;> omega
theorem digB_small {b u : Nat} (h : u < b) : digB b u = [hexCh u] := by rw [digB, dif_pos (.inl h)]
theorem digB_big {b u : Nat} (hb : 2 ≤ b) (h : b ≤ u) : digB b u = digB b (u / b) ++ [hexCh (u % b)] := by
  rw [digB, dif_neg (by omega)]
theorem digB_ind (b : Nat) (hb : 2 ≤ b) (P : Nat → Prop) (h0 : ∀ u, u < b → P u) (h1 : ∀ u, b ≤ u → P (u / b) → P u) : ∀ u, P u := by
  intro u
  induction u using Nat.strongRecOn with
  | ind u ih =>
    rcases Nat.lt_or_ge u b with h | h
    · exact h0 u h
    · exact h1 u h (ih _ (Nat.div_lt_self (by omega) (by omega)))
theorem dec_eq (u : Nat) : Lib.decDigits u = digB 10 u := by
  refine digB_ind 10 (by omega) (fun u => Lib.decDigits u = digB 10 u) (fun u h => ?_) (fun u h ih => ?_) u
  · rw [Lib.decDigits, dif_pos h, digB_small h, hexCh, if_pos h]
  · rw [Lib.decDigits, dif_neg (by omega), digB_big (by omega) h, ih, hexCh, if_pos (by omega)]
theorem accD_append (ys : List Int) : ∀ (xs : List Int) (m : Int), accD m (xs ++ ys) = accD (accD m xs) ys
  | [], m => rfl
  | r :: rs, m => by
    rw [List.cons_append, accD, accD]
    exact accD_append ys rs _
theorem digB_len (b : Nat) (hb : 2 ≤ b) (u : Nat) : ∀ k, u < 2 ^ k → (digB b u).length ≤ k + 1 := by
  refine digB_ind b hb (fun u => ∀ k, u < 2 ^ k → (digB b u).length ≤ k + 1) (fun u h k _ => ?_) (fun u h ih k hk => ?_) u
  · rw [digB_small h]
    simp
  · rw [digB_big hb h, List.length_append, List.length_singleton]
    rcases k with _ | k
    · simp at hk
      omega
    · have h1 : u / b ≤ u / 2 := Nat.div_le_div_left hb (by omega)
      have h2 : u / 2 < 2 ^ k := by rw [Nat.pow_succ] at hk; omega
      have := ih k (by omega)
      omega
end Go.Proofs.YtplehdcnnaamkaaGreatDoor

/- Addresses of four bytes, as they are written and read again: plain Lean. -/
namespace Go.Proofs.YtplehdcnnaamkaaGreatDoor
open Go.RowKit Go.Proofs.YtplehdcnnaamkaaGreatDoorW.PrintWords

/-- The parts, each a decimal number of at most 255. -/
def sumS : Int → List (List UInt8) → Option Int
  | a, [] => some a
  | a, p :: ps => if decOk p 255 = true then sumS (a * 256 + decN p 255) ps else none
def strictP (P : List (List UInt8)) : Option Int := if P.length = 4 then sumS 0 P else none
def strictL (l : List UInt8) : Option Int := strictP (splitL (isAt ⟨#[46]⟩) l)
def strictN (l : List UInt8) : Int := (strictL l).getD 0
def strictOk (l : List UInt8) : Bool := (strictL l).isSome
/-- An address, written. -/
def fourT (n : Nat) : List UInt8 := digB 10 (n / 16777216) ++ 46 :: (digB 10 (n / 65536 % 256) ++ 46 :: (digB 10 (n / 256 % 256) ++ 46 :: digB 10 (n % 256)))

/-! ### What is read strictly is what is written -/
def joinL : List (List UInt8) → List UInt8
  | [] => []
  | [x] => x
  | x :: y :: t => x ++ 46 :: joinL (y :: t)
theorem joinL_cons (x : List UInt8) (L : List (List UInt8)) (h : L ≠ []) : joinL (x :: L) = x ++ 46 :: joinL L := by
  rcases L with _ | ⟨y, t⟩
  · exact absurd rfl h
  · rfl
theorem join_split : ∀ l : List UInt8, joinL (splitL (isAt ⟨#[46]⟩) l) = l
  | [] => rfl
  | c :: r => by
    have ih := join_split r
    rw [splitL]
    split
    · rename_i hc
      rw [joinL_cons _ _ (splitL_ne _ r), ih]
      rw [dot_at] at hc
      rw [show c = 46 by simpa using hc]
      rfl
    · rcases hs : splitL (isAt ⟨#[46]⟩) r with _ | ⟨x, t⟩
      · exact absurd hs (splitL_ne _ r)
      · rw [hs] at ih
        show joinL ((c :: x) :: t) = _
        rcases t with _ | ⟨y, t⟩
        · show c :: x = _
          rw [← ih]
          rfl
        · rw [joinL_cons _ _ (by simp)]
          rw [joinL_cons _ _ (by simp)] at ih
          rw [List.cons_append, ih]
theorem decV_snoc (q : List UInt8) (c : UInt8) : decV (q ++ [c]) = 10 * decV q + ((c.toNat : Int) - 48) := by
  rw [decV, intsOf_append, accD_append]
  rfl
theorem hexCh_dig (c : UInt8) (h0 : 48 ≤ c.toNat) (h1 : c.toNat ≤ 57) : hexCh (c.toNat - 48) = c := by
  rw [hexCh, if_pos (by omega)]
  apply UInt8.toNat_inj.1
  rw [UInt8.toNat_ofNat']
  omega
theorem all_dig_snoc (q : List UInt8) (c : UInt8) (h : (intsOf (q ++ [c])).all isDig = true) : (intsOf q).all isDig = true ∧ 48 ≤ c.toNat ∧ c.toNat ≤ 57 := by
  rw [intsOf_append, List.all_append, Bool.and_eq_true] at h
  have h2 := h.2
  rw [show intsOf [c] = [(c.toNat : Int)] from rfl, List.all_cons, Bool.and_eq_true] at h2
  have := (isDig_iff _).1 h2.1
  exact ⟨h.1, by omega, by omega⟩
/-- Digits without a nought ahead. -/
theorem dig_lead : ∀ (k : Nat) (q : List UInt8), q.length = k → q ≠ [] → (intsOf q).all isDig = true → q.head? ≠ some 48 → ∃ u : Nat, 1 ≤ u ∧ decV q = u ∧ digB 10 u = q
  | 0, q, hk, hq, _, _ => absurd (List.eq_nil_of_length_eq_zero hk) hq
  | k + 1, q, hk, hq, hd, hh => by
    obtain ⟨r, c, rfl⟩ : ∃ r c, q = r ++ [c] := ⟨q.dropLast, q.getLast hq, (List.dropLast_concat_getLast hq).symm⟩
    have ⟨hr, h0, h1⟩ := all_dig_snoc r c hd
    rcases Classical.em (r = []) with rfl | hne
    · have hc : c ≠ 48 := fun h => hh (by rw [h]; rfl)
      have hc' : c.toNat ≠ 48 := fun h => hc (UInt8.toNat_inj.1 h)
      refine ⟨c.toNat - 48, by omega, ?_, ?_⟩
      · rw [List.nil_append, decV, show intsOf [c] = [(c.toNat : Int)] from rfl, accD, accD]
        omega
      · rw [digB_small (by omega), hexCh_dig c h0 h1]
        rfl
    · obtain ⟨u, hu, hv, hg⟩ := dig_lead k r (by simp at hk; exact hk) hne hr (by
        rcases r with _ | ⟨x, r⟩
        · exact absurd rfl hne
        · simpa using hh)
      refine ⟨10 * u + (c.toNat - 48), by omega, ?_, ?_⟩
      · rw [decV_snoc, hv]
        omega
      · rw [digB_big (by omega) (by omega), show (10 * u + (c.toNat - 48)) / 10 = u by omega, show (10 * u + (c.toNat - 48)) % 10 = c.toNat - 48 by omega, hg, hexCh_dig c h0 h1]
theorem plain_inv (p : List UInt8) (h : plainD p = true) : ∃ u : Nat, decV p = u ∧ digB 10 u = p := by
  rw [plainD, digitsL, Bool.and_eq_true, Bool.and_eq_true, Bool.not_eq_true', Bool.not_eq_true'] at h
  obtain ⟨⟨hne, hd⟩, hl⟩ := h
  have hne' : p ≠ [] := by simpa using hne
  by_cases hh : p.head? = some 48
  · rw [hh] at hl
    obtain ⟨c, r, rfl⟩ : ∃ c r, p = c :: r := by
      rcases p with _ | ⟨c, r⟩
      · exact absurd rfl hne'
      · exact ⟨c, r, rfl⟩
    have hr : r = [] := by
      simp at hl
      exact hl
    obtain rfl : c = 48 := by simpa using hh
    subst hr
    exact ⟨0, rfl, by rw [digB_small (by omega)]; rfl⟩
  · obtain ⟨u, _, h1, h2⟩ := dig_lead p.length p rfl hne' hd hh
    exact ⟨u, h1, h2⟩
theorem dec_inv (p : List UInt8) (h : decOk p 255 = true) : ∃ u : Nat, u ≤ 255 ∧ decN p 255 = u ∧ digB 10 u = p := by
  have h' := h
  rw [decOk, Bool.and_eq_true, decide_eq_true_eq] at h
  obtain ⟨u, h1, h2⟩ := plain_inv p h.1
  exact ⟨u, by omega, by rw [decN, if_pos h', h1], h2⟩
theorem sumS_inv (a x : Int) (p : List UInt8) (ps : List (List UInt8)) (h : sumS a (p :: ps) = some x) : ∃ u : Nat, u ≤ 255 ∧ digB 10 u = p ∧ sumS (a * 256 + u) ps = some x := by
  rw [sumS] at h
  split at h
  · rename_i hp
    obtain ⟨u, h1, h2, h3⟩ := dec_inv p hp
    exact ⟨u, h1, h3, by rw [← h2]; exact h⟩
  · cases h
theorem strict_inv (l : List UInt8) (x : Int) (h : strictL l = some x) : ∃ n : Nat, n < 4294967296 ∧ x = n ∧ l = fourT n := by
  have hj := join_split l
  rw [strictL, strictP] at h
  split at h
  · rename_i h4
    rcases hs : splitL (isAt ⟨#[46]⟩) l with _ | ⟨a, _ | ⟨b, _ | ⟨c, _ | ⟨d, _ | ⟨e, t⟩⟩⟩⟩⟩
    all_goals rw [hs] at h4 h hj
    · cases h4
    · cases h4
    · cases h4
    · cases h4
    · obtain ⟨u1, b1, g1, h⟩ := sumS_inv _ _ _ _ h
      obtain ⟨u2, b2, g2, h⟩ := sumS_inv _ _ _ _ h
      obtain ⟨u3, b3, g3, h⟩ := sumS_inv _ _ _ _ h
      obtain ⟨u4, b4, g4, h⟩ := sumS_inv _ _ _ _ h
      rw [sumS] at h
      have hx := Option.some.inj h
      refine ⟨((u1 * 256 + u2) * 256 + u3) * 256 + u4, by omega, by omega, ?_⟩
      rw [fourT, show (((u1 * 256 + u2) * 256 + u3) * 256 + u4) / 16777216 = u1 by omega, show (((u1 * 256 + u2) * 256 + u3) * 256 + u4) / 65536 % 256 = u2 by omega, show (((u1 * 256 + u2) * 256 + u3) * 256 + u4) / 256 % 256 = u3 by omega, show (((u1 * 256 + u2) * 256 + u3) * 256 + u4) % 256 = u4 by omega, g1, g2, g3, g4, ← hj]
      rfl
    · simp at h4
  · cases h
theorem strict_val (l : List UInt8) : (strictL l = none ∧ strictOk l = false ∧ strictN l = 0) ∨ ∃ n : Nat, n < 4294967296 ∧ strictL l = some (n : Int) ∧ strictOk l = true ∧ strictN l = n ∧ l = fourT n := by
  rcases h : strictL l with _ | x
  · exact .inl ⟨rfl, by rw [strictOk, h]; rfl, by rw [strictN, h]; rfl⟩
  · obtain ⟨n, hn, rfl, hl⟩ := strict_inv l x h
    exact .inr ⟨n, hn, rfl, by rw [strictOk, h]; rfl, by rw [strictN, h]; rfl, hl⟩
end Go.Proofs.YtplehdcnnaamkaaGreatDoor

/- strconv.Atoi over digits; number.Decimal; the document's Decimal. -/
namespace Go.Proofs.YtplehdcnnaamkaaGreatDoor
open Go.RowKit Go.Proofs.YtplehdcnnaamkaaGreatDoorW.PrintWords Go.Proofs.YtplehdcnnaamkaaGreatDoorW.PrintMore

theorem cell_lt {w : World} {a : Addr} {v : Value} (h : w.cell? a = some v) : a.block < w.heap.size := by
  unfold World.cell? at h
  split at h
  · rename_i hh
    exact (Array.getElem?_eq_some_iff.1 hh).1
  · cases h
/-- What the errors' variable holds is an error. -/
def Errs (w : World) : Prop := ∃ te pe, w.cell? ⟨6, 0, none⟩ = some (.iface te pe)
theorem Errs.stays {w w' : World} (h : Errs w) (hb : Below w.heap.size w w') : Errs w' := by
  obtain ⟨te, pe, h⟩ := h
  exact ⟨te, pe, (hb.cell (cell_lt h)).trans h⟩
theorem bytes_below0 (w : World) (e : TypeId) (s : ByteArray) : Below w.heap.size w (Lib.bytesWorld w e s) := bytes_below (Below.refl _ _) (Nat.le_refl _) e s

/-- How Atoi ends over digits. -/
def AtoiEnd (v n : Int) (e : Value) : Prop := (v ≤ 9223372036854775807 ∧ n = v ∧ e = .nilIface) ∨ (9223372036854775807 < v ∧ ∃ N, e = .iface 232 (.pointer (some ⟨N, 0, none⟩)))
theorem Atoi_calls (s : ByteArray) (hs : s.size ≤ 1000000) (hd : digitsL s.data.toList = true) (w : World) (hE : Errs w) :
    Calls Tryz.prog 110 #[.string s] w fun e w' => (∃ n v, e = .returned (.tuple #[.int .i64 n, v]) ∧ AtoiEnd (decV s.data.toList) n v) ∧ Below w.heap.size w w' := by
  have hA := atoi_digits _ hd
  rcases Int.lt_or_le 9223372036854775807 (decV s.data.toList) with hv | hv
  · obtain ⟨te, pe, hc⟩ := hE
    refine (Tryz.strconv_Atoi_range s (by omega) (hA.2 hv) _ w hc (.inr ⟨te, pe, rfl⟩)).mono ?_
    rintro e w' ⟨N, rfl, _, _, hb⟩
    exact ⟨⟨_, _, rfl, .inr ⟨hv, N, rfl⟩⟩, hb⟩
  · refine (Tryz.strconv_Atoi_ok s (by omega) _ (hA.1 hv) w).mono ?_
    rintro e w' ⟨rfl, hw⟩
    refine ⟨⟨_, _, rfl, .inl ⟨hv, rfl, rfl⟩⟩, ?_⟩
    rcases hw with rfl | ⟨t, rfl⟩
    · exact Below.refl _ _
    · exact bytes_below0 _ _ _
theorem ret_dec {a b : Int} {c d : Bool} (h : a = b) (h' : c = d) : Ending.returned (.tuple #[.int .i64 a, .bool c]) = .returned (.tuple #[.int .i64 b, .bool d]) := by rw [h, h']

theorem plain_none (l : List UInt8) (most : Int) (h : plainD l = false) : decN l most = 0 ∧ decOk l most = false := by
  have : decOk l most = false := by rw [decOk, h]; rfl
  exact ⟨by rw [decN, this]; rfl, this⟩
theorem plain_big (l : List UInt8) (most : Int) (h : most < decV l) : decN l most = 0 ∧ decOk l most = false := by
  have : decOk l most = false := by rw [decOk, show decide (decV l ≤ most) = false by simpa using h]; simp
  exact ⟨by rw [decN, this]; rfl, this⟩
theorem plain_some (l : List UInt8) (most : Int) (hp : plainD l = true) (h : decV l ≤ most) : decN l most = decV l ∧ decOk l most = true := by
  have : decOk l most = true := by rw [decOk, hp, show decide (decV l ≤ most) = true by simpa using h]; rfl
  exact ⟨by rw [decN, this]; rfl, this⟩

set_option maxHeartbeats 1000000 in
theorem Decimal_calls (s : ByteArray) (hs : s.size ≤ 1000000) (most : Int) (hm : most ≤ 9223372036854775807) (w : World) (hE : Aside0 (Errs w)) :
    Calls Tryz.prog 65 #[.string s, .int .i64 most] w fun e w' => e = .returned (.tuple #[.int .i64 (decN s.data.toList most), .bool (decOk s.data.toList most)]) ∧ Below w.heap.size w w' := by
  cases hd : digitsL s.data.toList
  · have HN := Lib.hid (plain_none s.data.toList most (by rw [plainD, hd]; rfl))
    have HD := Lib.hid hd
    clear hd
    go_enter Tryz.func65, Tryz.ntmps65
    go_wp2_with fail
    refine (digits_calls _ _).mono ?_
    rintro e w1 ⟨rfl, hb⟩
    rw [HD.out]
    go_wp2_with fail
    go_ret2
    exact ⟨ret_dec HN.out.1.symm HN.out.2.symm, hb⟩
  · have hpos : 0 < s.size := by
      rcases Nat.eq_zero_or_pos s.size with h | h
      · have : s.data.toList = [] := List.eq_nil_of_length_eq_zero (by simpa using h)
        rw [this] at hd
        cases hd
      · exact h
    have HD := Lib.hid hd
    have e0 := drop_byte s 0 hpos
    rw [List.drop_zero] at e0
    cases hp : plainD s.data.toList
    · have HN := Lib.hid (plain_none s.data.toList most hp)
      have h2 : 1 < s.size ∧ (s[0]).toNat = 48 := by
        rw [plainD, hd, Bool.true_and, Bool.not_eq_false', Bool.and_eq_true, decide_eq_true_eq, e0] at hp
        refine ⟨by have := hp.1; simp at this; omega, ?_⟩
        have := hp.2
        simp at this
        rw [this]
        rfl
      obtain ⟨h1, h48⟩ := h2
      have q1 : (((s[0]).toNat : Int) == 48) = true := by simp [h48]
      clear hd e0 hp h48
      go_enter Tryz.func65, Tryz.ntmps65
      go_wp2_with fail
      refine (digits_calls _ _).mono ?_
      rintro e w1 ⟨rfl, hb⟩
      rw [HD.out]
      go_wp2_with fail
      go_ret2
      exact ⟨ret_dec HN.out.1.symm HN.out.2.symm, hb⟩
    · have hone : 1 < s.size → (((s[0]).toNat : Int) == 48) = false := by
        intro h1
        rw [plainD, hd, Bool.true_and, Bool.not_eq_true', e0] at hp
        rw [show decide (1 < (s[0] :: s.data.toList.drop (0 + 1)).length) = true by simp; omega, Bool.true_and] at hp
        simp at hp ⊢
        intro h
        exact hp (UInt8.toNat_inj.1 (by rw [show (48 : UInt8).toNat = 48 from rfl]; omega))
      have HP := Lib.hid hp
      have hfin : ∀ (n : Int) (v : Value), AtoiEnd (decV s.data.toList) n v → (decV s.data.toList ≤ most → n = decV s.data.toList ∧ v = .nilIface) := by
        rintro n v (⟨h1, h2, h3⟩ | ⟨h1, _⟩) hle
        · exact ⟨h2, h3⟩
        · omega
      have hW : ∀ (w2 : World), Below w.heap.size w w2 → Errs w2 := fun w2 hb => hE.out.stays hb
      have HW := Lib.hid hW
      have HV := Lib.hid (plain_big s.data.toList most)
      have HU := Lib.hid (plain_some s.data.toList most hp)
      clear hd e0 hp hW
      by_cases h1 : 1 < s.size
      · have q1 := hone h1
        clear hone hfin
        go_enter Tryz.func65, Tryz.ntmps65
        go_wp2_with fail
        refine (digits_calls _ _).mono ?_
        rintro e w1 ⟨rfl, hb⟩
        rw [HD.out]
        go_wp2_with fail
        refine (Atoi_calls s hs HD.out _ (HW.out _ hb)).mono ?_
        rintro e w2 ⟨⟨n, v, rfl, hend⟩, hb2⟩
        have B2 := Aside0.mk (below_then hb hb.size hb2)
        clear hb hb2
        generalize hg : decV s.data.toList = d at hend HV HU ⊢
        rcases hend with ⟨h5, rfl, rfl⟩ | ⟨h5, N, rfl⟩
        · by_cases hle : n ≤ most
          · have HN := Lib.hid (HU.out hle)
            go_wp2_with fail
            go_ret2
            exact ⟨ret_dec HN.out.1.symm HN.out.2.symm, B2.out⟩
          · have HN := Lib.hid (HV.out (by omega))
            go_wp2_with fail
            go_ret2
            exact ⟨ret_dec HN.out.1.symm HN.out.2.symm, B2.out⟩
        · have HN := Lib.hid (HV.out (by omega))
          go_wp2_with fail
          go_ret2
          exact ⟨ret_dec HN.out.1.symm HN.out.2.symm, B2.out⟩
      · clear hone hfin
        go_enter Tryz.func65, Tryz.ntmps65
        go_wp2_with fail
        refine (digits_calls _ _).mono ?_
        rintro e w1 ⟨rfl, hb⟩
        rw [HD.out]
        go_wp2_with fail
        refine (Atoi_calls s hs HD.out _ (HW.out _ hb)).mono ?_
        rintro e w2 ⟨⟨n, v, rfl, hend⟩, hb2⟩
        have B2 := Aside0.mk (below_then hb hb.size hb2)
        clear hb hb2
        generalize hg : decV s.data.toList = d at hend HV HU ⊢
        rcases hend with ⟨h5, rfl, rfl⟩ | ⟨h5, N, rfl⟩
        · by_cases hle : n ≤ most
          · have HN := Lib.hid (HU.out hle)
            go_wp2_with fail
            go_ret2
            exact ⟨ret_dec HN.out.1.symm HN.out.2.symm, B2.out⟩
          · have HN := Lib.hid (HV.out (by omega))
            go_wp2_with fail
            go_ret2
            exact ⟨ret_dec HN.out.1.symm HN.out.2.symm, B2.out⟩
        · have HN := Lib.hid (HV.out (by omega))
          go_wp2_with fail
          go_ret2
          exact ⟨ret_dec HN.out.1.symm HN.out.2.symm, B2.out⟩
end Go.Proofs.YtplehdcnnaamkaaGreatDoor

/- Package scalar: the functions that range over a string. -/
namespace Go.Proofs.YtplehdcnnaamkaaGreatDoor
open Go.RowKit Go.Proofs.YtplehdcnnaamkaaGreatDoorW.PrintWords Go.Proofs.YtplehdcnnaamkaaGreatDoorW.PrintLast Go.Proofs.YtplehdcnnaamkaaGreatDoorW.PrintMore

set_option maxHeartbeats 400000 in
theorem scalar_Scalars_calls (s : ByteArray) (w : World) (hs : s.size ≤ 1000000) :
    Calls Tryz.prog 202 #[.string s] w fun e w' => ∃ v : Value, e = .returned v ∧ Kd.R (Kd.int .i32) 21 w' w.heap.size (fun _ => True) v (rn s) ∧ Below w.heap.size w w' := by
  go_enter Tryz.func202, Tryz.ntmps202
  go_wp2
  go_loopw [3] (fun v wr => ∃ (pos f : Nat) (l : List Int), wr.heap[w.heap.size]? = some (.stringIter s pos) ∧ Aside0 (l ++ rnF s f pos = rn s) ∧ s.size ≤ pos + f ∧ l.length ≤ pos ∧ Aside0 (Kd.R (Kd.int .i32) 21 wr w.heap.size (fun _ => True) v l) ∧ Aside0 (Below w.heap.size w wr)) (fun _ wr => s.size - wr.iterPos w.heap.size)
  case atStart => exact ⟨0, s.size, [], World.iter_heap w s 0, ⟨rfl⟩, by omega, by simp, ⟨Kd.R_nil _ _ _ _ _⟩, ⟨(Below.refl _ _).alloc (Nat.le_refl _) _⟩⟩
  case round =>
    obtain ⟨pos, f, l, hit, hr, hf, hl, HO, HB⟩ := hrel
    by_cases hp : pos < s.size
    · have hnx : ∀ ty, (Instr.next (.pointer (some ⟨w.heap.size, 0, none⟩)) true ty).run Tryz.prog wr = _ := fun ty => Lib.run_next_any_at wr w.heap.size s pos ty hit hp
      have hwd := width_pos s pos hp
      have hd1 := decode_le s pos
      obtain ⟨g, rfl, hg0⟩ := rnF_step s f pos hp hf
      have hg1 := Aside0.mk hg0
      clear hg0
      have hit2 := Lib.iterAt_heap wr w.heap.size s pos (pos + (Utf8.decode s pos).2) hit
      have HO2 := Aside0.mk (R_iterAt HO.out hit (pos + (Utf8.decode s pos).2))
      have HB2 := Aside0.mk (Lib.below_iterAt HB.out (k := w.heap.size) (Nat.le_refl _) s (pos + (Utf8.decode s pos).2))
      have hsz : w.heap.size < wr.heap.size := (Array.getElem?_eq_some_iff.1 hit).1
      clear HO HB
      go_wp2_with ((with_reducible refine gate_builtin (b := .append) (xs := #[.tmp 11, .tmp 13]) rfl ?_); at_builtin; refine Kd.R_append (Kd.int .i32) (w0 := w) w.heap.size rfl (.tmp 11) (.tmp 13) 272 21 (.int .i32 0) 4 rfl Tryz.underlying272 info_rune rfl (by decide) (by omega) u3 l ((Utf8.decode s pos).1 : Int) [.int .i32 (Utf8.decode s pos).1] (fun _ => True) (fun _ => False) rfl rfl ?aP (fun _ hk => hk.elim) ?aF ?aO ?aB ?aS ?aL ?_; (case aP => exact rfl); (case aF => exact fun _ _ => trivial); (case aO => exact HO2.out); (case aB => exact HB2.out); (case aS => rw [Lib.iterAt_size]; omega); (case aL => omega); intro v1 w1 ho hb hg _)
      have hit3 := iter_grown HO2.out hg hit2
      refine ⟨⟨pos + (Utf8.decode s pos).2, g, l ++ [((Utf8.decode s pos).1 : Int)], hit3, ⟨by have := hr.out; rw [hg1.out] at this; rw [← this, List.append_assoc]; rfl⟩, by omega, by rw [List.length_append]; simp only [List.length_cons, List.length_nil]; omega, ⟨ho⟩, ⟨hb⟩⟩, ?_⟩
      simp only [World.iterPos, hit3, hit]
      omega
    · have hnx : ∀ ty, (Instr.next (.pointer (some ⟨w.heap.size, 0, none⟩)) true ty).run Tryz.prog wr = _ := fun ty => Lib.run_next_end_at wr w.heap.size s pos ty hit hp
      go_wp2
      go_ret
      have he := hr.out
      rw [rnF_end s f pos hp, List.append_nil] at he
      exact ⟨_, rfl, by rw [← he]; exact HO.out, HB.out⟩

def scalar_Scalars.f (a0 : ByteArray) : Option (List Int) := if a0.size ≤ 1000000 then some (rn a0) else none
end Go.Proofs.YtplehdcnnaamkaaGreatDoor

/- Walks of package percent's functions that range over a string. -/
namespace Go.Proofs.YtplehdcnnaamkaaGreatDoor
open Go.RowKit

def hasRune (s : ByteArray) (r : Int) : Bool := (rn s).contains r

set_option maxHeartbeats 400000 in
theorem hasRune_calls (s : ByteArray) (r : Int) (w : World) :
    Calls Tryz.prog 203 #[.string s, .int .i32 r] w fun e w' => e = .returned (.bool (hasRune s r)) ∧ Below w.heap.size w w' := by
  go_enter Tryz.func203, Tryz.ntmps203
  go_wp2
  go_loopw [] (fun wr => ∃ (pos f : Nat), wr = w.iter s pos ∧ (rnF s f pos).contains r = hasRune s r ∧ s.size ≤ pos + f) (fun wr => s.size - wr.iterPos w.heap.size)
  case atStart => exact ⟨0, s.size, rfl, rfl, by omega⟩
  case round =>
    obtain ⟨pos, f, rfl, hr, hf⟩ := hrel
    by_cases hp : pos < s.size
    · have hnx : ∀ ty, (Instr.next (.pointer (some ⟨w.heap.size, 0, none⟩)) true ty).run Tryz.prog (w.iter s pos) = _ := fun ty => run_next_any w s pos ty hp
      have hwd := width_pos s pos hp
      have hd1 := decode_le s pos
      obtain ⟨g, rfl, hg⟩ := rnF_step s f pos hp hf
      rw [hg] at hr
      have Hr := Lib.hid hr
      clear hr hg
      go_wp2
      · have h1 : (((Utf8.decode s pos).1 : Int) == r) = true := by assumption
        have h2 : hasRune s r = true := by rw [← Hr.out, List.contains_cons, BEq.comm, h1]; rfl
        go_ret
        exact ⟨by rw [h2]; rfl, (Below.refl _ _).alloc (Nat.le_refl _) _⟩
      · have h1 : (((Utf8.decode s pos).1 : Int) == r) = false := by assumption
        refine ⟨⟨_, g, rfl, ?_, by omega⟩, by simp only [World.iterPos_iter]; omega⟩
        rw [← Hr.out, List.contains_cons, BEq.comm, h1]; rfl
    · have hnx : ∀ ty, (Instr.next (.pointer (some ⟨w.heap.size, 0, none⟩)) true ty).run Tryz.prog (w.iter s pos) = _ := fun ty => run_next_end w s pos ty hp
      go_wp2
      go_ret
      rw [rnF_end s f pos hp] at hr
      exact ⟨by rw [← hr]; rfl, (Below.refl _ _).alloc (Nat.le_refl _) _⟩

def percent_hasRune.f (a0 : ByteArray) (a1 : Int) : Option Bool := some (hasRune a0 a1)
end Go.Proofs.YtplehdcnnaamkaaGreatDoor

/- percent.Byte and percent.In, marks. -/
namespace Go.Proofs.YtplehdcnnaamkaaGreatDoor
open Go.RowKit Go.Proofs.YtplehdcnnaamkaaGreatDoorW.PrintWords Go.Proofs.YtplehdcnnaamkaaGreatDoorW.PrintMore

def marks (s : Int) : ByteArray :=
  if s = 1 then ⟨#[32, 34, 60, 62, 96]⟩ else if s = 2 then ⟨#[32, 34, 35, 60, 62]⟩ else if s = 3 then ⟨#[32, 34, 35, 60, 62, 39]⟩
  else if s = 4 then ⟨#[32, 34, 35, 60, 62, 63, 94, 96, 123, 125]⟩ else if s = 5 then ⟨#[32, 34, 35, 60, 62, 63, 94, 96, 123, 125, 47, 58, 59, 61, 64, 91, 92, 93, 124]⟩ else ⟨#[]⟩

set_option maxHeartbeats 400000 in
theorem marks_calls (s : Int) (w : World) : Calls Tryz.prog 204 #[.int .u8 s] w fun e w' => e = .returned (.string (marks s)) ∧ w = w' := by
  go_enter Tryz.func204, Tryz.ntmps204
  go_wp2
  all_goals (go_ret; exact ⟨by simp_all [marks], rfl⟩)

/-- A digit to the base 16, as a byte. -/
def hexD (n : Int) : UInt8 := if n < 10 then UInt8.ofNat (48 + n.toNat) else UInt8.ofNat (55 + n.toNat)
/-- A byte as % and two digits. -/
def byteL (c : Int) : List UInt8 := [37, hexD (c / 16), hexD (c % 16)]
theorem hex_at (n : Int) (h0 : 0 ≤ n) (h1 : n < 16) (h : n.toNat < (⟨#[48, 49, 50, 51, 52, 53, 54, 55, 56, 57, 65, 66, 67, 68, 69, 70]⟩ : ByteArray).size) :
    UInt8.ofNat (((⟨#[48, 49, 50, 51, 52, 53, 54, 55, 56, 57, 65, 66, 67, 68, 69, 70]⟩ : ByteArray)[n.toNat]'h).toNat : Int).toNat = hexD n := by
  have : n = 0 ∨ n = 1 ∨ n = 2 ∨ n = 3 ∨ n = 4 ∨ n = 5 ∨ n = 6 ∨ n = 7 ∨ n = 8 ∨ n = 9 ∨ n = 10 ∨ n = 11 ∨ n = 12 ∨ n = 13 ∨ n = 14 ∨ n = 15 := by omega
  rcases this with rfl | rfl | rfl | rfl | rfl | rfl | rfl | rfl | rfl | rfl | rfl | rfl | rfl | rfl | rfl | rfl <;> rfl

set_option maxHeartbeats 400000 in
theorem Byte_calls (c : Int) (h0 : 0 ≤ c) (h1 : c ≤ 255) (w : World) : Calls Tryz.prog 199 #[.int .u8 c] w fun e w' => e = .returned (.string ⟨(byteL c).toArray⟩) ∧ Below w.heap.size w w' := by
  go_enter Tryz.func199, Tryz.ntmps199
  have b1 : 0 ≤ c / 16 := by omega
  have b2 : c / 16 < 16 := by omega
  have b3 : 0 ≤ c % 16 := by omega
  have b4 : c % 16 < 16 := by omega
  have hcv : ∀ x y z : Int, (convert 158 9 (.slice (some ⟨w.heap.size, 0, none⟩) 3 3)).run Tryz.prog (w.alloc (.cells #[.int .u8 x, .int .u8 y, .int .u8 z] 5)).drew = .ok (.string (strOfNums [x, y, z])) (w.alloc (.cells #[.int .u8 x, .int .u8 y, .int .u8 z] 5)).drew := fun x y z =>
    run_convert_bytes_arg _ 158 5 Tryz.underlying158 Tryz.underlying5 w.heap.size 0 3 3 [x, y, z] rfl (by
      intro i hi
      have : i = 0 ∨ i = 1 ∨ i = 2 := by omega
      rcases this with rfl | rfl | rfl <;> simp) 9 Tryz.underlying9
  go_wp2
  go_region
  go_wp2
  go_ret
  refine ⟨ret_string ?_, ((Below.refl _ _).alloc (Nat.le_refl _) _).drew⟩
  simp only [strOfNums, List.map_cons, List.map_nil, byteL, hex_at (c / 16) b1 b2, hex_at (c % 16) b3 b4]
  rfl

/-- Is a code point in a set? -/
def inSet (s r : Int) : Bool := if 5 < s then false else decide (r < 32) || decide (126 < r) || hasRune (marks s) r
set_option maxHeartbeats 400000 in
theorem In_calls (s r : Int) (w : World) : Calls Tryz.prog 198 #[.int .u8 s, .int .i32 r] w fun e w' => e = .returned (.bool (inSet s r)) ∧ Below w.heap.size w w' := by
  by_cases h5 : 5 < s
  · go_enter Tryz.func198, Tryz.ntmps198
    go_wp2
    go_ret
    exact ⟨by simp [inSet, h5], Below.refl _ _⟩
  · by_cases h32 : r < 32
    · go_enter Tryz.func198, Tryz.ntmps198
      go_wp2
      go_ret
      exact ⟨by simp [inSet, h5, h32], Below.refl _ _⟩
    · by_cases h126 : 126 < r
      · go_enter Tryz.func198, Tryz.ntmps198
        go_wp2
        go_ret
        exact ⟨by simp [inSet, h5, h126], Below.refl _ _⟩
      · have e : inSet s r = hasRune (marks s) r := by simp [inSet, h5, h32, h126]
        have E := Lib.hid e
        clear e
        go_enter Tryz.func198, Tryz.ntmps198
        go_wp2_with fail
        refine (marks_calls s _).mono ?_
        rintro e w1 ⟨rfl, rfl⟩
        go_wp2_with fail
        refine (hasRune_calls _ r _).mono ?_
        rintro e w1 ⟨rfl, hb⟩
        go_wp2
        go_ret
        exact ⟨by rw [E.out]; rfl, hb⟩
end Go.Proofs.YtplehdcnnaamkaaGreatDoor

/- The shelf's contracts on strings.Builder at this dump, in plain words: printed by wip/mklays.py. -/
namespace Go.Proofs
open Go.Shelf
def Tryz.lays166_ren : Go.Shelf.Ren := ⟨fun | 166 => 95 | 240 => 125 | 276 => 155 | n => n, fun | 0 => 0 | 3 => 3 | 4 => 4 | 5 => 5 | 9 => 9 | 20 => 20 | 37 => 158 | 70 => 157 | 72 => 160 | 75 => 163 | 80 => 40 | 164 => 217 | n => n, fun | n => n⟩
theorem Tryz.lays166 : Go.Proofs.Lays.n166 Tryz.prog Tryz.lays166_ren := {
  mixed := by kernel_rfl
  f166 := Tryz.func95.trans (congrArg some (by kernel_rfl))
  f240 := Tryz.func125.trans (congrArg some (by kernel_rfl))
  f276 := Tryz.func155.trans (congrArg some (by kernel_rfl))
  t0 := Tryz.underlying0
  a0 := Tryz.isAgg0
  z0 := Tryz.sizeOf0
  v0 := Tryz.zeroValue0
  t3 := Tryz.underlying3
  a3 := Tryz.isAgg3
  z3 := Tryz.sizeOf3
  v3 := Tryz.zeroValue3
  t4 := Tryz.underlying4
  a4 := Tryz.isAgg4
  z4 := Tryz.sizeOf4
  v4 := Tryz.zeroValue4
  t9 := Tryz.underlying9
  a9 := Tryz.isAgg9
  z9 := Tryz.sizeOf9
  v9 := Tryz.zeroValue9
  t20 := Tryz.underlying20
  a20 := Tryz.isAgg20
  z20 := Tryz.sizeOf20
  v20 := Tryz.zeroValue20
  t37 := Tryz.underlying158
  a37 := Tryz.isAgg158
  z37 := Tryz.sizeOf158
  v37 := Tryz.zeroValue158
  t70 := Tryz.underlying157
  a70 := Tryz.isAgg157
  z70 := Tryz.sizeOf157
  v70 := Tryz.zeroValue157
  t72 := Tryz.underlying160
  a72 := Tryz.isAgg160
  z72 := Tryz.sizeOf160
  v72 := Tryz.zeroValue160
  t75 := Tryz.underlying163
  a75 := Tryz.isAgg163
  z75 := Tryz.sizeOf163
  v75 := Tryz.zeroValue163
  t164 := Tryz.underlying217
  a164 := Tryz.isAgg217
  z164 := Tryz.sizeOf217
  v164 := Tryz.zeroValue217 }
theorem Tryz.Builder_Extra_166 : Builder.Extra Tryz.prog Tryz.lays166_ren := {
  sizeBuilder := by kernel_rfl
  liesBuilder := by kernel_rfl
  t5 := Tryz.underlying5
  a5 := Tryz.isAgg5
  z5 := Tryz.sizeOf5
  v5 := Tryz.zeroValue5
  infoByte := by kernel_rfl
  cellsByte := by kernel_rfl
  sizeByte := by kernel_rfl
  neB5 := by decide }
def Tryz.lays168_ren : Go.Shelf.Ren := ⟨fun | 168 => 129 | 240 => 125 | 242 => 158 | 276 => 155 | 278 => 177 | n => n, fun | 0 => 0 | 3 => 3 | 4 => 4 | 5 => 5 | 9 => 9 | 20 => 20 | 21 => 21 | 37 => 158 | 46 => 121 | 51 => 110 | 70 => 157 | 72 => 160 | 75 => 163 | 80 => 40 | 164 => 217 | n => n, fun | n => n⟩
theorem Tryz.lays168 : Go.Proofs.Lays.n168 Tryz.prog Tryz.lays168_ren := {
  mixed := by kernel_rfl
  f168 := Tryz.func129.trans (congrArg some (by kernel_rfl))
  f240 := Tryz.func125.trans (congrArg some (by kernel_rfl))
  f242 := Tryz.func158.trans (congrArg some (by kernel_rfl))
  f276 := Tryz.func155.trans (congrArg some (by kernel_rfl))
  f278 := Tryz.func177.trans (congrArg some (by kernel_rfl))
  t0 := Tryz.underlying0
  a0 := Tryz.isAgg0
  z0 := Tryz.sizeOf0
  v0 := Tryz.zeroValue0
  t3 := Tryz.underlying3
  a3 := Tryz.isAgg3
  z3 := Tryz.sizeOf3
  v3 := Tryz.zeroValue3
  t4 := Tryz.underlying4
  a4 := Tryz.isAgg4
  z4 := Tryz.sizeOf4
  v4 := Tryz.zeroValue4
  t5 := Tryz.underlying5
  a5 := Tryz.isAgg5
  z5 := Tryz.sizeOf5
  v5 := Tryz.zeroValue5
  t9 := Tryz.underlying9
  a9 := Tryz.isAgg9
  z9 := Tryz.sizeOf9
  v9 := Tryz.zeroValue9
  t20 := Tryz.underlying20
  a20 := Tryz.isAgg20
  z20 := Tryz.sizeOf20
  v20 := Tryz.zeroValue20
  t21 := Tryz.underlying21
  a21 := Tryz.isAgg21
  z21 := Tryz.sizeOf21
  v21 := Tryz.zeroValue21
  t37 := Tryz.underlying158
  a37 := Tryz.isAgg158
  z37 := Tryz.sizeOf158
  v37 := Tryz.zeroValue158
  t46 := Tryz.underlying121
  a46 := Tryz.isAgg121
  z46 := Tryz.sizeOf121
  v46 := Tryz.zeroValue121
  t51 := Tryz.underlying110
  a51 := Tryz.isAgg110
  z51 := Tryz.sizeOf110
  v51 := Tryz.zeroValue110
  t70 := Tryz.underlying157
  a70 := Tryz.isAgg157
  z70 := Tryz.sizeOf157
  v70 := Tryz.zeroValue157
  t72 := Tryz.underlying160
  a72 := Tryz.isAgg160
  z72 := Tryz.sizeOf160
  v72 := Tryz.zeroValue160
  t75 := Tryz.underlying163
  a75 := Tryz.isAgg163
  z75 := Tryz.sizeOf163
  v75 := Tryz.zeroValue163
  t164 := Tryz.underlying217
  a164 := Tryz.isAgg217
  z164 := Tryz.sizeOf217
  v164 := Tryz.zeroValue217 }
theorem Tryz.Builder_Extra_168 : Builder.Extra Tryz.prog Tryz.lays168_ren := {
  sizeBuilder := by kernel_rfl
  liesBuilder := by kernel_rfl
  t5 := Tryz.underlying5
  a5 := Tryz.isAgg5
  z5 := Tryz.sizeOf5
  v5 := Tryz.zeroValue5
  infoByte := by kernel_rfl
  cellsByte := by kernel_rfl
  sizeByte := by kernel_rfl
  neB5 := by decide }
def Tryz.lays169_ren : Go.Shelf.Ren := ⟨fun | 169 => 97 | n => n, fun | 0 => 0 | 3 => 3 | 5 => 5 | 9 => 9 | 37 => 158 | 70 => 157 | 72 => 160 | 127 => 192 | n => n, fun | n => n⟩
theorem Tryz.lays169 : Go.Proofs.Lays.n169 Tryz.prog Tryz.lays169_ren := {
  mixed := by kernel_rfl
  f169 := Tryz.func97.trans (congrArg some (by kernel_rfl))
  t0 := Tryz.underlying0
  a0 := Tryz.isAgg0
  z0 := Tryz.sizeOf0
  v0 := Tryz.zeroValue0
  t3 := Tryz.underlying3
  a3 := Tryz.isAgg3
  z3 := Tryz.sizeOf3
  v3 := Tryz.zeroValue3
  t9 := Tryz.underlying9
  a9 := Tryz.isAgg9
  z9 := Tryz.sizeOf9
  v9 := Tryz.zeroValue9
  t37 := Tryz.underlying158
  a37 := Tryz.isAgg158
  z37 := Tryz.sizeOf158
  v37 := Tryz.zeroValue158
  t70 := Tryz.underlying157
  a70 := Tryz.isAgg157
  z70 := Tryz.sizeOf157
  v70 := Tryz.zeroValue157
  t72 := Tryz.underlying160
  a72 := Tryz.isAgg160
  z72 := Tryz.sizeOf160
  v72 := Tryz.zeroValue160
  t127 := Tryz.underlying192
  a127 := Tryz.isAgg192
  z127 := Tryz.sizeOf192
  v127 := Tryz.zeroValue192 }
theorem Tryz.Builder_Extra_169 : Builder.Extra Tryz.prog Tryz.lays169_ren := {
  sizeBuilder := by kernel_rfl
  liesBuilder := by kernel_rfl
  t5 := Tryz.underlying5
  a5 := Tryz.isAgg5
  z5 := Tryz.sizeOf5
  v5 := Tryz.zeroValue5
  infoByte := by kernel_rfl
  cellsByte := by kernel_rfl
  sizeByte := by kernel_rfl
  neB5 := by decide }
open Go.RowKit in
theorem Tryz.Builder_WriteString_k (B b : Nat) (bs : List Value) (s : ByteArray) (w : World) (h : Lib.IsBuilderF 160 5 B b bs w) (hlen : bs.length + s.size ≤ 140737488355328) (hBw : B ≤ w.heap.size) :
    Calls Tryz.prog 95 #[.pointer (some ⟨b, 0, none⟩), .string s] w fun e w' => e = .returned (.tuple #[.int .i64 s.size, .nilIface]) ∧ (Lib.BuilderAtF 160 5 B b (.pointer (some ⟨b, 0, none⟩)) (bs ++ Lib.strCells s) w' ∧ Below B w w' ∧ Lib.OthersKept 5 (some b) w w') := Any.Builder_WriteString_k Tryz.lays166 Tryz.Builder_Extra_166 B b bs s w h hlen hBw
open Go.RowKit in
theorem Tryz.Builder_WriteRune_k (B b : Nat) (bs : List Value) (r : Int) (hr0 : -2147483648 ≤ r) (hr1 : r ≤ 2147483647) (w : World) (h : Lib.IsBuilderF 160 5 B b bs w) (hlen : bs.length + 4 ≤ 140737488355328) (hBw : B ≤ w.heap.size) :
    Calls Tryz.prog 129 #[.pointer (some ⟨b, 0, none⟩), .int .i32 r] w fun e w' => e = .returned (.tuple #[.int .i64 (Lib.runeCells r).length, .nilIface]) ∧ (Lib.BuilderAtF 160 5 B b (.pointer (some ⟨b, 0, none⟩)) (bs ++ Lib.runeCells r) w' ∧ Below B w w' ∧ Lib.OthersKept 5 (some b) w w') := Any.Builder_WriteRune_k Tryz.lays168 Tryz.Builder_Extra_168 B b bs r hr0 hr1 w h hlen hBw
open Go.RowKit in
theorem Tryz.Builder_String_any_k (B b : Nat) (l : List UInt8) (w : World) (h : Lib.IsBuilderF 160 5 B b (Lib.byteCells l) w) (hBw : B ≤ w.heap.size) :
    Calls Tryz.prog 97 #[.pointer (some ⟨b, 0, none⟩)] w fun e w' => e = .returned (.string ⟨l.toArray⟩) ∧ (Lib.IsBuilderF 160 5 B b (Lib.byteCells l) w' ∧ Below B w w' ∧ Lib.OthersKept 5 (some b) w w') := Any.Builder_String_any_k Tryz.lays169 Tryz.Builder_Extra_169 B b l w h hBw
end Go.Proofs

/- scalar.Text: a Builder in a range over a slice. -/
namespace Go.Proofs.YtplehdcnnaamkaaGreatDoor
open Go.RowKit Go.Proofs.YtplehdcnnaamkaaGreatDoorW.PrintWords Go.Proofs.YtplehdcnnaamkaaGreatDoorW.PrintLast Go.Proofs.YtplehdcnnaamkaaGreatDoorW.PrintMore

set_option maxHeartbeats 400000 in
theorem scalar_Text_calls (A : Option Addr) (c : Nat) (l : List Int) (w : World) (hr : Kd.C (Kd.int .i32) w A l.length l) (hb : ∀ x ∈ l, -2147483648 ≤ x ∧ x ≤ 2147483647) (hl : l.length ≤ 1000000) :
    Calls Tryz.prog 197 #[.slice A l.length c] w fun e w' => e = .returned (.string (textOf l)) ∧ Below w.heap.size w w' := by
  have Hb := Lib.hid hb
  clear hb
  obtain ⟨ad, hA⟩ : ∃ ad : Addr, 0 < l.length → A = some ad := by
    by_cases h : 0 < l.length
    · obtain ⟨ad, e⟩ := C_some hr h
      exact ⟨ad, fun _ => e⟩
    · exact ⟨⟨0, 0, none⟩, fun h' => absurd h' h⟩
  have HA := Lib.hid hA
  have Hr := Lib.hid hr
  clear hA hr
  go_enter Tryz.func197, Tryz.ntmps197
  go_wp2
  go_loopw [8] (fun i wr => ∃ (j : Nat), i = .int .i64 j ∧ j ≤ l.length ∧ Aside0 (Lib.IsBuilderF 160 5 w.heap.size w.heap.size (Lib.byteCells (textL (l.take j))) wr) ∧ Aside0 (Below w.heap.size w wr)) (fun i _ => l.length - (intOf i).toNat)
  case atStart =>
    exact ⟨0, rfl, Nat.zero_le _, ⟨Lib.IsBuilderF.of (Lib.fresh_isBuilder 160 5 w)⟩, ⟨(Below.refl _ w).alloc (Nat.le_refl _) _⟩⟩
  case round =>
    obtain ⟨j, rfl, hj, HI, HB⟩ := hrel
    by_cases hlt : j < l.length
    · have hA := HA.out (by omega)
      subst hA
      have hcell := C_int_at (Kd.C_below Hr.out HB.out) j hlt
      have hbj := Hb.out _ (List.getElem_mem hlt)
      have hl4 := textL_length (l.take j)
      have hlj : (l.take j).length = j := by rw [List.length_take]; omega
      rw [hlj] at hl4
      have hsz := HB.out.size
      clear hlj
      go_wp2_with fail
      refine (Tryz.Builder_WriteRune_k w.heap.size w.heap.size _ _ hbj.1 hbj.2 _ HI.out (by rw [Lib.byteCells_length]; omega) hsz).mono ?_
      rintro e W1 ⟨rfl, h1, b1, _⟩
      have H1 := Aside0.mk h1
      have HB1 := Aside0.mk (HB.out.trans b1)
      clear h1 b1 HI HB
      go_wp2
      refine ⟨⟨j + 1, by go_num, by omega, ⟨?_⟩, HB1⟩, by simp [intOf]; omega⟩
      rw [List.take_succ_eq_append_getElem hlt, textL_snoc, Lib.byteCells_append, Lib.byteCells_encodeRune]
      exact Or.inr H1.out
    · have he : l.take j = l := List.take_of_length_le (by omega)
      have hsz := HB.out.size
      have HI2 := HI.out
      rw [he] at HI2
      have HI3 := Aside0.mk HI2
      clear he HI2 HI
      go_wp2_with fail
      refine (Tryz.Builder_String_any_k w.heap.size w.heap.size _ _ HI3.out hsz).mono ?_
      rintro e W1 ⟨rfl, _, b1, _⟩
      go_wp2
      go_ret
      exact ⟨rfl, HB.out.trans b1⟩
/-- Of one code point that was just laid. -/
theorem Text_one (r : Int) (h0 : -2147483648 ≤ r) (h1 : r ≤ 2147483647) (w : World) :
    Calls Tryz.prog 197 #[.slice (some ⟨w.heap.size, 0, none⟩) 1 1] (w.alloc (.cells #[.int .i32 r] 21)) fun e w' => ∃ q : ByteArray, Aside0 (q.data.toList = Lib.encodeRune r) ∧ e = .returned (.string q) ∧ Below (w.heap.size + 1) (w.alloc (.cells #[.int .i32 r] 21)) w' := by
  refine (scalar_Text_calls (some ⟨w.heap.size, 0, none⟩) 1 [r] _ (C_one .i32 w r _) (by simpa using ⟨h0, h1⟩) (by simp)).mono ?_
  rintro e w' ⟨rfl, hb⟩
  refine ⟨_, ⟨?_⟩, rfl, ?_⟩
  · simp [textOf, textL]
  · simpa using hb

def scalar_Text.f (l0 : List Int) : Option ByteArray := if l0.length ≤ 1000000 ∧ ∀ x ∈ l0, -2147483648 ≤ x ∧ x ≤ 2147483647 then some (textOf l0) else none
end Go.Proofs.YtplehdcnnaamkaaGreatDoor

/- percent.Encode: a Builder in a range over a string, with a loop inside. -/
namespace Go.Proofs.YtplehdcnnaamkaaGreatDoor
open Go.RowKit Go.Proofs.YtplehdcnnaamkaaGreatDoorW.PrintWords Go.Proofs.YtplehdcnnaamkaaGreatDoorW.PrintMore

/-- What a code point is written as, by a set. -/
def encOne (s r : Int) : List UInt8 := if inSet s r = true then (Lib.encodeRune r).flatMap (fun b => byteL (b.toNat : Int)) else Lib.encodeRune r
def encL (s : Int) (l : List Int) : List UInt8 := l.flatMap (encOne s)
def encOf (s : Int) (t : ByteArray) : ByteArray := ⟨(encL s (rn t)).toArray⟩
theorem encL_snoc (s : Int) (l : List Int) (r : Int) : encL s (l ++ [r]) = encL s l ++ encOne s r := by simp [encL]
theorem byteL_length (c : Int) : (byteL c).length = 3 := rfl
theorem bytesL_length (l : List UInt8) : (l.flatMap (fun b => byteL (b.toNat : Int))).length = 3 * l.length := by
  induction l with
  | nil => rfl
  | cons x l ih => simp only [List.flatMap_cons, List.length_append, byteL_length, ih, List.length_cons]; omega
theorem encOne_length (s r : Int) : (encOne s r).length ≤ 12 := by
  have := encodeRune_length r
  unfold encOne
  split
  · rw [bytesL_length]; omega
  · omega
theorem encL_length (s : Int) (l : List Int) : (encL s l).length ≤ 12 * l.length := by
  induction l with
  | nil => simp [encL]
  | cons r l ih =>
    have := encOne_length s r
    simp only [encL, List.flatMap_cons, List.length_append, List.length_cons] at *
    omega

set_option maxHeartbeats 1000000 in
theorem Encode_calls (s : Int) (t : ByteArray) (w : World) (ht : t.size ≤ 1000000) :
    Calls Tryz.prog 194 #[.int .u8 s, .string t] w fun e w' => e = .returned (.string (encOf s t)) ∧ Below w.heap.size w w' := by
  go_enter Tryz.func194, Tryz.ntmps194
  go_wp2
  go_loopw [] (fun wr => ∃ (pos f : Nat) (l : List Int), wr.heap[w.heap.size + 1]? = some (.stringIter t pos) ∧ Aside0 (l ++ rnF t f pos = rn t) ∧ t.size ≤ pos + f ∧ l.length ≤ pos ∧ Aside0 (Lib.IsBuilderF 160 5 w.heap.size w.heap.size (Lib.byteCells (encL s l)) wr) ∧ Aside0 (Below w.heap.size w wr)) (fun wr => t.size - wr.iterPos (w.heap.size + 1))
  case atStart =>
    refine ⟨0, t.size, [], ?_, ⟨rfl⟩, by omega, by simp, ⟨(Lib.IsBuilderF.of (Lib.fresh_isBuilder 160 5 w)).alloc _⟩, ⟨((Below.refl _ w).alloc (Nat.le_refl _) _).alloc (by simp) _⟩⟩
    have := World.iter_heap (w.alloc (.cells #[.pointer none, .slice none 0 0] 160)) t 0
    simpa using this
  case round =>
    obtain ⟨pos, f, l, hit, hr, hf, hl, HI, HB⟩ := hrel
    have hsz : w.heap.size + 1 < wr.heap.size := (Array.getElem?_eq_some_iff.1 hit).1
    have hll := encL_length s l
    by_cases hp : pos < t.size
    · have hnx : ∀ ty, (Instr.next (.pointer (some ⟨w.heap.size + 1, 0, none⟩)) true ty).run Tryz.prog wr = _ := fun ty => Lib.run_next_any_at wr (w.heap.size + 1) t pos ty hit hp
      have hwd := width_pos t pos hp
      have hd1 := decode_le t pos
      obtain ⟨g, rfl, hg0⟩ := rnF_step t f pos hp hf
      have hg1 := Aside0.mk hg0
      clear hg0
      have hit2 := Aside0.mk (Lib.iterAt_heap wr (w.heap.size + 1) t pos (pos + (Utf8.decode t pos).2) hit)
      have HI2 := Aside0.mk (HI.out.iterAt hit (pos + (Utf8.decode t pos).2))
      have HB2 := Aside0.mk (Lib.below_iterAt HB.out (k := w.heap.size + 1) (by omega) t (pos + (Utf8.decode t pos).2))
      have hsz2 : w.heap.size + 1 < (wr.iterAt (w.heap.size + 1) t (pos + (Utf8.decode t pos).2)).heap.size := by rw [Lib.iterAt_size]; omega
      clear HI HB
      generalize hW : wr.iterAt (w.heap.size + 1) t (pos + (Utf8.decode t pos).2) = W at hnx hit2 HI2 HB2 hsz2
      have HW := Lib.hid hW
      clear hW
      go_wp2_with fail
      refine (Text_one _ (by omega) (by omega) _).mono ?_
      rintro e W1 ⟨q, hq, rfl, b1⟩
      have b1' : Below (W.alloc (.cells #[.int .i32 (Utf8.decode t pos).1] 21)).heap.size (W.alloc (.cells #[.int .i32 (Utf8.decode t pos).1] 21)) W1 := by simpa using b1
      have HI3 := Aside0.mk (IsBuilderF_below (HI2.out.alloc _) b1')
      have HB3 := Aside0.mk (below_then (HB2.out.alloc (by omega) (.cells #[.int .i32 (Utf8.decode t pos).1] 21)) (by simp; omega) b1')
      have hit3 := Aside0.mk (iter_below b1' ((Lib.alloc_old W _ _ (by omega)).trans hit2.out))
      have hsz3 : w.heap.size + 1 < W1.heap.size := by have := b1'.size; simp at this; omega
      have hqs : q.size ≤ 4 := by have := encodeRune_length (Utf8.decode t pos).1; rw [← hq.out] at this; simpa using this
      clear HI2 HB2 hit2 b1 b1'
      go_wp2_with fail
      refine (In_calls s _ _).mono ?_
      rintro e W2 ⟨rfl, b2⟩
      have HI4 := Aside0.mk (IsBuilderF_below HI3.out b2)
      have HB4 := Aside0.mk (below_then HB3.out (by omega) b2)
      have hit4 := Aside0.mk (iter_below b2 hit3.out)
      have hsz4 : w.heap.size + 1 < W2.heap.size := by have := b2.size; omega
      clear HI3 HB3 hit3 b2
      have hlr : l ++ [((Utf8.decode t pos).1 : Int)] ++ rnF t g (pos + (Utf8.decode t pos).2) = rn t := by
        have := hr.out; rw [hg1.out] at this; rw [← this, List.append_assoc]; rfl
      have Hlr := Aside0.mk hlr
      clear hlr
      cases hin : inSet s ((Utf8.decode t pos).1 : Int)
      · have Hin := Lib.hid hin
        clear hin
        go_wp2_with fail
        refine (Tryz.Builder_WriteString_k w.heap.size w.heap.size _ q _ HI4.out (by rw [Lib.byteCells_length]; omega) (by omega)).mono ?_
        rintro e W3 ⟨rfl, h3, b3, k3⟩
        go_wp2
        have hit5 := k3.iter hit4.out (by omega)
        refine ⟨⟨pos + (Utf8.decode t pos).2, g, l ++ [((Utf8.decode t pos).1 : Int)], hit5, Hlr, by omega, by simp; omega, ⟨?_⟩, ⟨HB4.out.trans b3⟩⟩, ?_⟩
        · rw [encL_snoc, Lib.byteCells_append, encOne, Hin.out, ← hq.out]
          exact Or.inr h3
        · simp only [World.iterPos, hit5, hit]
          omega
      · have Hin := Lib.hid hin
        clear hin
        go_wp2
        go_loopw [26] (fun i wi => ∃ (j : Nat), i = .int .i64 j ∧ j ≤ q.size ∧ Aside0 (wi.heap[w.heap.size + 1]? = some (.stringIter t (pos + (Utf8.decode t pos).2))) ∧ Aside0 (Lib.IsBuilderF 160 5 w.heap.size w.heap.size (Lib.byteCells (encL s l ++ (q.data.toList.take j).flatMap (fun b => byteL (b.toNat : Int)))) wi) ∧ Aside0 (Below w.heap.size w wi)) (fun i _ => q.size - (intOf i).toNat)
        case atStart => exact ⟨0, rfl, Nat.zero_le _, hit4, ⟨by simpa using HI4.out⟩, HB4⟩
        case round =>
          clear HI4 HB4 hit4 hsz4 hsz3 hsz2 hsz
          obtain ⟨j, rfl, hj, hit5, HI5, HB5⟩ := hrel
          have hsz5 : w.heap.size + 1 < wr.heap.size := (Array.getElem?_eq_some_iff.1 hit5.out).1
          have hlj := bytesL_length (q.data.toList.take j)
          have hlj2 : (q.data.toList.take j).length ≤ 4 := by rw [List.length_take]; simp; omega
          by_cases hlt : j < q.size
          · have hb0 := (q[j]'hlt).toNat_lt
            go_wp2_with fail
            refine (Byte_calls _ (by omega) (by omega) _).mono ?_
            rintro e W3 ⟨rfl, b3⟩
            have HI6 := Aside0.mk (IsBuilderF_below HI5.out b3)
            have HB6 := Aside0.mk (below_then HB5.out (by omega) b3)
            have hit6 := Aside0.mk (iter_below b3 hit5.out)
            have hsz6 : w.heap.size + 1 < W3.heap.size := by have := b3.size; omega
            go_wp2_with fail
            refine (Tryz.Builder_WriteString_k w.heap.size w.heap.size _ _ _ HI6.out (by rw [Lib.byteCells_length, List.length_append, hlj]; show _ + 3 ≤ _; omega) (by omega)).mono ?_
            rintro e W4 ⟨rfl, h4, b4, k4⟩
            go_wp2
            refine ⟨⟨j + 1, by go_num, by omega, ⟨k4.iter hit6.out (by omega)⟩, ⟨?_⟩, ⟨HB6.out.trans b4⟩⟩, by simp [intOf]; omega⟩
            rw [take_byte q j hlt, List.flatMap_append, ← List.append_assoc, Lib.byteCells_append]
            refine Or.inr ?_
            rw [Lib.strCells_eq] at h4
            simpa using h4
          · have hqe : q.data.toList.take j = q.data.toList := List.take_of_length_le (by simp; omega)
            have HI6 := HI5.out
            rw [hqe, hq.out] at HI6
            have HI7 := Aside0.mk HI6
            clear hqe HI6
            go_wp2
            refine ⟨⟨pos + (Utf8.decode t pos).2, g, l ++ [((Utf8.decode t pos).1 : Int)], hit5.out, Hlr, by omega, by simp; omega, ⟨?_⟩, HB5⟩, ?_⟩
            · rw [encL_snoc, encOne, if_pos Hin.out]
              exact HI7.out
            · simp only [World.iterPos, hit5.out, hit]
              omega
    · have hnx : ∀ ty, (Instr.next (.pointer (some ⟨w.heap.size + 1, 0, none⟩)) true ty).run Tryz.prog wr = _ := fun ty => Lib.run_next_end_at wr (w.heap.size + 1) t pos ty hit hp
      have he := hr.out
      rw [rnF_end t f pos hp, List.append_nil] at he
      have He := Lib.hid he
      clear he
      go_wp2_with fail
      refine (Tryz.Builder_String_any_k w.heap.size w.heap.size _ _ HI.out (by omega)).mono ?_
      rintro e W1 ⟨rfl, _, b1, _⟩
      go_wp2
      go_ret
      exact ⟨ret_string (by rw [encOf, He.out]), HB.out.trans b1⟩
end Go.Proofs.YtplehdcnnaamkaaGreatDoor

/- slices.Equal of code points; the examples of the chapters 1 and 2. -/
namespace Go.Proofs.YtplehdcnnaamkaaGreatDoor
open Go.RowKit Go.Proofs.YtplehdcnnaamkaaGreatDoorW.PrintWords Go.Proofs.YtplehdcnnaamkaaGreatDoorW.PrintMore

theorem eq_of_take (l m : List Int) (h : l.length = m.length) (j : Nat) (hj : l.length ≤ j) (he : l.take j = m.take j) : l = m := by
  rw [List.take_of_length_le hj, List.take_of_length_le (by omega)] at he
  exact he

set_option maxHeartbeats 1000000 in
theorem EqualRune_calls (A B : Option Addr) (c d : Nat) (l m : List Int) (w : World) (hl : Kd.C (Kd.int .i32) w A l.length l) (hm : Kd.C (Kd.int .i32) w B m.length m) (hlen : l.length ≤ 1000000) (hlen2 : m.length ≤ 1000000) :
    Calls Tryz.prog 201 #[.slice A l.length c, .slice B m.length d] w fun e w' => e = .returned (.bool (decide (l = m))) ∧ Drawn0 w w' := by
  by_cases hne : l.length = m.length
  · have h1 : ((l.length : Int) != (m.length : Int)) = false := by simp [hne]
    have h2 : (l.length != m.length) = false := by simp [hne]
    have Hne := Lib.hid hne
    have HL := Lib.hid hl
    have HM := Lib.hid hm
    have hA : ∃ ad : Addr, 0 < l.length → A = some ad := by
      by_cases h : 0 < l.length
      · obtain ⟨ad, e⟩ := C_some hl h
        exact ⟨ad, fun _ => e⟩
      · exact ⟨⟨0, 0, none⟩, fun h' => absurd h' h⟩
    have hB : ∃ ad : Addr, 0 < l.length → B = some ad := by
      by_cases h : 0 < l.length
      · obtain ⟨ad, e⟩ := C_some hm (by omega)
        exact ⟨ad, fun _ => e⟩
      · exact ⟨⟨0, 0, none⟩, fun h' => absurd h' h⟩
    obtain ⟨ad, hA⟩ := hA
    obtain ⟨bd, hB⟩ := hB
    have HA := Lib.hid hA
    have HB := Lib.hid hB
    clear hl hm hA hB hne
    go_enter Tryz.func201, Tryz.ntmps201
    go_wp2
    go_loopw [13] (fun i wr => ∃ (j : Nat), i = .int .i64 j ∧ j ≤ l.length ∧ Aside0 (l.take j = m.take j) ∧ Aside0 (Drawn0 w wr)) (fun i _ => l.length - (intOf i).toNat)
    case atStart => exact ⟨0, rfl, by omega, ⟨rfl⟩, ⟨Drawn0.refl _⟩⟩
    case round =>
      obtain ⟨j, rfl, hj, hr, HD⟩ := hrel
      by_cases hlt : j < l.length
      · have hA := HA.out (by omega)
        have hB := HB.out (by omega)
        subst hA hB
        have hlt2 : j < m.length := by have := Hne.out; omega
        have c1 := C_int_at (Kd.C_below HL.out HD.out.below) j hlt
        have c2 := C_int_at (Kd.C_below HM.out HD.out.below) j hlt2
        have i1 : 0 ≤ (j : Int) := by omega
        have i2 : (j : Int) < (l.length : Int) := by omega
        have i3 : (j : Int) < (m.length : Int) := by omega
        cases hx : (l[j] != m[j])
        · have HX := Lib.hid hx
          go_wp2_with fail
          go_quiet (fail)
          go_wp2_with fail
          refine ⟨⟨j + 1, by go_num, by omega, ⟨?_⟩, ⟨HD.out.step _⟩⟩, by simp [intOf]; omega⟩
          have := HX.out
          rw [bne_eq_false_iff_eq] at this
          rw [List.take_succ_eq_append_getElem hlt, List.take_succ_eq_append_getElem hlt2, hr.out, this]
        · have HX := Lib.hid hx
          go_wp2_with fail
          go_quiet (fail)
          go_wp2_with fail
          go_ret
          refine ⟨ret_bool ?_, HD.out.step _⟩
          have := HX.out
          rw [bne_iff_ne] at this
          rw [eq_comm, decide_eq_false_iff_not]
          rintro rfl
          exact this rfl
      · go_wp2_with fail
        go_ret
        refine ⟨ret_bool ?_, HD.out⟩
        rw [eq_comm, decide_eq_true_eq]
        exact eq_of_take l m Hne.out j (by omega) hr.out
  · have h1 : ((l.length : Int) != (m.length : Int)) = true := by simp; omega
    have h2 : (l.length != m.length) = true := by simp; omega
    have Hne := Lib.hid hne
    clear hne
    go_enter Tryz.func201, Tryz.ntmps201
    go_wp2
    go_ret
    refine ⟨ret_bool ?_, Drawn0.refl _⟩
    rw [eq_comm, decide_eq_false_iff_not]
    rintro rfl
    exact Hne.out rfl

theorem rn_example : rn ⟨#[97, 255, 98]⟩ = [97, 65533, 98] := by decide +kernel
theorem enc_example : encOf 4 ⟨#[97, 32, 98]⟩ = ⟨#[97, 37, 50, 48, 98]⟩ := by decide +kernel
theorem dec_example : decL [37, 50, 53, 52, 49] = [37, 52, 49] := by decide +kernel

set_option maxHeartbeats 1000000 in
theorem awake1_calls (w : World) : Calls Tryz.prog 196 #[] w fun e w' => e = .returned (.bool true) ∧ Below w.heap.size w w' := by
  go_enter Tryz.func196, Tryz.ntmps196
  go_wp2_with fail
  refine (scalar_Scalars_calls _ _ (by decide)).mono ?_
  rintro e w1 ⟨v, rfl, hv, hb⟩
  rw [rn_example] at hv
  obtain ⟨A, c, rfl, _, hC⟩ := Kd.R_reads hv
  have HC := Lib.hid hC
  have HB := Aside0.mk hb
  clear hv hC hb
  go_wp2_with fail
  refine (EqualRune_calls A (some ⟨w1.heap.size, 0, none⟩) c 3 [97, 65533, 98] [97, 65533, 98] _ (Kd.C_below HC.out ((Below.refl _ _).alloc (Nat.le_refl _) _)) (C_new .i32 w1 [97, 65533, 98] _ (by decide)) (by decide) (by decide)).mono ?_
  rintro e w2 ⟨rfl, hd⟩
  go_wp2
  go_ret
  have hs := HB.out.size
  exact ⟨rfl, below_then (HB.out.alloc hs _) (by simp; omega) hd.below⟩

theorem Awake1_calls (w : World) : Calls Tryz.prog 193 #[] w fun e w' => e = .returned (.bool true) ∧ Below w.heap.size w w' := by
  go_enter Tryz.func193, Tryz.ntmps193
  go_wp2_with fail
  refine (awake1_calls _).mono ?_
  rintro e w1 ⟨rfl, hb⟩
  go_wp2
  go_ret
  exact ⟨rfl, hb⟩

set_option maxHeartbeats 1000000 in
theorem awake2_calls (w : World) : Calls Tryz.prog 192 #[] w fun e w' => e = .returned (.bool true) ∧ Below w.heap.size w w' := by
  go_enter Tryz.func192, Tryz.ntmps192
  go_wp2_with fail
  refine (Awake1_calls _).mono ?_
  rintro e w1 ⟨rfl, hb⟩
  go_wp2_with fail
  refine (Encode_calls 4 _ _ (by decide)).mono ?_
  rintro e w2 ⟨rfl, hb2⟩
  rw [enc_example]
  go_wp2_with fail
  refine (Decode_calls _ (by decide) _).mono ?_
  rintro e w3 ⟨rfl, hb3⟩
  rw [show (ByteArray.mk #[37, 50, 53, 52, 49]).data.toList = [37, 50, 53, 52, 49] from rfl, dec_example]
  go_wp2
  go_ret
  exact ⟨rfl, below_then (below_then hb hb.size hb2) (Nat.le_trans hb.size hb2.size) hb3⟩

end Go.Proofs.YtplehdcnnaamkaaGreatDoor

/- The chapters' examples of layers 2 and 3, walked. -/
namespace Go.Proofs.YtplehdcnnaamkaaGreatDoor
open Go.RowKit Go.Proofs.YtplehdcnnaamkaaGreatDoorW.PrintWords Go.Proofs.YtplehdcnnaamkaaGreatDoorW.PrintMore

theorem parse_x1 : parseN [48, 120, 55, 102] = 127 ∧ parseOk [48, 120, 55, 102] = true := by decide +kernel
theorem parse_x2 : parseN [48, 49, 55] = 15 ∧ parseOk [48, 49, 55] = true := by decide +kernel
theorem parse_x3 : parseOk [48, 56] = false := by decide +kernel
theorem ends_x : endsL [97, 46, 48, 120] = true := by decide +kernel

theorem AwakeL2_calls (w : World) : Calls Tryz.prog 188 #[] w fun e w' => e = .returned (.bool true) ∧ Below w.heap.size w w' := by
  go_enter Tryz.func188, Tryz.ntmps188
  go_wp2_with fail
  refine (awake2_calls _).mono ?_
  rintro e w1 ⟨rfl, hb⟩
  go_wp2
  go_ret
  exact ⟨rfl, hb⟩

set_option maxHeartbeats 1000000 in
theorem awake3_calls (w : World) : Calls Tryz.prog 176 #[] w fun e w' => e = .returned (.bool true) ∧ Below w.heap.size w w' := by
  go_enter Tryz.func176, Tryz.ntmps176
  go_wp2_with fail
  refine (Parse_calls _ (by decide) _).mono ?_
  rintro e w1 ⟨rfl, b1⟩
  rw [show (ByteArray.mk #[48, 120, 55, 102]).data.toList = [48, 120, 55, 102] from rfl, parse_x1.1, parse_x1.2]
  go_wp2_with fail
  refine (Parse_calls _ (by decide) _).mono ?_
  rintro e w2 ⟨rfl, b2⟩
  rw [show (ByteArray.mk #[48, 49, 55]).data.toList = [48, 49, 55] from rfl, parse_x2.1, parse_x2.2]
  go_wp2_with fail
  refine (Parse_calls _ (by decide) _).mono ?_
  rintro e w3 ⟨rfl, b3⟩
  rw [show (ByteArray.mk #[48, 56]).data.toList = [48, 56] from rfl, parse_x3]
  go_wp2_with fail
  refine (AwakeL2_calls _).mono ?_
  rintro e w4 ⟨rfl, b4⟩
  go_wp2_with fail
  refine (Ends_calls _ _ (by decide)).mono ?_
  rintro e w5 ⟨rfl, b5⟩
  rw [show (ByteArray.mk #[97, 46, 48, 120]).data.toList = [97, 46, 48, 120] from rfl, ends_x]
  go_wp2
  go_ret
  have B2 := below_then b1 b1.size b2
  have B3 := below_then B2 B2.size b3
  have B4 := below_then B3 B3.size b4
  exact ⟨rfl, below_then B4 B4.size b5⟩
end Go.Proofs.YtplehdcnnaamkaaGreatDoor

/- four.Strict and the document's Strict, walked. -/
namespace Go.Proofs.YtplehdcnnaamkaaGreatDoor
open Go.RowKit Go.Proofs.YtplehdcnnaamkaaGreatDoorW.PrintWords Go.Proofs.YtplehdcnnaamkaaGreatDoorW.PrintMore

theorem strict_none (l : List UInt8) (h : strictP (splitL (isAt ⟨#[46]⟩) l) = none) : strictN l = 0 ∧ strictOk l = false := by
  have : strictL l = none := h
  exact ⟨by rw [strictN, this]; rfl, by rw [strictOk, this]; rfl⟩
theorem strict_some (l : List UInt8) (x : Int) (h : strictP (splitL (isAt ⟨#[46]⟩) l) = some x) : strictN l = x ∧ strictOk l = true := by
  have : strictL l = some x := h
  exact ⟨by rw [strictN, this]; rfl, by rw [strictOk, this]; rfl⟩
theorem sumS_step (j : Nat) (x : Int) (P : List (List UInt8)) (h : j < P.length) : sumS x (P.drop j) = if decOk (P.getD j []) 255 = true then sumS (x * 256 + decN (P.getD j []) 255) (P.drop (j + 1)) else none := by
  rw [drop_getD P j h, sumS]
theorem dec_bd (l : List UInt8) (h : decOk l 255 = true) : 0 ≤ decN l 255 ∧ decN l 255 ≤ 255 := by
  obtain ⟨u, h1, h2, _⟩ := dec_inv l h
  omega

set_option maxHeartbeats 4000000 in
set_option maxRecDepth 100000 in
theorem Strict_calls (s : ByteArray) (w : World) (hs : s.size ≤ 900000) (hE : Aside0 (Errs w)) :
    Calls Tryz.prog 81 #[.string s] w fun e w' => e = .returned (.tuple #[.int .u32 (strictN s.data.toList), .bool (strictOk s.data.toList)]) ∧ Below w.heap.size w w' := by
  go_enter Tryz.func81, Tryz.ntmps81
  go_wp2_with fail
  refine (Split_calls s _ _ (by omega)).mono ?_
  rintro e w1 ⟨v, rfl, hv, hb⟩
  obtain ⟨A, c, rfl, hcap, hC⟩ := Kd.R_reads hv
  have hpart := splitL_part (isAt ⟨#[46]⟩) s.data.toList
  have hne := splitL_ne (isAt ⟨#[46]⟩) s.data.toList
  have hln := splitL_size (isAt ⟨#[46]⟩) s.data.toList
  rw [show s.data.toList.length = s.size by simp] at hln hpart
  have HN : Aside0 (strictP (splitL (isAt ⟨#[46]⟩) s.data.toList) = none → strictN s.data.toList = 0 ∧ strictOk s.data.toList = false) := ⟨strict_none s.data.toList⟩
  have HS : Aside0 (∀ x, strictP (splitL (isAt ⟨#[46]⟩) s.data.toList) = some x → strictN s.data.toList = x ∧ strictOk s.data.toList = true) := ⟨strict_some s.data.toList⟩
  generalize splitL (isAt ⟨#[46]⟩) s.data.toList = P at hv hcap hC hpart hne hln HN HS ⊢
  have hlen := strs_length P
  have hpos : 0 < (strs P).length := by
    rw [hlen]
    exact List.length_pos_iff.2 hne
  obtain ⟨ad, rfl⟩ := C_some hC hpos
  have hcell : ∀ j, j < P.length → w1.cell? (ad.add j) = some (.string ⟨(P.getD j []).toArray⟩) := fun j hj => by
    rw [C_str_at hC j (by omega), strs_get P j (by omega)]
  have hsize : ∀ j, (P.getD j []).length ≤ 900000 := fun j => by have := getD_len P s.size j hpart; omega
  have HB := Aside0.mk hb
  have HCell := Aside0.mk hcell
  have HSz := Aside0.mk hsize
  have hcap' : (strs P).length ≤ c := hcap
  rw [hlen] at hcap' ⊢
  have hbl := cell_blk (HCell.out 0 (by omega))
  have hblk : ad.block < w1.heap.size := by simpa [Addr.add] using hbl
  clear hv hC hb hpart hlen hpos hcell hsize hcap hne hbl
  by_cases h4 : P.length = 4
  · have HF := Lib.hid (show strictP P = sumS 0 P by rw [strictP, if_pos h4])
    have H4 := Lib.hid h4
    rw [h4] at hcap' hln ⊢
    clear h4
    go_wp2_with fail
    go_loopw [5, 17] (fun aa i wr => ∃ (j : Nat) (x : Int), i = .int .i64 j ∧ aa = .int .u32 x ∧ j ≤ 4 ∧ 0 ≤ x ∧ Aside0 (x < (256 : Int) ^ j) ∧ Aside0 (sumS x (P.drop j) = strictP P) ∧ Aside0 (Below w1.heap.size w1 wr)) (fun _ i _ => 4 - (intOf i).toNat)
    case atStart => exact ⟨0, 0, rfl, rfl, by omega, by omega, ⟨by decide⟩, ⟨HF.out.symm⟩, ⟨Below.refl _ _⟩⟩
    case round =>
      obtain ⟨j, x, rfl, rfl, hj, hx0, hx1, hr, hbw⟩ := hrel
      by_cases hlt : j < 4
      · have hcj : wr.cell? (ad.add j) = some (.string ⟨(P.getD j []).toArray⟩) := (hbw.out.cell (by unfold Addr.add; split <;> exact hblk)).trans (HCell.out j (by rw [H4.out]; exact hlt))
        have Hst := Lib.hid (sumS_step j x P (by rw [H4.out]; exact hlt))
        have hysz := HSz.out j
        rw [← mk_size] at hysz
        have Hy := Lib.hid (show (ByteArray.mk (P.getD j []).toArray).data.toList = P.getD j [] by simp)
        generalize (ByteArray.mk (P.getD j []).toArray) = y at hcj hysz Hy
        go_wp2_with fail
        refine (Decimal_calls y (by omega) 255 (by omega) _ ⟨hE.out.stays (below_then HB.out HB.out.size hbw.out)⟩).mono ?_
        rintro e w2 ⟨rfl, b2⟩
        have B2 := Aside0.mk (below_then hbw.out hbw.out.size b2)
        clear b2 hcj
        have hxv := hx1.out
        obtain ⟨j1, HJ⟩ : ∃ j1, Aside0 (j1 = j + 1) := ⟨_, ⟨rfl⟩⟩
        cases hp : decOk y.data.toList 255
        · have HR := Lib.hid (HN.out (by rw [← hr.out, Hst.out, ← Hy.out, hp]; rfl))
          clear hxv hp
          go_wp2_with fail
          go_ret2
          exact ⟨ret_four HR.out.1.symm HR.out.2.symm, below_then HB.out HB.out.size B2.out⟩
        · have hv := dec_bd y.data.toList hp
          have HZ := Lib.hid (show sumS x (P.drop j) = sumS (x * 256 + decN y.data.toList 255) (P.drop (j + 1)) by rw [Hst.out, ← Hy.out, hp]; rfl)
          generalize decN y.data.toList 255 = v at hv HZ ⊢
          clear hp
          have hj4 : j = 0 ∨ j = 1 ∨ j = 2 ∨ j = 3 := by omega
          rcases hj4 with rfl | rfl | rfl | rfl
          all_goals
            simp only [Int.reducePow] at hxv
            have hnext : x * 256 + v < (256 : Int) ^ j1 := by
              rw [HJ.out]
              simp only [Nat.reduceAdd, Int.reducePow]
              omega
            have HX := Lib.hid hnext
            clear hnext
            have hor := or_u32 8 x v (by omega) (by omega) (by simp only [Int.reducePow]; omega) (by simp only [Int.reducePow]; omega) (by omega)
            simp only [Int.reducePow] at hor
            go_wp2_with fail
            go_roundw
            case rel =>
              have hj1 := HJ.out
              exact ⟨j1, _, by rw [hj1]; first | rfl | go_num, rfl, by omega, by omega, ⟨HX.out⟩, ⟨by rw [hj1, ← hr.out, HZ.out]⟩, B2⟩
            case measure => simp [intOf]
      · obtain rfl : j = 4 := by omega
        have he := hr.out
        rw [List.drop_of_length_le (by rw [H4.out]; omega), sumS] at he
        have HR := Lib.hid (HS.out _ he.symm)
        clear he
        go_wp2_with fail
        go_ret2
        exact ⟨ret_four (by first | (rw [HR.out.1]; done) | (rw [HR.out.1]; rfl)) HR.out.2.symm, below_then HB.out HB.out.size hbw.out⟩
  · have HR := Lib.hid (HN.out (by rw [strictP, if_neg h4]))
    go_wp2_with fail
    go_ret2
    exact ⟨ret_four HR.out.1.symm HR.out.2.symm, HB.out⟩

end Go.Proofs.YtplehdcnnaamkaaGreatDoor

/- What the listed variables give: the errors' variables, the powers of ten; a start that meets the lists. -/
namespace Go.Proofs.YtplehdcnnaamkaaGreatDoor
open Go.RowKit Go.ChangeShapes Go.WideShapes Go.Proofs.YtplehdcnnaamkaaGreatDoorW.PrintWords Go.Proofs.YtplehdcnnaamkaaGreatDoorW.PrintMore

theorem lStar : "*" ++ "errors.errorString" = "*errors.errorString" := by decide
theorem lRow (u : TypeId) (h : Tryz.prog.typeName? 3 u = some "*errors.errorString") : u = 261 :=
  typeName_ptr_named (nm := "errors.errorString") (by rw [lStar]; kernel_rfl) (by kernel_rfl) (by decide) u (by rw [lStar]; exact h)
theorem gRange : Tryz.prog.globalNamed "strconv.ErrRange" = some 6 := by kernel_rfl
theorem gRangeType : (Tryz.prog.globals[6]?).map (·.type) = some 163 := by kernel_rfl
theorem gPow : Tryz.prog.globalNamed "internal/strconv.uint64pow10" = some 1 := by kernel_rfl
theorem gPowType : (Tryz.prog.globals[1]?).map (·.type) = some 225 := by kernel_rfl
theorem lCellsE : Tryz.prog.cellsOf 263 = 1 := by kernel_rfl
theorem lCellsS : Tryz.prog.cellsOf 9 = 1 := by kernel_rfl
theorem lCellsU : Tryz.prog.cellsOf 23 = 1 := by kernel_rfl
theorem lCellsP : Tryz.prog.cellsOf 225 = 20 := by kernel_rfl
/-- The powers of ten. -/
def Pows (w : World) : Prop := Lib.TabIs Tryz.prog w "internal/strconv.uint64pow10" .u64 Lib.pow10Tab
theorem powData : (Rows.laid_internal_strconv_uint64pow10 : DataW Unit) = Lib.tabData .u64 Lib.pow10Tab := by rfl
theorem errs_of {r : List (String × DataW Unit)} {W : World} (h : laidMet Tryz.prog (("strconv.ErrRange", Rows.laid_strconv_ErrRange) :: r) W) : Errs W := by
  obtain ⟨a, s, hv, _, _, _⟩ := laid_sentinel h gRange gRangeType Tryz.underlying163 lRow Tryz.underlying261 Tryz.underlying263 rfl rfl Tryz.underlying9 lCellsE lCellsS
  exact ⟨_, _, by simpa using World.var?_cell gRange hv 0⟩
theorem pows_of {r : List (String × DataW Unit)} {W : World} (h : laidMet Tryz.prog (("internal/strconv.uint64pow10", Rows.laid_internal_strconv_uint64pow10) :: r) W) : Pows W := by
  rw [powData] at h
  exact Lib.tabIs_of_head gPow gPowType Tryz.underlying225 Tryz.underlying23 lCellsU lCellsP h
theorem Pows.stays {w w' : World} (h : Pows w) (hb : Below w.heap.size w w') : Pows w' := Joins.tab_stays gPow h hb (Nat.le_refl _)
end Go.Proofs.YtplehdcnnaamkaaGreatDoor

