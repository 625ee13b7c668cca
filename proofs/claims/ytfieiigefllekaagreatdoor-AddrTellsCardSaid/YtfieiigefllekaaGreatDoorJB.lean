/- Numbers as they are read, and texts split at bytes: plain Lean. -/
import Derived.Test.YtfieiigefllekaaGreatDoorJA
import Derived.Lib.Strings
import Derived.Test.YtfieiigefllekaaGreatDoorSh
import Derived.Lib.IndexAny
namespace Go.Proofs.YtfieiigefllekaaGreatDoor
open Go.RowKit Go.Proofs.YtfieiigefllekaaGreatDoorW.PrintWords

/-! ### Runes and bytes -/
theorem rnF_ascii (s : ByteArray) (h : ∀ b ∈ s.data.toList, b.toNat < 128) : ∀ f p, s.size ≤ p + f → rnF s f p = intsOf (s.data.toList.drop p)
  | 0, p, hf => by
    rw [List.drop_of_length_le (by simp; omega)]
    rfl
  | f + 1, p, hf => by
    unfold rnF
    split
    · rename_i hp
      have hb : (s[p]'hp).toNat < 128 := h _ (by
        have := List.getElem_mem (l := s.data.toList) (n := p) (by simpa using hp)
        exact this)
      rw [decode_ascii s p hp hb, rnF_ascii s h f (p + 1) (by omega), drop_byte s p hp]
      rfl
    · rw [List.drop_of_length_le (by simp; omega)]
      rfl
theorem rn_ascii (s : ByteArray) (h : ∀ b ∈ s.data.toList, b.toNat < 128) : rn s = intsOf s.data.toList := by
  rw [rn, rnF_ascii s h s.size 0 (by omega), List.drop_zero]
theorem rnF_low (s : ByteArray) : ∀ f p, s.size ≤ p + f → (∀ x ∈ rnF s f p, x < 128) → ∀ b ∈ s.data.toList.drop p, b.toNat < 128
  | 0, p, hf, _ => by
    rw [List.drop_of_length_le (by simp; omega)]
    simp
  | f + 1, p, hf, h => by
    unfold rnF at h
    split at h
    · rename_i hp
      have hb : (s[p]'hp).toNat < 128 := by
        rcases Nat.lt_or_ge (s[p]'hp).toNat 128 with hb | hb
        · exact hb
        · have h1 := (decode_high s p hp hb).1
          have h2 := h _ (List.mem_cons_self)
          omega
      rw [decode_ascii s p hp hb] at h
      have ih := rnF_low s f (p + 1) (by omega) (fun x hx => h x (List.mem_cons_of_mem _ hx))
      rw [drop_byte s p hp]
      intro b hm
      rcases List.mem_cons.1 hm with rfl | hm
      · exact hb
      · exact ih b hm
    · rw [List.drop_of_length_le (by simp; omega)]
      simp
/-- Where all code points are ASCII all bytes are. -/
theorem rn_low (s : ByteArray) (h : ∀ x ∈ rn s, x < 128) : ∀ b ∈ s.data.toList, b.toNat < 128 := by
  have := rnF_low s s.size 0 (by omega) h
  rwa [List.drop_zero] at this
/-- A test that no code point beyond ASCII meets may be asked of the bytes. -/
theorem rn_all (s : ByteArray) (p : Int → Bool) (hp : ∀ x, 128 ≤ x → p x = false) : (rn s).all p = (intsOf s.data.toList).all p := by
  by_cases h : ∀ b ∈ s.data.toList, b.toNat < 128
  · rw [rn_ascii s h]
  · have h1 : (rn s).all p = false := by
      rw [Bool.eq_false_iff]
      intro ha
      apply h
      refine rn_low s (fun x hx => ?_)
      rcases Int.lt_or_le x 128 with hx' | hx'
      · exact hx'
      · have := List.all_eq_true.1 ha x hx
        rw [hp x hx'] at this
        cases this
    have h2 : (intsOf s.data.toList).all p = false := by
      rw [Bool.eq_false_iff]
      intro ha
      apply h
      intro b hb
      rcases Nat.lt_or_ge b.toNat 128 with hx' | hx'
      · exact hx'
      · have := List.all_eq_true.1 ha (b.toNat : Int) (List.mem_map.2 ⟨b, hb, rfl⟩)
        rw [hp _ (by omega)] at this
        cases this
    rw [h1, h2]

/-! ### A number -/
/-- Digits to a base, added up, to 2^40 at most. -/
def accN (b : Int) : Int → List Int → Option Int
  | n, [] => some n
  | n, r :: rs => if hexV r < 0 ∨ b ≤ hexV r then none else accN b (min (n * b + hexV r) 1099511627776) rs
def okD (b r : Int) : Bool := decide (0 ≤ hexV r) && decide (hexV r < b)
theorem okD_high (b x : Int) (h : 128 ≤ x) : okD b x = false := by
  have : hexV x = -1 := by unfold hexV; split <;> (try split) <;> (try split) <;> omega
  simp [okD, this]
theorem accN_none (b : Int) : ∀ (l : List Int) (n : Int), l.all (okD b) = false → accN b n l = none
  | [], _, h => by simp at h
  | r :: rs, n, h => by
    unfold accN
    split
    · rfl
    · rename_i hr
      refine accN_none b rs _ ?_
      rw [List.all_cons] at h
      have : okD b r = true := by simp [okD]; omega
      rwa [this, Bool.true_and] at h
theorem accN_some (b : Int) : ∀ (l : List Int) (n : Int), l.all (okD b) = true → ∃ m, accN b n l = some m
  | [], n, _ => ⟨n, rfl⟩
  | r :: rs, n, h => by
    unfold accN
    rw [List.all_cons, Bool.and_eq_true] at h
    have hr : ¬ (hexV r < 0 ∨ b ≤ hexV r) := by
      have := h.1
      simp [okD] at this
      omega
    rw [if_neg hr]
    exact accN_some b rs _ h.2
theorem accN_bytes (b n : Int) (s : ByteArray) : accN b n (rn s) = accN b n (intsOf s.data.toList) := by
  by_cases h : ∀ x ∈ s.data.toList, x.toNat < 128
  · rw [rn_ascii s h]
  · have e := rn_all s (okD b) (okD_high b)
    have h2 : (intsOf s.data.toList).all (okD b) = false := by
      rw [Bool.eq_false_iff]
      intro ha
      apply h
      intro c hc
      rcases Nat.lt_or_ge c.toNat 128 with hx' | hx'
      · exact hx'
      · have := List.all_eq_true.1 ha (c.toNat : Int) (List.mem_map.2 ⟨c, hc, rfl⟩)
        rw [okD_high b _ (by omega)] at this
        cases this
    rw [accN_none b _ n (e.trans h2), accN_none b _ n h2]
theorem accN_bd (b : Int) (hb : 0 ≤ b) : ∀ (l : List Int) (n m : Int), 0 ≤ n → n ≤ 1099511627776 → accN b n l = some m → 0 ≤ m ∧ m ≤ 1099511627776
  | [], n, m, h0, h1, h => by
    obtain rfl := Option.some.inj h
    exact ⟨h0, h1⟩
  | r :: rs, n, m, h0, h1, h => by
    unfold accN at h
    split at h
    · cases h
    · rename_i hr
      have h2 : 0 ≤ n * b := Int.mul_nonneg h0 hb
      exact accN_bd b hb rs _ m (by omega) (by omega) h
/-- A number's base, and its digits. -/
def baseL : List UInt8 → Int × List UInt8
  | 48 :: c :: r => if c = 120 ∨ c = 88 then (16, r) else (8, c :: r)
  | l => (10, l)
def parseL (l : List UInt8) : Option Int := if l = [] then none else accN (baseL l).1 0 (intsOf (baseL l).2)
def digitsL (l : List UInt8) : Bool := !l.isEmpty && (intsOf l).all isDig
theorem isDig_high (x : Int) (h : 128 ≤ x) : isDig x = false := by simp [isDig]; omega

/-! ### A text, split -/
def splitL (p : UInt8 → Bool) : List UInt8 → List (List UInt8)
  | [] => [[]]
  | c :: r => if p c = true then [] :: splitL p r else match splitL p r with
    | [] => [[c]]
    | h :: t => (c :: h) :: t
theorem splitL_ne (p : UInt8 → Bool) : ∀ l, splitL p l ≠ []
  | [] => by simp [splitL]
  | c :: r => by
    unfold splitL
    split
    · simp
    · split <;> simp
/-- The first part is longer by something ahead. -/
def glue (x : List UInt8) : List (List UInt8) → List (List UInt8)
  | [] => [x]
  | h :: t => (x ++ h) :: t
theorem glue_nil (l : List (List UInt8)) (h : l ≠ []) : glue [] l = l := by
  rcases l with _ | ⟨a, l⟩
  · exact absurd rfl h
  · rfl
theorem split_at (p : UInt8 → Bool) (x r : List UInt8) (c : UInt8) (h : p c = true) : glue x (splitL p (c :: r)) = x :: splitL p r := by
  rw [splitL, if_pos h]
  simp [glue]
theorem split_on (p : UInt8 → Bool) (x r : List UInt8) (c : UInt8) (h : p c = false) : glue x (splitL p (c :: r)) = glue (x ++ [c]) (splitL p r) := by
  rw [splitL, if_neg (by rw [h]; decide)]
  rcases hs : splitL p r with _ | ⟨a, t⟩
  · exact absurd hs (splitL_ne p r)
  · simp [glue]
end Go.Proofs.YtfieiigefllekaaGreatDoor

/- number.base, Parse, digits. -/
namespace Go.Proofs.YtfieiigefllekaaGreatDoor
open Go.RowKit Go.Proofs.YtfieiigefllekaaGreatDoorW.PrintWords Go.Proofs.YtfieiigefllekaaGreatDoorW.PrintMore

theorem baseL_short (l : List UInt8) (h : l.length ≤ 1) : baseL l = (10, l) := by
  rcases l with _ | ⟨a, _ | ⟨b, r⟩⟩
  · rfl
  · unfold baseL
    split
    · rename_i e; simp at e
    · rfl
  · simp at h
theorem baseL_not (a : UInt8) (l : List UInt8) (h : ¬ a.toNat = 48) : baseL (a :: l) = (10, a :: l) := by
  unfold baseL
  split
  · rename_i e
    injection e with e1 e2
    subst e1
    exact absurd rfl h
  · rfl
theorem baseL_hex (a b : UInt8) (l : List UInt8) (h : a.toNat = 48) (hb : b.toNat = 120 ∨ b.toNat = 88) : baseL (a :: b :: l) = (16, l) := by
  obtain rfl : a = 48 := UInt8.toNat_inj.1 h
  have : b = 120 ∨ b = 88 := hb.elim (fun h => .inl (UInt8.toNat_inj.1 h)) (fun h => .inr (UInt8.toNat_inj.1 h))
  simp only [baseL, if_pos this]
theorem baseL_oct (a b : UInt8) (l : List UInt8) (h : a.toNat = 48) (hb : ¬ b.toNat = 120) (hb' : ¬ b.toNat = 88) : baseL (a :: b :: l) = (8, b :: l) := by
  obtain rfl : a = 48 := UInt8.toNat_inj.1 h
  have : ¬ (b = 120 ∨ b = 88) := by
    rintro (rfl | rfl)
    · exact hb rfl
    · exact hb' rfl
  simp only [baseL, if_neg this]
theorem extract_list (s : ByteArray) (k : Nat) : (s.extract k s.size).data.toList = s.data.toList.drop k := by
  rw [ByteArray.data_extract]
  simp [List.extract_eq_take_drop]
  rw [List.take_of_length_le]
  simp

theorem ret_base {a b : Int} {s t : ByteArray} (h : a = b) (h' : s = t) : Ending.returned (.tuple #[.int .u64 a, .string s]) = .returned (.tuple #[.int .u64 b, .string t]) := by rw [h, h']

set_option maxHeartbeats 1000000 in
theorem base_calls (s : ByteArray) (hs : s.size ≤ 1000000) (w : World) :
    Calls Tryz.prog 144 #[.string s] w fun e w' => ∃ t : ByteArray, Aside0 (t.data.toList = (baseL s.data.toList).2) ∧ t.size ≤ s.size ∧ e = .returned (.tuple #[.int .u64 (baseL s.data.toList).1, .string t]) ∧ Drawn0 w w' := by
  by_cases h1 : 1 < s.size
  · have l1 : s.data.toList = s[0] :: s[1] :: s.data.toList.drop 2 := by
      have e0 := drop_byte s 0 (by omega)
      have e1 := drop_byte s 1 (by omega)
      rw [List.drop_zero] at e0
      rw [e0, e1]
      rfl
    by_cases h48 : (s[0]).toNat = 48
    · have q1 : (((s[0]).toNat : Int) == 48) = true := by simp [h48]
      by_cases hx : (s[1]).toNat = 120
      · have E := Lib.hid (show baseL s.data.toList = (16, s.data.toList.drop 2) by rw [l1]; exact baseL_hex _ _ _ h48 (.inl hx))
        have q2 : (((s[1]).toNat : Int) == 120) = true := by simp [hx]
        clear l1 h48 hx
        go_enter Tryz.func144, Tryz.ntmps144
        go_wp2_with fail
        go_quiet (fail)
        go_wp2_with fail
        go_ret2
        exact ⟨s.extract 2 s.size, ⟨by rw [extract_list, E.out]⟩, by rw [ByteArray.size_extract]; omega, ret_base (by rw [E.out]) rfl, by repeat (first | exact Drawn0.refl _ | apply Drawn0.step)⟩
      · by_cases hX : (s[1]).toNat = 88
        · have E := Lib.hid (show baseL s.data.toList = (16, s.data.toList.drop 2) by rw [l1]; exact baseL_hex _ _ _ h48 (.inr hX))
          have q2 : (((s[1]).toNat : Int) == 120) = false := by simp; omega
          have q3 : (((s[1]).toNat : Int) == 88) = true := by simp [hX]
          clear l1 h48 hx hX
          go_enter Tryz.func144, Tryz.ntmps144
          go_wp2_with fail
          go_quiet (fail)
          go_wp2_with fail
          go_ret2
          exact ⟨s.extract 2 s.size, ⟨by rw [extract_list, E.out]⟩, by rw [ByteArray.size_extract]; omega, ret_base (by rw [E.out]) rfl, by repeat (first | exact Drawn0.refl _ | apply Drawn0.step)⟩
        · have E := Lib.hid (show baseL s.data.toList = (8, s.data.toList.drop 1) by
            rw [l1]; rw [baseL_oct _ _ _ h48 hx hX]; rfl)
          have q2 : (((s[1]).toNat : Int) == 120) = false := by simp; omega
          have q3 : (((s[1]).toNat : Int) == 88) = false := by simp; omega
          clear l1 h48 hx hX
          go_enter Tryz.func144, Tryz.ntmps144
          go_wp2_with fail
          go_quiet (fail)
          go_wp2_with fail
          go_ret2
          exact ⟨s.extract 1 s.size, ⟨by rw [extract_list, E.out]⟩, by rw [ByteArray.size_extract]; omega, ret_base (by rw [E.out]) rfl, by repeat (first | exact Drawn0.refl _ | apply Drawn0.step)⟩
    · have E := Lib.hid (show baseL s.data.toList = (10, s.data.toList) by rw [l1]; exact baseL_not _ _ h48)
      have q1 : (((s[0]).toNat : Int) == 48) = false := by simp; omega
      clear l1 h48
      go_enter Tryz.func144, Tryz.ntmps144
      go_wp2_with fail
      go_ret2
      exact ⟨s, ⟨by rw [E.out]⟩, by omega, ret_base (by rw [E.out]) rfl, Drawn0.refl _⟩
  · have E := Lib.hid (baseL_short s.data.toList (by simp; omega))
    go_enter Tryz.func144, Tryz.ntmps144
    go_wp2_with fail
    go_ret2
    exact ⟨s, ⟨by rw [E.out]⟩, by omega, ret_base (by rw [E.out]) rfl, Drawn0.refl _⟩

theorem baseL_bd (l : List UInt8) : 8 ≤ (baseL l).1 ∧ (baseL l).1 ≤ 16 := by
  unfold baseL
  split
  · split <;> simp
  · simp
theorem toList_eq (s : ByteArray) : s.toList = s.data.toList := by
  have h := Lib.extract_toList s 0 s.size
  have h2 := Lib.extract_data s 0 s.size
  rw [← h2] at h
  have e : s.extract 0 s.size = s := by
    apply ByteArray.ext
    simp
  rwa [e] at h
/-- What Parse tells: the number, 0 where there is none, and whether there is one. -/
def parseN (l : List UInt8) : Int := (parseL l).getD 0
def parseOk (l : List UInt8) : Bool := (parseL l).isSome
theorem ret_parse {a b : Int} {c d : Bool} (h : a = b) (h' : c = d) : Ending.returned (.tuple #[.int .u64 a, .bool c]) = .returned (.tuple #[.int .u64 b, .bool d]) := by rw [h, h']

set_option maxHeartbeats 2000000 in
theorem Parse_calls (s : ByteArray) (hs : s.size ≤ 1000000) (w : World) :
    Calls Tryz.prog 126 #[.string s] w fun e w' => e = .returned (.tuple #[.int .u64 (parseN s.data.toList), .bool (parseOk s.data.toList)]) ∧ Below w.heap.size w w' := by
  by_cases h0 : s.data.toList = []
  · have e0 : s.toList.isEmpty = true := by rw [toList_eq, h0]; rfl
    have E := Lib.hid (show parseL s.data.toList = none by rw [h0]; rfl)
    go_enter Tryz.func126, Tryz.ntmps126
    go_wp2_with fail
    go_ret2
    exact ⟨ret_parse (by rw [parseN, E.out]; rfl) (by rw [parseOk, E.out]; rfl), Below.refl _ _⟩
  · have e0 : s.toList.isEmpty = false := by rw [toList_eq]; simpa using h0
    have E := Lib.hid (show parseL s.data.toList = accN (baseL s.data.toList).1 0 (intsOf (baseL s.data.toList).2) by rw [parseL, if_neg h0])
    have hbb := baseL_bd s.data.toList
    have E0 := Lib.hid h0
    clear h0
    go_enter Tryz.func126, Tryz.ntmps126
    go_wp2_with fail
    refine (base_calls s hs _).mono ?_
    rintro e w1 ⟨t, ht, hts, rfl, hd⟩
    have E2 := Lib.hid (show parseL s.data.toList = accN (baseL s.data.toList).1 0 (rn t) by rw [E.out, accN_bytes, ht.out])
    have HB := Aside0.mk hd.below
    clear E hd ht
    generalize hb : (baseL s.data.toList).1 = b at hbb E2 ⊢
    clear hb
    have hh : w.heap.size ≤ w1.heap.size := HB.out.size
    go_wp2_with fail
    go_loopw [6] (fun n wr => ∃ (pos f : Nat) (m : Int), wr = w1.iter t pos ∧ n = .int .u64 m ∧ 0 ≤ m ∧ m ≤ 1099511627776 ∧ Aside0 (accN b m (rnF t f pos) = parseL s.data.toList) ∧ t.size ≤ pos + f) (fun _ wr => t.size - wr.iterPos w1.heap.size)
    case atStart => exact ⟨0, t.size, 0, rfl, rfl, by omega, by omega, ⟨E2.out.symm⟩, by omega⟩
    case round =>
      obtain ⟨pos, f, m, rfl, rfl, hm0, hm1, hr, hf⟩ := hrel
      by_cases hp : pos < t.size
      · have hnx : ∀ ty, (Instr.next (.pointer (some ⟨w1.heap.size, 0, none⟩)) true ty).run Tryz.prog (w1.iter t pos) = _ := fun ty => run_next_any w1 t pos ty hp
        have hwd := width_pos t pos hp
        have hd1 := decode_le t pos
        obtain ⟨g, rfl, hg⟩ := rnF_step t f pos hp hf
        have Hr := Lib.hid (show accN b m (((Utf8.decode t pos).1 : Int) :: rnF t g (pos + (Utf8.decode t pos).2)) = parseL s.data.toList by rw [← hg]; exact hr.out)
        have hv := hexV_bd ((Utf8.decode t pos).1 : Int)
        clear hg hr E2
        go_wp2_with fail
        refine (Value_calls _ _).mono ?_
        rintro e w2 ⟨rfl, rfl⟩
        generalize hv' : hexV ((Utf8.decode t pos).1 : Int) = v at hv ⊢
        have HV := Lib.hid hv'
        clear hv'
        by_cases hneg : v < 0
        · have HN := Lib.hid (show parseL s.data.toList = none by rw [← Hr.out, accN, if_pos (by rw [HV.out]; omega)])
          go_wp2_with fail
          go_ret2
          exact ⟨ret_parse (by rw [parseN, HN.out]; rfl) (by rw [parseOk, HN.out]; rfl), HB.out.alloc hh _⟩
        · by_cases hge : b ≤ v
          · have HN := Lib.hid (show parseL s.data.toList = none by rw [← Hr.out, accN, if_pos (by rw [HV.out]; omega)])
            go_wp2_with fail
            go_ret2
            exact ⟨ret_parse (by rw [parseN, HN.out]; rfl) (by rw [parseOk, HN.out]; rfl), HB.out.alloc hh _⟩
          · have HN := Lib.hid (show accN b (min (m * b + v) 1099511627776) (rnF t g (pos + (Utf8.decode t pos).2)) = parseL s.data.toList by rw [← Hr.out, accN, if_neg (by rw [HV.out]; omega), HV.out])
            have hm2 : 0 ≤ m * b := Int.mul_nonneg hm0 (by omega)
            have hm3 : m * b ≤ 1099511627776 * 16 := Int.mul_le_mul hm1 hbb.2 (by omega) (by omega)
            go_wp2_with fail
            refine ⟨⟨_, g, min (m * b + v) 1099511627776, rfl, ?_, by omega, by omega, ⟨HN.out⟩, by omega⟩, by simp only [World.iterPos_iter]; omega⟩
            congr 1 <;> split <;> omega
      · have hnx : ∀ ty, (Instr.next (.pointer (some ⟨w1.heap.size, 0, none⟩)) true ty).run Tryz.prog (w1.iter t pos) = _ := fun ty => run_next_end w1 t pos ty hp
        have HN := Lib.hid (show parseL s.data.toList = some m by rw [← hr.out, rnF_end t f pos hp]; rfl)
        go_wp2_with fail
        go_ret2
        exact ⟨ret_parse (by rw [parseN, HN.out]; rfl) (by rw [parseOk, HN.out]; rfl), HB.out.alloc hh _⟩

set_option maxHeartbeats 1000000 in
theorem digits_calls (s : ByteArray) (w : World) :
    Calls Tryz.prog 104 #[.string s] w fun e w' => e = .returned (.bool (digitsL s.data.toList)) ∧ Below w.heap.size w w' := by
  have E := Lib.hid (rn_all s isDig isDig_high)
  have E0 := Lib.hid (toList_eq s)
  go_enter Tryz.func104, Tryz.ntmps104
  go_wp2
  go_loopw [] (fun wr => ∃ (pos f : Nat), wr = w.iter s pos ∧ Aside0 ((rnF s f pos).all isDig = (rn s).all isDig) ∧ s.size ≤ pos + f) (fun wr => s.size - wr.iterPos w.heap.size)
  case atStart => exact ⟨0, s.size, rfl, ⟨rfl⟩, by omega⟩
  case round =>
    obtain ⟨pos, f, rfl, hr, hf⟩ := hrel
    by_cases hp : pos < s.size
    · have hnx : ∀ ty, (Instr.next (.pointer (some ⟨w.heap.size, 0, none⟩)) true ty).run Tryz.prog (w.iter s pos) = _ := fun ty => run_next_any w s pos ty hp
      have hwd := width_pos s pos hp
      have hd1 := decode_le s pos
      obtain ⟨g, rfl, hg⟩ := rnF_step s f pos hp hf
      have Hr := Lib.hid (show (((Utf8.decode s pos).1 : Int) :: rnF s g (pos + (Utf8.decode s pos).2)).all isDig = (rn s).all isDig by rw [← hg]; exact hr.out)
      clear hg hr
      go_wp2_with fail
      refine (Digit_calls _ _).mono ?_
      rintro e w2 ⟨rfl, rfl⟩
      cases hd : isDig ((Utf8.decode s pos).1 : Int)
      · have HD := Lib.hid hd
        clear hd
        go_wp2_with fail
        go_ret
        refine ⟨ret_bool ?_, (Below.refl _ _).alloc (Nat.le_refl _) _⟩
        rw [digitsL, ← E.out, ← Hr.out, List.all_cons, HD.out]
        simp
      · have HD := Lib.hid hd
        clear hd
        go_wp2_with fail
        refine ⟨⟨_, g, rfl, ⟨?_⟩, by omega⟩, by simp only [World.iterPos_iter]; omega⟩
        rw [← Hr.out, List.all_cons, HD.out, Bool.true_and]
    · have hnx : ∀ ty, (Instr.next (.pointer (some ⟨w.heap.size, 0, none⟩)) true ty).run Tryz.prog (w.iter s pos) = _ := fun ty => run_next_end w s pos ty hp
      go_wp2_with fail
      go_ret
      refine ⟨ret_bool ?_, (Below.refl _ _).alloc (Nat.le_refl _) _⟩
      rw [digitsL, ← E.out, ← hr.out, rnF_end s f pos hp, E0.out]
      simp
end Go.Proofs.YtfieiigefllekaaGreatDoor

/- scalar.Split and number.Ends. -/
namespace Go.Proofs.YtfieiigefllekaaGreatDoor
open Go.RowKit Go.Proofs.YtfieiigefllekaaGreatDoorW.PrintWords Go.Proofs.YtfieiigefllekaaGreatDoorW.PrintMore

def strs (l : List (List UInt8)) : List ByteArray := l.map fun x => ⟨x.toArray⟩
theorem strs_length (l : List (List UInt8)) : (strs l).length = l.length := by simp [strs]
theorem strs_append (a b : List (List UInt8)) : strs (a ++ b) = strs a ++ strs b := by simp [strs]
/-- A piece of a text. -/
def piece (s : ByteArray) (a b : Nat) : List UInt8 := (s.data.toList.drop a).take (b - a)
theorem extract_piece (s : ByteArray) (a b : Nat) : s.extract a b = ⟨(piece s a b).toArray⟩ := by
  apply ByteArray.ext
  apply Array.ext'
  rw [Lib.extract_data]
  simp [piece]
theorem piece_self (s : ByteArray) (a : Nat) : piece s a a = [] := by simp [piece]
theorem piece_step (s : ByteArray) (a b : Nat) (h : a ≤ b) (hb : b < s.size) : piece s a (b + 1) = piece s a b ++ [s[b]'hb] := by
  unfold piece
  rw [show b + 1 - a = (b - a) + 1 by omega, List.take_succ_eq_append_getElem (by simp; omega)]
  congr 1
  simp
  have : a + (b - a) = b := by omega
  simp only [this]
  rfl
theorem piece_end (s : ByteArray) (a : Nat) : piece s a s.size = s.data.toList.drop a := by
  unfold piece
  rw [List.take_of_length_le (by simp)]
/-- Is a byte one of those to split at? -/
def isAt (at_ : ByteArray) (c : UInt8) : Bool := decide (0 ≤ Lib.indexByte at_.data.toList c)

set_option maxHeartbeats 1000000 in
theorem Split_calls (s a : ByteArray) (w : World) (hs : s.size ≤ 1000000) :
    Calls Tryz.prog 100 #[.string s, .string a] w fun e w' => ∃ v : Value, e = .returned v ∧ Kd.R Kd.string 9 w' w.heap.size (fun _ => True) v (strs (splitL (isAt a) s.data.toList)) ∧ Below w.heap.size w w' := by
  go_enter Tryz.func100, Tryz.ntmps100
  go_wp2
  go_loopw [5, 6, 10] (fun v fr i wr => ∃ (j k : Nat) (l : List (List UInt8)), i = .int .i64 j ∧ fr = .int .i64 k ∧ k ≤ j ∧ j ≤ s.size ∧ l.length ≤ j ∧ Aside0 (l ++ glue (piece s k j) (splitL (isAt a) (s.data.toList.drop j)) = splitL (isAt a) s.data.toList) ∧ Aside0 (Kd.R Kd.string 9 wr w.heap.size (fun _ => True) v (strs l)) ∧ Aside0 (Below w.heap.size w wr)) (fun _ _ i _ => s.size - (intOf i).toNat)
  case atStart => exact ⟨0, 0, [], rfl, rfl, by omega, by omega, by simp, ⟨by rw [piece_self, glue_nil _ (splitL_ne _ _)]; rfl⟩, ⟨Kd.R_nil _ _ _ _ _⟩, ⟨Below.refl _ _⟩⟩
  case round =>
    obtain ⟨j, k, l, rfl, rfl, hk, hj, hl, hr, HO, HB⟩ := hrel
    have hsz : w.heap.size ≤ wr.heap.size := HB.out.size
    have hll := strs_length l
    have HLL := Lib.hid hll
    clear hll
    by_cases hlt : j < s.size
    · have hb := (s[j]'hlt).toNat_lt
      go_wp2_with fail
      refine (Tryz.strings_IndexByte a _ _).mono ?_
      rintro e w1 ⟨rfl, rfl⟩
      have hbyte : ((s[j]'hlt).toNat : Int).toNat.toUInt8 = s[j]'hlt := by simp
      rw [hbyte]
      clear hbyte
      have Hd := Lib.hid (drop_byte s j hlt)
      cases hc : isAt a (s[j]'hlt)
      · have hc' : ¬ 0 ≤ Lib.indexByte a.data.toList (s[j]'hlt) := by simpa [isAt] using hc
        have Hc := Lib.hid hc
        clear hc
        go_wp2_with fail
        refine ⟨⟨j + 1, k, l, by go_num, rfl, by omega, by omega, by omega, ⟨?_⟩, HO, HB⟩, by simp [intOf]; omega⟩
        rw [← hr.out, Hd.out, split_on _ _ _ _ Hc.out, piece_step s k j hk hlt]
      · have hc' : 0 ≤ Lib.indexByte a.data.toList (s[j]'hlt) := by simpa [isAt] using hc
        have Hc := Lib.hid hc
        clear hc
        go_wp2_with ((with_reducible refine gate_builtin (b := .append) (xs := #[.tmp 19, .tmp 24]) rfl ?_); at_builtin; refine Kd.R_append Kd.string (w0 := w) w.heap.size rfl (.tmp 19) (.tmp 24) 84 9 (.string ⟨#[]⟩) 16 rfl Tryz.underlying84 info_string rfl (by decide) (by omega) u5 (strs l) (s.extract k j) [.string (s.extract k j)] (fun _ => True) (fun _ => False) rfl rfl ?aP (fun _ hk => hk.elim) ?aF ?aO ?aB ?aS ?aL ?_; (case aP => exact rfl); (case aF => exact fun _ _ => trivial); (case aO => exact HO.out); (case aB => exact HB.out); (case aS => omega); (case aL => rw [HLL.out]; omega); intro v1 w1 ho hb hg _)
        refine ⟨⟨j + 1, j + 1, l ++ [piece s k j], by go_num, by go_num, by omega, by omega, by simp; omega, ⟨?_⟩, ⟨?_⟩, ⟨hb⟩⟩, by simp [intOf]; omega⟩
        · rw [← hr.out, Hd.out, split_at _ _ _ _ Hc.out, piece_self, glue_nil _ (splitL_ne _ _), List.append_assoc]
          rfl
        · rw [strs_append, show strs [piece s k j] = [s.extract k j] by rw [extract_piece]; rfl]
          exact ho
    · obtain rfl : j = s.size := by omega
      go_wp2_with ((with_reducible refine gate_builtin (b := .append) (xs := #[.tmp 29, .tmp 33]) rfl ?_); at_builtin; refine Kd.R_append Kd.string (w0 := w) w.heap.size rfl (.tmp 29) (.tmp 33) 84 9 (.string ⟨#[]⟩) 16 rfl Tryz.underlying84 info_string rfl (by decide) (by omega) u5 (strs l) (s.extract k s.size) [.string (s.extract k s.size)] (fun _ => True) (fun _ => False) rfl rfl ?aP (fun _ hk => hk.elim) ?aF ?aO ?aB ?aS ?aL ?_; (case aP => exact rfl); (case aF => exact fun _ _ => trivial); (case aO => exact HO.out); (case aB => exact HB.out); (case aS => omega); (case aL => rw [HLL.out]; omega); intro v1 w1 ho hb hg _)
      go_ret
      refine ⟨_, rfl, ?_, hb⟩
      have he := hr.out
      rw [List.drop_of_length_le (by simp)] at he
      rw [← he, show glue (piece s k s.size) (splitL (isAt a) []) = [piece s k s.size] by simp [splitL, glue], strs_append, show strs [piece s k s.size] = [s.extract k s.size] by rw [extract_piece]; rfl]
      exact ho
end Go.Proofs.YtfieiigefllekaaGreatDoor

/- number.Ends, and the chapter's example. -/
namespace Go.Proofs.YtfieiigefllekaaGreatDoor
open Go.RowKit Go.Proofs.YtfieiigefllekaaGreatDoorW.PrintWords Go.Proofs.YtfieiigefllekaaGreatDoorW.PrintMore

theorem C_str_at {w : World} {ad : Addr} {n : Nat} {xs : List ByteArray} (h : Kd.C Kd.string w (some ad) n xs) (j : Nat) (hlt : j < xs.length) : w.cell? (ad.add j) = some (.string (xs[j]'hlt)) := by
  obtain ⟨hl, _, hc⟩ := h
  obtain ⟨ad', e, hc⟩ := hc (by omega)
  obtain rfl := Option.some.inj e
  obtain ⟨c, hc1, hc2, hc3⟩ := hc j (xs[j]'hlt) (List.getElem?_eq_getElem hlt)
  obtain rfl : c = [.string (xs[j]'hlt)] := hc2
  have := hc3 0 (.string (xs[j]'hlt)) rfl
  have hsz : (Kd.string).sz = 1 := rfl
  rw [hsz] at this
  rw [show j * 1 + 0 = j by omega] at this
  exact this

theorem mk_size (l : List UInt8) : (ByteArray.mk l.toArray).size = l.length := by
  show l.toArray.size = _
  simp
/-- A name's last part; where that is empty, and another stands ahead, that one. -/
def lastP (P : List (List UInt8)) : List UInt8 := if P.getD (P.length - 1) [] = [] ∧ 1 < P.length then P.getD (P.length - 2) [] else P.getD (P.length - 1) []
/-- Does a name end in a number? -/
def endsL (l : List UInt8) : Bool := parseOk (lastP (splitL (isAt ⟨#[46]⟩) l)) || digitsL (lastP (splitL (isAt ⟨#[46]⟩) l))

theorem strs_get (P : List (List UInt8)) (j : Nat) (h : j < (strs P).length) : (strs P)[j]'h = ⟨(P.getD j []).toArray⟩ := by
  have h' : j < P.length := by rw [strs_length] at h; exact h
  simp only [strs, List.getElem_map]
  rw [List.getD_eq_getElem?_getD, List.getElem?_eq_getElem h']
  rfl
theorem splitL_size (p : UInt8 → Bool) : ∀ l : List UInt8, (splitL p l).length ≤ l.length + 1
  | [] => by simp [splitL]
  | c :: r => by
    have ih := splitL_size p r
    unfold splitL
    split
    · simp; omega
    · split
      · simp
      · rename_i h t hs
        rw [hs] at ih
        simp at ih ⊢
        omega
theorem splitL_part (p : UInt8 → Bool) : ∀ (l : List UInt8), ∀ x ∈ splitL p l, x.length ≤ l.length
  | [], x, h => by simp [splitL] at h; simp [h]
  | c :: r, x, h => by
    unfold splitL at h
    split at h
    · rcases List.mem_cons.1 h with rfl | h
      · simp
      · have := splitL_part p r x h
        simp; omega
    · split at h
      · rename_i hs
        exact absurd hs (splitL_ne p r)
      · rename_i a t hs
        rcases List.mem_cons.1 h with rfl | h
        · have := splitL_part p r a (by rw [hs]; simp)
          simp; omega
        · have := splitL_part p r x (by rw [hs]; simp [h])
          simp; omega
theorem getD_len (P : List (List UInt8)) (n j : Nat) (h : ∀ x ∈ P, x.length ≤ n) : (P.getD j []).length ≤ n := by
  rw [List.getD_eq_getElem?_getD]
  rcases hj : P[j]? with _ | x
  · simp
  · exact h x (List.mem_of_getElem? hj)

set_option maxHeartbeats 2000000 in
theorem Ends_calls (s : ByteArray) (w : World) (hs : s.size ≤ 900000) :
    Calls Tryz.prog 146 #[.string s] w fun e w' => e = .returned (.bool (endsL s.data.toList)) ∧ Below w.heap.size w w' := by
  go_enter Tryz.func146, Tryz.ntmps146
  go_wp2_with fail
  refine (Split_calls s _ _ (by omega)).mono ?_
  rintro e w1 ⟨v, rfl, hv, hb⟩
  obtain ⟨A, c, rfl, hcap, hC⟩ := Kd.R_reads hv
  have hpart := splitL_part (isAt ⟨#[46]⟩) s.data.toList
  have hne := splitL_ne (isAt ⟨#[46]⟩) s.data.toList
  have hln := splitL_size (isAt ⟨#[46]⟩) s.data.toList
  rw [show s.data.toList.length = s.size by simp] at hln hpart
  have EL : endsL s.data.toList = (parseOk (lastP (splitL (isAt ⟨#[46]⟩) s.data.toList)) || digitsL (lastP (splitL (isAt ⟨#[46]⟩) s.data.toList))) := rfl
  generalize splitL (isAt ⟨#[46]⟩) s.data.toList = P at hv hcap hC hpart hne hln EL ⊢
  have hlen := strs_length P
  have hpos : 0 < (strs P).length := by
    rw [hlen]
    exact List.length_pos_iff.2 hne
  obtain ⟨ad, rfl⟩ := C_some hC hpos
  obtain ⟨m, hm⟩ : ∃ m, P.length = m + 1 := ⟨P.length - 1, by omega⟩
  have hm' : (strs P).length = m + 1 := by omega
  have h1 := strs_get P m (by omega)
  have c1 := C_str_at hC m (by omega)
  have hlast := getD_len P s.size m hpart
  obtain ⟨q, hq⟩ : ∃ q : ByteArray, q = ⟨(P.getD m []).toArray⟩ := ⟨_, rfl⟩
  rw [h1, ← hq] at c1
  have hql : q.data.toList = P.getD m [] := by rw [hq]
  have hqs : q.size ≤ s.size := by rw [hq, mk_size]; exact hlast
  have hmb : m ≤ 1000000 := by omega
  have HB := Aside0.mk hb
  have HE := Lib.hid EL
  have HM := Lib.hid hm
  have HM' := Lib.hid hm'
  have HP := Lib.hid hpart
  have HC := Lib.hid hC
  have HQ := Lib.hid hql
  rw [hm']
  clear hv hC hb EL h1 hpart hne hpos hlen hm hm' hcap hln hq hql hlast
  by_cases he : q.data.toList = []
  · have e0 : q.toList.isEmpty = true := by rw [toList_eq, he]; rfl
    by_cases h2 : 1 ≤ m
    · have L := Lib.hid (show lastP P = P.getD (m - 1) [] by rw [lastP, HM.out, if_pos ⟨by rw [Nat.add_sub_cancel, ← HQ.out, he], by omega⟩]; rfl)
      have c2 := C_str_at HC.out (m - 1) (by have := HM'.out; omega)
      rw [strs_get P (m - 1) (by have := HM'.out; omega)] at c2
      have hprev := getD_len P s.size (m - 1) HP.out
      obtain ⟨y, hy⟩ : ∃ y : ByteArray, y = ⟨(P.getD (m - 1) []).toArray⟩ := ⟨_, rfl⟩
      rw [← hy] at c2
      have c3 := c2
      rw [show m - 1 = m + 1 - 2 by omega] at c3
      have hys : y.size ≤ s.size := by rw [hy, mk_size]; exact hprev
      have HY := Lib.hid (show y.data.toList = lastP P by rw [hy, L.out])
      clear he hy hprev L
      go_wp2_with fail
      refine (Parse_calls y (by omega) _).mono ?_
      rintro e w2 ⟨rfl, hb2⟩
      cases hp : parseOk y.data.toList
      · have HQ := Lib.hid hp
        clear hp
        go_wp2_with fail
        refine (digits_calls _ _).mono ?_
        rintro e w3 ⟨rfl, hb3⟩
        go_wp2_with fail
        go_ret
        have B2 := below_then HB.out HB.out.size hb2
        exact ⟨ret_bool (by rw [HE.out, ← HY.out, HQ.out]; simp), below_then B2 B2.size hb3⟩
      · have HQ := Lib.hid hp
        clear hp
        go_wp2_with fail
        go_ret
        exact ⟨ret_bool (by rw [HE.out, ← HY.out, HQ.out]; rfl), below_then HB.out HB.out.size hb2⟩
    · obtain rfl : m = 0 := by omega
      have HY := Lib.hid (show q.data.toList = lastP P by rw [lastP, HM.out, if_neg (fun h => by omega), HQ.out])
      replace c1 : w1.cell? ad = some (.string q) := c1
      clear he
      go_wp2_with fail
      refine (Parse_calls q (by omega) _).mono ?_
      rintro e w2 ⟨rfl, hb2⟩
      cases hp : parseOk q.data.toList
      · have HQ := Lib.hid hp
        clear hp
        go_wp2_with fail
        refine (digits_calls _ _).mono ?_
        rintro e w3 ⟨rfl, hb3⟩
        go_wp2_with fail
        go_ret
        have B2 := below_then HB.out HB.out.size hb2
        exact ⟨ret_bool (by rw [HE.out, ← HY.out, HQ.out]; simp), below_then B2 B2.size hb3⟩
      · have HQ := Lib.hid hp
        clear hp
        go_wp2_with fail
        go_ret
        exact ⟨ret_bool (by rw [HE.out, ← HY.out, HQ.out]; rfl), below_then HB.out HB.out.size hb2⟩
  · have HY := Lib.hid (show q.data.toList = lastP P by rw [lastP, HM.out, if_neg (fun h => he (by rw [HQ.out]; exact h.1)), HQ.out]; rfl)
    have e0 : q.toList.isEmpty = false := by rw [toList_eq]; simpa using he
    clear he
    go_wp2_with fail
    refine (Parse_calls q (by omega) _).mono ?_
    rintro e w2 ⟨rfl, hb2⟩
    cases hp : parseOk q.data.toList
    · have HQ := Lib.hid hp
      clear hp
      go_wp2_with fail
      refine (digits_calls _ _).mono ?_
      rintro e w3 ⟨rfl, hb3⟩
      go_wp2_with fail
      go_ret
      have B2 := below_then HB.out HB.out.size hb2
      exact ⟨ret_bool (by rw [HE.out, ← HY.out, HQ.out]; simp), below_then B2 B2.size hb3⟩
    · have HQ := Lib.hid hp
      clear hp
      go_wp2_with fail
      go_ret
      exact ⟨ret_bool (by rw [HE.out, ← HY.out, HQ.out]; rfl), below_then HB.out HB.out.size hb2⟩
end Go.Proofs.YtfieiigefllekaaGreatDoor

/- The last part of a name: plain Lean. -/
namespace Go.Proofs.YtfieiigefllekaaGreatDoor
open Go.RowKit Go.Proofs.YtfieiigefllekaaGreatDoorW.PrintWords

theorem splitL_append (p : UInt8 → Bool) (c : UInt8) (r : List UInt8) (h : p c = true) : ∀ a : List UInt8, splitL p (a ++ c :: r) = splitL p a ++ splitL p r
  | [] => by
    show splitL p (c :: r) = [] :: splitL p r
    rw [splitL, if_pos h]
  | d :: a => by
    have ih := splitL_append p c r h a
    rw [List.cons_append, splitL, splitL, ih]
    split
    · rfl
    · rcases hs : splitL p a with _ | ⟨x, t⟩
      · exact absurd hs (splitL_ne p a)
      · rfl
theorem splitL_clean (p : UInt8 → Bool) : ∀ l : List UInt8, ∀ x ∈ splitL p l, ∀ c ∈ x, p c = false
  | [], x, h, c, hc => by simp [splitL] at h; subst h; simp at hc
  | d :: r, x, h, c, hc => by
    unfold splitL at h
    split at h
    · rcases List.mem_cons.1 h with rfl | h
      · simp at hc
      · exact splitL_clean p r x h c hc
    · rename_i hd
      split at h
      · rename_i hs
        exact absurd hs (splitL_ne p r)
      · rename_i a t hs
        rcases List.mem_cons.1 h with rfl | h
        · rcases List.mem_cons.1 hc with rfl | hc
          · simpa using hd
          · exact splitL_clean p r a (by rw [hs]; simp) c hc
        · exact splitL_clean p r x (by rw [hs]; simp [h]) c hc
theorem splitL_one (p : UInt8 → Bool) : ∀ l : List UInt8, (∀ c ∈ l, p c = false) → splitL p l = [l]
  | [], _ => rfl
  | d :: r, h => by
    rw [splitL, if_neg (by rw [h d (by simp)]; decide), splitL_one p r (fun c hc => h c (by simp [hc]))]
theorem getD_snoc (L : List (List UInt8)) (x d : List UInt8) : (L ++ [x]).getD L.length d = x := by
  rw [List.getD_eq_getElem?_getD, List.getElem?_append_right (Nat.le_refl _), Nat.sub_self]
  rfl
theorem lastP_snoc (L : List (List UInt8)) (x : List UInt8) (h : x ≠ []) : lastP (L ++ [x]) = x := by
  have e : (L ++ [x]).length - 1 = L.length := by simp
  rw [lastP, e, getD_snoc, if_neg (fun h' => h h'.1)]
theorem lastP_gap (L : List (List UInt8)) (x : List UInt8) : lastP (L ++ [x] ++ [[]]) = x := by
  have e : (L ++ [x] ++ [[]]).length - 1 = (L ++ [x]).length := by simp
  have e2 : (L ++ [x] ++ [[]]).length - 2 = L.length := by simp
  rw [lastP, e, getD_snoc, if_pos ⟨rfl, by simp⟩, e2]
  rw [List.getD_eq_getElem?_getD, List.getElem?_append_left (by simp), List.getElem?_append_right (Nat.le_refl _), Nat.sub_self]
  rfl
theorem dot_at (c : UInt8) : isAt ⟨#[46]⟩ c = (c == 46) := by
  rw [isAt, ← Lib.contains_iff_indexByte]
  rw [Bool.eq_iff_iff]
  simp
def lastOk (x : List UInt8) : Bool := parseOk x || digitsL x
theorem ends_of (l : List UInt8) (L : List (List UInt8)) (x : List UInt8) (hx : x ≠ []) (h : splitL (isAt ⟨#[46]⟩) l = L ++ [x]) : endsL l = lastOk x := by
  rw [endsL, h, lastP_snoc L x hx]
  rfl
theorem ends_point (l : List UInt8) (L : List (List UInt8)) (x : List UInt8) (h : splitL (isAt ⟨#[46]⟩) l = L ++ [x]) : endsL (l ++ [46]) = lastOk x := by
  rw [endsL, splitL_append _ 46 [] (by rw [dot_at]; rfl), h, show splitL (isAt ⟨#[46]⟩) [] = [[]] from rfl, lastP_gap]
  rfl
theorem ends_ahead (a l : List UInt8) (L : List (List UInt8)) (x : List UInt8) (hx : x ≠ []) (h : splitL (isAt ⟨#[46]⟩) l = L ++ [x]) : endsL (a ++ 46 :: l) = lastOk x := by
  rw [endsL, splitL_append _ 46 l (by rw [dot_at]; rfl), h, ← List.append_assoc, lastP_snoc _ x hx]
  rfl
theorem ends_last (l : List UInt8) (L : List (List UInt8)) (x : List UInt8) (hx : x ≠ []) (h : splitL (isAt ⟨#[46]⟩) l = L ++ [x]) : endsL x = lastOk x := by
  refine ends_of x [] x hx ?_
  rw [splitL_one _ x (splitL_clean _ l x (by rw [h]; simp))]
  rfl
theorem ends_two (l : List UInt8) : endsL (l ++ [46, 46]) = false := by
  have e : l ++ [46, 46] = (l ++ [46]) ++ [46] := by simp
  rw [e, endsL, splitL_append _ 46 [] (by rw [dot_at]; rfl), splitL_append _ 46 [] (by rw [dot_at]; rfl), show splitL (isAt ⟨#[46]⟩) [] = [[]] from rfl, lastP_gap]
  rfl
theorem ends_nil : endsL [] = false := rfl
end Go.Proofs.YtfieiigefllekaaGreatDoor
