/- number.base, Parse, digits. -/
import Derived.Test.YtfcnfkedoihpoaaDoorNumP
import Derived.Lib.Strings
namespace Go.Proofs.YtfcnfkedoihpoaaDoor
open Go.RowKit Go.Proofs.YtfcnfkedoihpoaaDoorW.PrintWords Go.Proofs.YtfcnfkedoihpoaaDoorW.PrintMore

theorem baseL_short (l : List UInt8) (h : l.length ≤ 1) : baseL l = (10, l) := by
  rcases l with _ | ⟨a, _ | ⟨b, r⟩⟩
  · rfl
  · unfold baseL
    split
    · rename_i e; simp at e
    · rfl
  · simp at h
theorem baseL_not (a : UInt8) (l : List UInt8) (h : ¬ a.toNat = 48) : baseL (a :: l) = (10, a :: l) := by
  unfold baseL
  split
  · rename_i e
    injection e with e1 e2
    subst e1
    exact absurd rfl h
  · rfl
theorem baseL_hex (a b : UInt8) (l : List UInt8) (h : a.toNat = 48) (hb : b.toNat = 120 ∨ b.toNat = 88) : baseL (a :: b :: l) = (16, l) := by
  obtain rfl : a = 48 := UInt8.toNat_inj.1 h
  have : b = 120 ∨ b = 88 := hb.elim (fun h => .inl (UInt8.toNat_inj.1 h)) (fun h => .inr (UInt8.toNat_inj.1 h))
  simp only [baseL, if_pos this]
theorem baseL_oct (a b : UInt8) (l : List UInt8) (h : a.toNat = 48) (hb : ¬ b.toNat = 120) (hb' : ¬ b.toNat = 88) : baseL (a :: b :: l) = (8, b :: l) := by
  obtain rfl : a = 48 := UInt8.toNat_inj.1 h
  have : ¬ (b = 120 ∨ b = 88) := by
    rintro (rfl | rfl)
    · exact hb rfl
    · exact hb' rfl
  simp only [baseL, if_neg this]
theorem extract_list (s : ByteArray) (k : Nat) : (s.extract k s.size).data.toList = s.data.toList.drop k := by
  rw [ByteArray.data_extract]
  simp [List.extract_eq_take_drop]
  rw [List.take_of_length_le]
  simp

theorem ret_base {a b : Int} {s t : ByteArray} (h : a = b) (h' : s = t) : Ending.returned (.tuple #[.int .u64 a, .string s]) = .returned (.tuple #[.int .u64 b, .string t]) := by rw [h, h']

set_option maxHeartbeats 1000000 in
theorem base_calls (s : ByteArray) (hs : s.size ≤ 1000000) (w : World) :
    Calls Tryd.prog 70 #[.string s] w fun e w' => ∃ t : ByteArray, Aside0 (t.data.toList = (baseL s.data.toList).2) ∧ t.size ≤ s.size ∧ e = .returned (.tuple #[.int .u64 (baseL s.data.toList).1, .string t]) ∧ Drawn0 w w' := by
  by_cases h1 : 1 < s.size
  · have l1 : s.data.toList = s[0] :: s[1] :: s.data.toList.drop 2 := by
      have e0 := drop_byte s 0 (by omega)
      have e1 := drop_byte s 1 (by omega)
      rw [List.drop_zero] at e0
      rw [e0, e1]
      rfl
    by_cases h48 : (s[0]).toNat = 48
    · have q1 : (((s[0]).toNat : Int) == 48) = true := by simp [h48]
      by_cases hx : (s[1]).toNat = 120
      · have E := Lib.hid (show baseL s.data.toList = (16, s.data.toList.drop 2) by rw [l1]; exact baseL_hex _ _ _ h48 (.inl hx))
        have q2 : (((s[1]).toNat : Int) == 120) = true := by simp [hx]
        clear l1 h48 hx
        go_enter Tryd.func70, Tryd.ntmps70
        go_wp2_with fail
        go_quiet (fail)
        go_wp2_with fail
        go_ret2
        exact ⟨s.extract 2 s.size, ⟨by rw [extract_list, E.out]⟩, by rw [ByteArray.size_extract]; omega, ret_base (by rw [E.out]) rfl, by repeat (first | exact Drawn0.refl _ | apply Drawn0.step)⟩
      · by_cases hX : (s[1]).toNat = 88
        · have E := Lib.hid (show baseL s.data.toList = (16, s.data.toList.drop 2) by rw [l1]; exact baseL_hex _ _ _ h48 (.inr hX))
          have q2 : (((s[1]).toNat : Int) == 120) = false := by simp; omega
          have q3 : (((s[1]).toNat : Int) == 88) = true := by simp [hX]
          clear l1 h48 hx hX
          go_enter Tryd.func70, Tryd.ntmps70
          go_wp2_with fail
          go_quiet (fail)
          go_wp2_with fail
          go_ret2
          exact ⟨s.extract 2 s.size, ⟨by rw [extract_list, E.out]⟩, by rw [ByteArray.size_extract]; omega, ret_base (by rw [E.out]) rfl, by repeat (first | exact Drawn0.refl _ | apply Drawn0.step)⟩
        · have E := Lib.hid (show baseL s.data.toList = (8, s.data.toList.drop 1) by
            rw [l1]; rw [baseL_oct _ _ _ h48 hx hX]; rfl)
          have q2 : (((s[1]).toNat : Int) == 120) = false := by simp; omega
          have q3 : (((s[1]).toNat : Int) == 88) = false := by simp; omega
          clear l1 h48 hx hX
          go_enter Tryd.func70, Tryd.ntmps70
          go_wp2_with fail
          go_quiet (fail)
          go_wp2_with fail
          go_ret2
          exact ⟨s.extract 1 s.size, ⟨by rw [extract_list, E.out]⟩, by rw [ByteArray.size_extract]; omega, ret_base (by rw [E.out]) rfl, by repeat (first | exact Drawn0.refl _ | apply Drawn0.step)⟩
    · have E := Lib.hid (show baseL s.data.toList = (10, s.data.toList) by rw [l1]; exact baseL_not _ _ h48)
      have q1 : (((s[0]).toNat : Int) == 48) = false := by simp; omega
      clear l1 h48
      go_enter Tryd.func70, Tryd.ntmps70
      go_wp2_with fail
      go_ret2
      exact ⟨s, ⟨by rw [E.out]⟩, by omega, ret_base (by rw [E.out]) rfl, Drawn0.refl _⟩
  · have E := Lib.hid (baseL_short s.data.toList (by simp; omega))
    go_enter Tryd.func70, Tryd.ntmps70
    go_wp2_with fail
    go_ret2
    exact ⟨s, ⟨by rw [E.out]⟩, by omega, ret_base (by rw [E.out]) rfl, Drawn0.refl _⟩

theorem baseL_bd (l : List UInt8) : 8 ≤ (baseL l).1 ∧ (baseL l).1 ≤ 16 := by
  unfold baseL
  split
  · split <;> simp
  · simp
theorem toList_eq (s : ByteArray) : s.toList = s.data.toList := by
  have h := Lib.extract_toList s 0 s.size
  have h2 := Lib.extract_data s 0 s.size
  rw [← h2] at h
  have e : s.extract 0 s.size = s := by
    apply ByteArray.ext
    simp
  rwa [e] at h
/-- What Parse tells: the number, 0 where there is none, and whether there is one. -/
def parseN (l : List UInt8) : Int := (parseL l).getD 0
def parseOk (l : List UInt8) : Bool := (parseL l).isSome
theorem ret_parse {a b : Int} {c d : Bool} (h : a = b) (h' : c = d) : Ending.returned (.tuple #[.int .u64 a, .bool c]) = .returned (.tuple #[.int .u64 b, .bool d]) := by rw [h, h']

set_option maxHeartbeats 2000000 in
theorem Parse_calls (s : ByteArray) (hs : s.size ≤ 1000000) (w : World) :
    Calls Tryd.prog 43 #[.string s] w fun e w' => e = .returned (.tuple #[.int .u64 (parseN s.data.toList), .bool (parseOk s.data.toList)]) ∧ Below w.heap.size w w' := by
  by_cases h0 : s.data.toList = []
  · have e0 : s.toList.isEmpty = true := by rw [toList_eq, h0]; rfl
    have E := Lib.hid (show parseL s.data.toList = none by rw [h0]; rfl)
    go_enter Tryd.func43, Tryd.ntmps43
    go_wp2_with fail
    go_ret2
    exact ⟨ret_parse (by rw [parseN, E.out]; rfl) (by rw [parseOk, E.out]; rfl), Below.refl _ _⟩
  · have e0 : s.toList.isEmpty = false := by rw [toList_eq]; simpa using h0
    have E := Lib.hid (show parseL s.data.toList = accN (baseL s.data.toList).1 0 (intsOf (baseL s.data.toList).2) by rw [parseL, if_neg h0])
    have hbb := baseL_bd s.data.toList
    have E0 := Lib.hid h0
    clear h0
    go_enter Tryd.func43, Tryd.ntmps43
    go_wp2_with fail
    refine (base_calls s hs _).mono ?_
    rintro e w1 ⟨t, ht, hts, rfl, hd⟩
    have E2 := Lib.hid (show parseL s.data.toList = accN (baseL s.data.toList).1 0 (rn t) by rw [E.out, accN_bytes, ht.out])
    have HB := Aside0.mk hd.below
    clear E hd ht
    generalize hb : (baseL s.data.toList).1 = b at hbb E2 ⊢
    clear hb
    have hh : w.heap.size ≤ w1.heap.size := HB.out.size
    go_wp2_with fail
    go_loopw [6] (fun n wr => ∃ (pos f : Nat) (m : Int), wr = w1.iter t pos ∧ n = .int .u64 m ∧ 0 ≤ m ∧ m ≤ 1099511627776 ∧ Aside0 (accN b m (rnF t f pos) = parseL s.data.toList) ∧ t.size ≤ pos + f) (fun _ wr => t.size - wr.iterPos w1.heap.size)
    case atStart => exact ⟨0, t.size, 0, rfl, rfl, by omega, by omega, ⟨E2.out.symm⟩, by omega⟩
    case round =>
      obtain ⟨pos, f, m, rfl, rfl, hm0, hm1, hr, hf⟩ := hrel
      by_cases hp : pos < t.size
      · have hnx : ∀ ty, (Instr.next (.pointer (some ⟨w1.heap.size, 0, none⟩)) true ty).run Tryd.prog (w1.iter t pos) = _ := fun ty => run_next_any w1 t pos ty hp
        have hwd := width_pos t pos hp
        have hd1 := decode_le t pos
        obtain ⟨g, rfl, hg⟩ := rnF_step t f pos hp hf
        have Hr := Lib.hid (show accN b m (((Utf8.decode t pos).1 : Int) :: rnF t g (pos + (Utf8.decode t pos).2)) = parseL s.data.toList by rw [← hg]; exact hr.out)
        have hv := hexV_bd ((Utf8.decode t pos).1 : Int)
        clear hg hr E2
        go_wp2_with fail
        refine (Value_calls _ _).mono ?_
        rintro e w2 ⟨rfl, rfl⟩
        generalize hv' : hexV ((Utf8.decode t pos).1 : Int) = v at hv ⊢
        have HV := Lib.hid hv'
        clear hv'
        by_cases hneg : v < 0
        · have HN := Lib.hid (show parseL s.data.toList = none by rw [← Hr.out, accN, if_pos (by rw [HV.out]; omega)])
          go_wp2_with fail
          go_ret2
          exact ⟨ret_parse (by rw [parseN, HN.out]; rfl) (by rw [parseOk, HN.out]; rfl), HB.out.alloc hh _⟩
        · by_cases hge : b ≤ v
          · have HN := Lib.hid (show parseL s.data.toList = none by rw [← Hr.out, accN, if_pos (by rw [HV.out]; omega)])
            go_wp2_with fail
            go_ret2
            exact ⟨ret_parse (by rw [parseN, HN.out]; rfl) (by rw [parseOk, HN.out]; rfl), HB.out.alloc hh _⟩
          · have HN := Lib.hid (show accN b (min (m * b + v) 1099511627776) (rnF t g (pos + (Utf8.decode t pos).2)) = parseL s.data.toList by rw [← Hr.out, accN, if_neg (by rw [HV.out]; omega), HV.out])
            have hm2 : 0 ≤ m * b := Int.mul_nonneg hm0 (by omega)
            have hm3 : m * b ≤ 1099511627776 * 16 := Int.mul_le_mul hm1 hbb.2 (by omega) (by omega)
            go_wp2_with fail
            refine ⟨⟨_, g, min (m * b + v) 1099511627776, rfl, ?_, by omega, by omega, ⟨HN.out⟩, by omega⟩, by simp only [World.iterPos_iter]; omega⟩
            congr 1
            split <;> omega
      · have hnx : ∀ ty, (Instr.next (.pointer (some ⟨w1.heap.size, 0, none⟩)) true ty).run Tryd.prog (w1.iter t pos) = _ := fun ty => run_next_end w1 t pos ty hp
        have HN := Lib.hid (show parseL s.data.toList = some m by rw [← hr.out, rnF_end t f pos hp]; rfl)
        go_wp2_with fail
        go_ret2
        exact ⟨ret_parse (by rw [parseN, HN.out]; rfl) (by rw [parseOk, HN.out]; rfl), HB.out.alloc hh _⟩

set_option maxHeartbeats 1000000 in
theorem digits_calls (s : ByteArray) (w : World) :
    Calls Tryd.prog 74 #[.string s] w fun e w' => e = .returned (.bool (digitsL s.data.toList)) ∧ Below w.heap.size w w' := by
  have E := Lib.hid (rn_all s isDig isDig_high)
  have E0 := Lib.hid (toList_eq s)
  go_enter Tryd.func74, Tryd.ntmps74
  go_wp2
  go_loopw [] (fun wr => ∃ (pos f : Nat), wr = w.iter s pos ∧ Aside0 ((rnF s f pos).all isDig = (rn s).all isDig) ∧ s.size ≤ pos + f) (fun wr => s.size - wr.iterPos w.heap.size)
  case atStart => exact ⟨0, s.size, rfl, ⟨rfl⟩, by omega⟩
  case round =>
    obtain ⟨pos, f, rfl, hr, hf⟩ := hrel
    by_cases hp : pos < s.size
    · have hnx : ∀ ty, (Instr.next (.pointer (some ⟨w.heap.size, 0, none⟩)) true ty).run Tryd.prog (w.iter s pos) = _ := fun ty => run_next_any w s pos ty hp
      have hwd := width_pos s pos hp
      have hd1 := decode_le s pos
      obtain ⟨g, rfl, hg⟩ := rnF_step s f pos hp hf
      have Hr := Lib.hid (show (((Utf8.decode s pos).1 : Int) :: rnF s g (pos + (Utf8.decode s pos).2)).all isDig = (rn s).all isDig by rw [← hg]; exact hr.out)
      clear hg hr
      go_wp2_with fail
      refine (Digit_calls _ _).mono ?_
      rintro e w2 ⟨rfl, rfl⟩
      cases hd : isDig ((Utf8.decode s pos).1 : Int)
      · have HD := Lib.hid hd
        clear hd
        go_wp2_with fail
        go_ret
        refine ⟨ret_bool ?_, (Below.refl _ _).alloc (Nat.le_refl _) _⟩
        rw [digitsL, ← E.out, ← Hr.out, List.all_cons, HD.out]
        simp
      · have HD := Lib.hid hd
        clear hd
        go_wp2_with fail
        refine ⟨⟨_, g, rfl, ⟨?_⟩, by omega⟩, by simp only [World.iterPos_iter]; omega⟩
        rw [← Hr.out, List.all_cons, HD.out, Bool.true_and]
    · have hnx : ∀ ty, (Instr.next (.pointer (some ⟨w.heap.size, 0, none⟩)) true ty).run Tryd.prog (w.iter s pos) = _ := fun ty => run_next_end w s pos ty hp
      go_wp2_with fail
      go_ret
      refine ⟨ret_bool ?_, (Below.refl _ _).alloc (Nat.le_refl _) _⟩
      rw [digitsL, ← E.out, ← hr.out, rnF_end s f pos hp, E0.out]
      simp
end Go.Proofs.YtfcnfkedoihpoaaDoor
