/- The document's Parse, Split, Ends for numbers. -/
import Derived.Test.YtfcnfkedoihpoaaDoorNumR
namespace Go.Proofs.YtfcnfkedoihpoaaDoor
open Go.RowKit Go.Proofs.YtfcnfkedoihpoaaDoorW.PrintWords Go.Proofs.YtfcnfkedoihpoaaDoorW.PrintMore


set_option maxHeartbeats 2000000 in
theorem rParse_calls (s : ByteArray) (hs : s.size ≤ 1000000) (w : World) :
    Calls Tryd.prog 45 #[.string s] w fun e w' => e = .returned (.tuple #[.int .u64 (parseN s.data.toList), .bool (parseOk s.data.toList)]) ∧ Drawn0 w w' := by
  by_cases h0 : s.data.toList = []
  · have hz : s.size = 0 := by simpa using congrArg List.length h0
    have E := Lib.hid (show parseL s.data.toList = none by rw [h0]; rfl)
    clear h0
    go_enter Tryd.func45, Tryd.ntmps45
    go_wp2_with fail
    go_ret2
    exact ⟨ret_parse (by rw [parseN, E.out]; rfl) (by rw [parseOk, E.out]; rfl), Drawn0.refl _⟩
  · have hz : ¬ s.size = 0 := by
      intro h
      exact h0 (List.eq_nil_of_length_eq_zero (by simpa using h))
    have E := Lib.hid (show parseL s.data.toList = accN (baseL s.data.toList).1 0 (intsOf (baseL s.data.toList).2) by rw [parseL, if_neg h0])
    have hbb := baseL_bd s.data.toList
    clear h0
    -- what stands behind the base's own letters, read
    have fin : ∀ (t : ByteArray) (b : Int), (t.size ≤ 1000000) → 2 ≤ b → b ≤ 16 → Aside0 (baseL s.data.toList = (b, t.data.toList)) → ∀ v, v = (intsOf t.data.toList).all (okD b) → (v = false → parseN s.data.toList = 0 ∧ parseOk s.data.toList = false) := by
      intro t b _ _ _ hB v hv hf
      have : parseL s.data.toList = none := by rw [E.out, hB.out]; exact accN_none _ _ _ (by rw [← hv]; exact hf)
      exact ⟨by rw [parseN, this]; rfl, by rw [parseOk, this]; rfl⟩
    have fin2 : ∀ (t : ByteArray) (b m : Int), Aside0 (baseL s.data.toList = (b, t.data.toList)) → Aside0 (accN b 0 (intsOf t.data.toList) = some m) → m = parseN s.data.toList ∧ true = parseOk s.data.toList := by
      intro t b m hB hm
      have : parseL s.data.toList = some m := by rw [E.out, hB.out]; exact hm.out
      exact ⟨by rw [parseN, this]; rfl, by rw [parseOk, this]; rfl⟩
    have F := Aside0.mk fin
    have F2 := Aside0.mk fin2
    clear fin fin2
    by_cases h1 : 1 < s.size
    · have l1 : s.data.toList = s[0] :: s[1] :: s.data.toList.drop 2 := by
        have e0 := drop_byte s 0 (by omega)
        have e1 := drop_byte s 1 (by omega)
        rw [List.drop_zero] at e0
        rw [e0, e1]
        rfl
      by_cases h48 : (s[0]).toNat = 48
      · have q1 : (((s[0]).toNat : Int) == 48) = true := by simp [h48]
        by_cases hx : (s[1]).toNat = 120 ∨ (s[1]).toNat = 88
        · have EB : Aside0 (baseL s.data.toList = (16, (s.extract 2 s.size).data.toList)) := ⟨by rw [extract_list]; rw [l1]; exact baseL_hex _ _ _ h48 hx⟩
          have q2 : (((s[1]).toNat : Int) == 88) = false → (((s[1]).toNat : Int) == 120) = true := by simp; omega
          clear l1 h48 hx hbb
          have hsz : (s.extract 2 s.size).size ≤ 1000000 := by rw [ByteArray.size_extract]; omega
          cases q3 : (((s[1]).toNat : Int) == 88)
          · have q4 := q2 q3
            clear q2
            go_enter Tryd.func45, Tryd.ntmps45
            go_wp2_with fail
            go_quiet (fail)
            go_wp2_with fail
            go_quiet (fail)
            go_wp2_with fail
            refine (rDigits_calls _ _ hsz _).mono ?_
            rintro e w1 ⟨rfl, rfl⟩
            cases hv : (intsOf (s.extract 2 s.size).data.toList).all (okD 16)
            · have HV := F.out _ _ hsz (by omega) (by omega) EB false hv.symm rfl
              go_wp2_with fail
              go_ret2
              exact ⟨ret_parse HV.1.symm HV.2.symm, by repeat (first | exact Drawn0.refl _ | apply Drawn0.step)⟩
            · have HV : Aside0 ((intsOf (s.extract 2 s.size).data.toList).all (okD 16) = true) := ⟨hv⟩
              clear hv
              go_wp2_with fail
              refine (rvalue_calls _ _ hsz (by omega) (by omega) HV _).mono ?_
              rintro e w1 ⟨⟨m, hm, rfl⟩, rfl⟩
              go_wp2_with fail
              go_ret2
              exact ⟨ret_parse (F2.out _ _ _ EB hm).1 (F2.out _ _ _ EB hm).2, by repeat (first | exact Drawn0.refl _ | apply Drawn0.step)⟩
          · clear q2
            go_enter Tryd.func45, Tryd.ntmps45
            go_wp2_with fail
            go_quiet (fail)
            go_wp2_with fail
            go_quiet (fail)
            go_wp2_with fail
            refine (rDigits_calls _ _ hsz _).mono ?_
            rintro e w1 ⟨rfl, rfl⟩
            cases hv : (intsOf (s.extract 2 s.size).data.toList).all (okD 16)
            · have HV := F.out _ _ hsz (by omega) (by omega) EB false hv.symm rfl
              go_wp2_with fail
              go_ret2
              exact ⟨ret_parse HV.1.symm HV.2.symm, by repeat (first | exact Drawn0.refl _ | apply Drawn0.step)⟩
            · have HV : Aside0 ((intsOf (s.extract 2 s.size).data.toList).all (okD 16) = true) := ⟨hv⟩
              clear hv
              go_wp2_with fail
              refine (rvalue_calls _ _ hsz (by omega) (by omega) HV _).mono ?_
              rintro e w1 ⟨⟨m, hm, rfl⟩, rfl⟩
              go_wp2_with fail
              go_ret2
              exact ⟨ret_parse (F2.out _ _ _ EB hm).1 (F2.out _ _ _ EB hm).2, by repeat (first | exact Drawn0.refl _ | apply Drawn0.step)⟩
        · have EB : Aside0 (baseL s.data.toList = (8, (s.extract 1 s.size).data.toList)) := ⟨by
            rw [extract_list]; rw [l1]; rw [baseL_oct _ _ _ h48 (fun h => hx (.inl h)) (fun h => hx (.inr h))]; rfl⟩
          have q2 : (((s[1]).toNat : Int) == 120) = false := by simp; omega
          have q3 : (((s[1]).toNat : Int) == 88) = false := by simp; omega
          clear l1 h48 hx hbb
          have hsz : (s.extract 1 s.size).size ≤ 1000000 := by rw [ByteArray.size_extract]; omega
          go_enter Tryd.func45, Tryd.ntmps45
          go_wp2_with fail
          go_quiet (fail)
          go_wp2_with fail
          refine (rDigits_calls _ _ hsz _).mono ?_
          rintro e w1 ⟨rfl, rfl⟩
          cases hv : (intsOf (s.extract 1 s.size).data.toList).all (okD 8)
          · have HV := F.out _ _ hsz (by omega) (by omega) EB false hv.symm rfl
            go_wp2_with fail
            go_ret2
            exact ⟨ret_parse HV.1.symm HV.2.symm, by repeat (first | exact Drawn0.refl _ | apply Drawn0.step)⟩
          · have HV : Aside0 ((intsOf (s.extract 1 s.size).data.toList).all (okD 8) = true) := ⟨hv⟩
            clear hv
            go_wp2_with fail
            refine (rvalue_calls _ _ hsz (by omega) (by omega) HV _).mono ?_
            rintro e w1 ⟨⟨m, hm, rfl⟩, rfl⟩
            go_wp2_with fail
            go_ret2
            exact ⟨ret_parse (F2.out _ _ _ EB hm).1 (F2.out _ _ _ EB hm).2, by repeat (first | exact Drawn0.refl _ | apply Drawn0.step)⟩
      · have EB : Aside0 (baseL s.data.toList = (10, s.data.toList)) := ⟨by rw [l1]; exact baseL_not _ _ h48⟩
        have q1 : (((s[0]).toNat : Int) == 48) = false := by simp; omega
        clear l1 h48 hbb
        go_enter Tryd.func45, Tryd.ntmps45
        go_wp2_with fail
        refine (rDigits_calls _ _ hs _).mono ?_
        rintro e w1 ⟨rfl, rfl⟩
        cases hv : (intsOf s.data.toList).all (okD 10)
        · have HV := F.out _ _ hs (by omega) (by omega) EB false hv.symm rfl
          go_wp2_with fail
          go_ret2
          exact ⟨ret_parse HV.1.symm HV.2.symm, Drawn0.refl _⟩
        · have HV : Aside0 ((intsOf s.data.toList).all (okD 10) = true) := ⟨hv⟩
          clear hv
          go_wp2_with fail
          refine (rvalue_calls _ _ hs (by omega) (by omega) HV _).mono ?_
          rintro e w1 ⟨⟨m, hm, rfl⟩, rfl⟩
          go_wp2_with fail
          go_ret2
          exact ⟨ret_parse (F2.out _ _ _ EB hm).1 (F2.out _ _ _ EB hm).2, Drawn0.refl _⟩
    · have EB : Aside0 (baseL s.data.toList = (10, s.data.toList)) := ⟨baseL_short s.data.toList (by simp; omega)⟩
      clear hbb
      go_enter Tryd.func45, Tryd.ntmps45
      go_wp2_with fail
      refine (rDigits_calls _ _ hs _).mono ?_
      rintro e w1 ⟨rfl, rfl⟩
      cases hv : (intsOf s.data.toList).all (okD 10)
      · have HV := F.out _ _ hs (by omega) (by omega) EB false hv.symm rfl
        go_wp2_with fail
        go_ret2
        exact ⟨ret_parse HV.1.symm HV.2.symm, Drawn0.refl _⟩
      · have HV : Aside0 ((intsOf s.data.toList).all (okD 10) = true) := ⟨hv⟩
        clear hv
        go_wp2_with fail
        refine (rvalue_calls _ _ hs (by omega) (by omega) HV _).mono ?_
        rintro e w1 ⟨⟨m, hm, rfl⟩, rfl⟩
        go_wp2_with fail
        go_ret2
        exact ⟨ret_parse (F2.out _ _ _ EB hm).1 (F2.out _ _ _ EB hm).2, Drawn0.refl _⟩
end Go.Proofs.YtfcnfkedoihpoaaDoor
