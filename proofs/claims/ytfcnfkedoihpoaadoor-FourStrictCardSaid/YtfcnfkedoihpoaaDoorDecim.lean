/- strconv.Atoi over digits; number.Decimal; the document's Decimal. -/
import Derived.Test.YtfcnfkedoihpoaaDoorNumR3
import Derived.Test.YtfcnfkedoihpoaaDoorDecP
import Derived.Test.YtfcnfkedoihpoaaDoorSh
import Derived.Lib.AtoiBound
namespace Go.Proofs.YtfcnfkedoihpoaaDoor
open Go.RowKit Go.Proofs.YtfcnfkedoihpoaaDoorW.PrintWords Go.Proofs.YtfcnfkedoihpoaaDoorW.PrintMore

theorem cell_lt {w : World} {a : Addr} {v : Value} (h : w.cell? a = some v) : a.block < w.heap.size := by
  unfold World.cell? at h
  split at h
  · rename_i hh
    exact (Array.getElem?_eq_some_iff.1 hh).1
  · cases h
/-- What the errors' variable holds is an error. -/
def Errs (w : World) : Prop := ∃ te pe, w.cell? ⟨8, 0, none⟩ = some (.iface te pe)
theorem Errs.stays {w w' : World} (h : Errs w) (hb : Below w.heap.size w w') : Errs w' := by
  obtain ⟨te, pe, h⟩ := h
  exact ⟨te, pe, (hb.cell (cell_lt h)).trans h⟩
theorem bytes_below0 (w : World) (e : TypeId) (s : ByteArray) : Below w.heap.size w (Lib.bytesWorld w e s) := bytes_below (Below.refl _ _) (Nat.le_refl _) e s

/-- How Atoi ends over digits. -/
def AtoiEnd (v n : Int) (e : Value) : Prop := (v ≤ 9223372036854775807 ∧ n = v ∧ e = .nilIface) ∨ (9223372036854775807 < v ∧ ∃ N, e = .iface 144 (.pointer (some ⟨N, 0, none⟩)))
theorem Atoi_calls (s : ByteArray) (hs : s.size ≤ 1000000) (hd : digitsL s.data.toList = true) (w : World) (hE : Errs w) :
    Calls Tryd.prog 75 #[.string s] w fun e w' => (∃ n v, e = .returned (.tuple #[.int .i64 n, v]) ∧ AtoiEnd (decV s.data.toList) n v) ∧ Below w.heap.size w w' := by
  have hA := atoi_digits _ hd
  rcases Int.lt_or_le 9223372036854775807 (decV s.data.toList) with hv | hv
  · obtain ⟨te, pe, hc⟩ := hE
    refine (Tryd.strconv_Atoi_range s (by omega) (hA.2 hv) _ w hc (.inr ⟨te, pe, rfl⟩)).mono ?_
    rintro e w' ⟨N, rfl, _, _, hb⟩
    exact ⟨⟨_, _, rfl, .inr ⟨hv, N, rfl⟩⟩, hb⟩
  · refine (Tryd.strconv_Atoi_ok s (by omega) _ (hA.1 hv) w).mono ?_
    rintro e w' ⟨rfl, hw⟩
    refine ⟨⟨_, _, rfl, .inl ⟨hv, rfl, rfl⟩⟩, ?_⟩
    rcases hw with rfl | ⟨t, rfl⟩
    · exact Below.refl _ _
    · exact bytes_below0 _ _ _
theorem ret_dec {a b : Int} {c d : Bool} (h : a = b) (h' : c = d) : Ending.returned (.tuple #[.int .i64 a, .bool c]) = .returned (.tuple #[.int .i64 b, .bool d]) := by rw [h, h']

theorem plain_none (l : List UInt8) (most : Int) (h : plainD l = false) : decN l most = 0 ∧ decOk l most = false := by
  have : decOk l most = false := by rw [decOk, h]; rfl
  exact ⟨by rw [decN, this]; rfl, this⟩
theorem plain_big (l : List UInt8) (most : Int) (h : most < decV l) : decN l most = 0 ∧ decOk l most = false := by
  have : decOk l most = false := by rw [decOk, show decide (decV l ≤ most) = false by simpa using h]; simp
  exact ⟨by rw [decN, this]; rfl, this⟩
theorem plain_some (l : List UInt8) (most : Int) (hp : plainD l = true) (h : decV l ≤ most) : decN l most = decV l ∧ decOk l most = true := by
  have : decOk l most = true := by rw [decOk, hp, show decide (decV l ≤ most) = true by simpa using h]; rfl
  exact ⟨by rw [decN, this]; rfl, this⟩

set_option maxHeartbeats 1000000 in
theorem Decimal_calls (s : ByteArray) (hs : s.size ≤ 1000000) (most : Int) (hm : most ≤ 9223372036854775807) (w : World) (hE : Aside0 (Errs w)) :
    Calls Tryd.prog 47 #[.string s, .int .i64 most] w fun e w' => e = .returned (.tuple #[.int .i64 (decN s.data.toList most), .bool (decOk s.data.toList most)]) ∧ Below w.heap.size w w' := by
  cases hd : digitsL s.data.toList
  · have HN := Lib.hid (plain_none s.data.toList most (by rw [plainD, hd]; rfl))
    have HD := Lib.hid hd
    clear hd
    go_enter Tryd.func47, Tryd.ntmps47
    go_wp2_with fail
    refine (digits_calls _ _).mono ?_
    rintro e w1 ⟨rfl, hb⟩
    rw [HD.out]
    go_wp2_with fail
    go_ret2
    exact ⟨ret_dec HN.out.1.symm HN.out.2.symm, hb⟩
  · have hpos : 0 < s.size := by
      rcases Nat.eq_zero_or_pos s.size with h | h
      · have : s.data.toList = [] := List.eq_nil_of_length_eq_zero (by simpa using h)
        rw [this] at hd
        cases hd
      · exact h
    have HD := Lib.hid hd
    have e0 := drop_byte s 0 hpos
    rw [List.drop_zero] at e0
    cases hp : plainD s.data.toList
    · have HN := Lib.hid (plain_none s.data.toList most hp)
      have h2 : 1 < s.size ∧ (s[0]).toNat = 48 := by
        rw [plainD, hd, Bool.true_and, Bool.not_eq_false', Bool.and_eq_true, decide_eq_true_eq, e0] at hp
        refine ⟨by have := hp.1; simp at this; omega, ?_⟩
        have := hp.2
        simp at this
        rw [this]
        rfl
      obtain ⟨h1, h48⟩ := h2
      have q1 : (((s[0]).toNat : Int) == 48) = true := by simp [h48]
      clear hd e0 hp h48
      go_enter Tryd.func47, Tryd.ntmps47
      go_wp2_with fail
      refine (digits_calls _ _).mono ?_
      rintro e w1 ⟨rfl, hb⟩
      rw [HD.out]
      go_wp2_with fail
      go_ret2
      exact ⟨ret_dec HN.out.1.symm HN.out.2.symm, hb⟩
    · have hone : 1 < s.size → (((s[0]).toNat : Int) == 48) = false := by
        intro h1
        rw [plainD, hd, Bool.true_and, Bool.not_eq_true', e0] at hp
        rw [show decide (1 < (s[0] :: s.data.toList.drop (0 + 1)).length) = true by simp; omega, Bool.true_and] at hp
        simp at hp ⊢
        intro h
        exact hp (UInt8.toNat_inj.1 (by rw [show (48 : UInt8).toNat = 48 from rfl]; omega))
      have HP := Lib.hid hp
      have hfin : ∀ (n : Int) (v : Value), AtoiEnd (decV s.data.toList) n v → (decV s.data.toList ≤ most → n = decV s.data.toList ∧ v = .nilIface) := by
        rintro n v (⟨h1, h2, h3⟩ | ⟨h1, _⟩) hle
        · exact ⟨h2, h3⟩
        · omega
      have hW : ∀ (w2 : World), Below w.heap.size w w2 → Errs w2 := fun w2 hb => hE.out.stays hb
      have HW := Lib.hid hW
      have HV := Lib.hid (plain_big s.data.toList most)
      have HU := Lib.hid (plain_some s.data.toList most hp)
      clear hd e0 hp hW
      by_cases h1 : 1 < s.size
      · have q1 := hone h1
        clear hone hfin
        go_enter Tryd.func47, Tryd.ntmps47
        go_wp2_with fail
        refine (digits_calls _ _).mono ?_
        rintro e w1 ⟨rfl, hb⟩
        rw [HD.out]
        go_wp2_with fail
        refine (Atoi_calls s hs HD.out _ (HW.out _ hb)).mono ?_
        rintro e w2 ⟨⟨n, v, rfl, hend⟩, hb2⟩
        have B2 := Aside0.mk (below_then hb hb.size hb2)
        clear hb hb2
        generalize hg : decV s.data.toList = d at hend HV HU ⊢
        rcases hend with ⟨h5, rfl, rfl⟩ | ⟨h5, N, rfl⟩
        · by_cases hle : n ≤ most
          · have HN := Lib.hid (HU.out hle)
            go_wp2_with fail
            go_ret2
            exact ⟨ret_dec HN.out.1.symm HN.out.2.symm, B2.out⟩
          · have HN := Lib.hid (HV.out (by omega))
            go_wp2_with fail
            go_ret2
            exact ⟨ret_dec HN.out.1.symm HN.out.2.symm, B2.out⟩
        · have HN := Lib.hid (HV.out (by omega))
          go_wp2_with fail
          go_ret2
          exact ⟨ret_dec HN.out.1.symm HN.out.2.symm, B2.out⟩
      · clear hone hfin
        go_enter Tryd.func47, Tryd.ntmps47
        go_wp2_with fail
        refine (digits_calls _ _).mono ?_
        rintro e w1 ⟨rfl, hb⟩
        rw [HD.out]
        go_wp2_with fail
        refine (Atoi_calls s hs HD.out _ (HW.out _ hb)).mono ?_
        rintro e w2 ⟨⟨n, v, rfl, hend⟩, hb2⟩
        have B2 := Aside0.mk (below_then hb hb.size hb2)
        clear hb hb2
        generalize hg : decV s.data.toList = d at hend HV HU ⊢
        rcases hend with ⟨h5, rfl, rfl⟩ | ⟨h5, N, rfl⟩
        · by_cases hle : n ≤ most
          · have HN := Lib.hid (HU.out hle)
            go_wp2_with fail
            go_ret2
            exact ⟨ret_dec HN.out.1.symm HN.out.2.symm, B2.out⟩
          · have HN := Lib.hid (HV.out (by omega))
            go_wp2_with fail
            go_ret2
            exact ⟨ret_dec HN.out.1.symm HN.out.2.symm, B2.out⟩
        · have HN := Lib.hid (HV.out (by omega))
          go_wp2_with fail
          go_ret2
          exact ⟨ret_dec HN.out.1.symm HN.out.2.symm, B2.out⟩
end Go.Proofs.YtfcnfkedoihpoaaDoor
