/- Decimal numbers: plain Lean. -/
import Derived.Test.YtfieiigefllekaaGreatDoorJB
import Derived.Lib.AtoiAllCases
import Derived.Test.YtfieiigefllekaaGreatDoorJA
import Derived.Test.YtfieiigefllekaaGreatDoorSh
import Derived.Lib.AtoiBound
import Derived.Test.YtfieiigefllekaaGreatDoorJC
namespace Go.Proofs.YtfieiigefllekaaGreatDoor
open Go.RowKit Go.Proofs.YtfieiigefllekaaGreatDoorW.PrintWords

/-- Digits, added up. -/
def accD : Int → List Int → Int
  | n, [] => n
  | n, r :: rs => accD (10 * n + (r - 48)) rs
def decV (l : List UInt8) : Int := accD 0 (intsOf l)
theorem accD_mono : ∀ (l : List Int) (n : Int), 0 ≤ n → l.all isDig = true → n ≤ accD n l
  | [], n, _, _ => Int.le_refl _
  | r :: rs, n, h0, h => by
    rw [List.all_cons, Bool.and_eq_true] at h
    have hr : 48 ≤ r ∧ r ≤ 57 := by have := h.1; simp [isDig] at this; exact this
    have := accD_mono rs (10 * n + (r - 48)) (by omega) h.2
    unfold accD
    omega
/-- A decimal number of at most another: digits, no nought ahead. -/
def plainD (l : List UInt8) : Bool := digitsL l && !(decide (1 < l.length) && l.head? == some 48)
def decOk (l : List UInt8) (most : Int) : Bool := plainD l && decide (decV l ≤ most)
def decN (l : List UInt8) (most : Int) : Int := if decOk l most = true then decV l else 0
theorem isDig_iff (r : Int) : isDig r = true ↔ 48 ≤ r ∧ r ≤ 57 := by simp [isDig]
theorem okD_ten (r : Int) : okD 10 r = isDig r := by
  rw [Bool.eq_iff_iff]
  simp only [okD, isDig, Bool.and_eq_true, decide_eq_true_eq]
  have := hexV_cases r
  omega
theorem accD_small (l : List Int) : ∀ n : Int, 0 ≤ n → l.all isDig = true → accD n l < (n + 1) * 10 ^ l.length := by
  induction l with
  | nil => intro n h0 _; simp [accD]; omega
  | cons r rs ih =>
    intro n h0 h
    rw [List.all_cons, Bool.and_eq_true] at h
    have hr := (isDig_iff r).1 h.1
    have := ih (10 * n + (r - 48)) (by omega) h.2
    unfold accD
    have h2 : (10 * n + (r - 48) + 1) * 10 ^ rs.length ≤ (10 * n + 10) * 10 ^ rs.length := Int.mul_le_mul_of_nonneg_right (by omega) (Int.le_of_lt (Int.pow_pos (by decide)))
    rw [List.length_cons, Int.pow_succ]
    rw [show (n + 1) * (10 ^ rs.length * 10) = (10 * n + 10) * 10 ^ rs.length by rw [show (10 * n + 10 : Int) = (n + 1) * 10 by omega, Int.mul_assoc, Int.mul_comm (10 ^ rs.length) 10]]
    omega

theorem parse_digits : ∀ (l : List UInt8) (acc : Nat), acc < 18446744073709551616 → (intsOf l).all isDig = true →
    (accD acc (intsOf l) < 18446744073709551616 → ∃ u : Nat, Lib.parseUint10 acc l = .ok u ∧ (u : Int) = accD acc (intsOf l)) ∧ (18446744073709551616 ≤ accD acc (intsOf l) → Lib.parseUint10 acc l = .range)
  | [], acc, ha, _ => ⟨fun _ => ⟨acc, rfl, rfl⟩, fun h => by
      exfalso
      have : accD (acc : Int) (intsOf []) = acc := rfl
      omega⟩
  | c :: r, acc, ha, h => by
    rw [show intsOf (c :: r) = (c.toNat : Int) :: intsOf r from rfl, List.all_cons, Bool.and_eq_true] at h
    have hc := (isDig_iff _).1 h.1
    have e : accD (acc : Int) (intsOf (c :: r)) = accD ((acc * 10 + (c.toNat - 48) : Nat) : Int) (intsOf r) := by
      rw [show intsOf (c :: r) = (c.toNat : Int) :: intsOf r from rfl, accD]
      congr 1
      omega
    have hm := accD_mono (intsOf r) ((acc * 10 + (c.toNat - 48) : Nat) : Int) (by omega) h.2
    rw [e, Lib.parseUint10, if_pos ⟨by omega, by omega⟩]
    by_cases h1 : 1844674407370955162 ≤ acc
    · rw [if_pos h1]
      exact ⟨fun _ => by omega, fun _ => rfl⟩
    · rw [if_neg h1]
      by_cases h2 : 18446744073709551616 ≤ acc * 10 + (c.toNat - 48)
      · rw [if_pos h2]
        exact ⟨fun _ => by omega, fun _ => rfl⟩
      · rw [if_neg h2]
        exact parse_digits r _ (by omega) h.2
theorem atoi_digits (l : List UInt8) (h : digitsL l = true) : (decV l ≤ 9223372036854775807 → Lib.atoiAll l = .ok (decV l)) ∧ (9223372036854775807 < decV l → Lib.atoiAll l = .range) := by
  rw [digitsL, Bool.and_eq_true] at h
  rcases l with _ | ⟨c, r⟩
  · simp at h
  · have hc := h.2
    rw [show intsOf (c :: r) = (c.toNat : Int) :: intsOf r from rfl, List.all_cons, Bool.and_eq_true] at hc
    have hc1 := (isDig_iff _).1 hc.1
    rw [Lib.atoiAll_plain c r (by omega) (by omega), Lib.parseMag, if_neg (by simp)]
    have := parse_digits (c :: r) 0 (by omega) h.2
    rw [show accD ((0 : Nat) : Int) (intsOf (c :: r)) = decV (c :: r) from rfl] at this
    constructor
    · intro hv
      obtain ⟨u, hu, hu2⟩ := this.1 (by omega)
      rw [hu, Lib.signless, if_neg (by omega), hu2]
    · intro hv
      rcases Int.lt_or_le (decV (c :: r)) 18446744073709551616 with hl | hl
      · obtain ⟨u, hu, hu2⟩ := this.1 hl
        rw [hu, Lib.signless, if_pos (by omega)]
      · rw [this.2 hl]
        rfl
theorem decV_nonneg (l : List UInt8) (h : digitsL l = true) : 0 ≤ decV l := by
  rw [digitsL, Bool.and_eq_true] at h
  exact accD_mono _ 0 (Int.le_refl _) h.2
end Go.Proofs.YtfieiigefllekaaGreatDoor

/- The document's Has. -/
namespace Go.Proofs.YtfieiigefllekaaGreatDoor
open Go.RowKit Go.Proofs.YtfieiigefllekaaGreatDoorW.PrintWords Go.Proofs.YtfieiigefllekaaGreatDoorW.PrintMore

/-- Is a number one of a text's bytes? -/
def hasL (l : List UInt8) (c : Int) : Bool := (intsOf l).contains c
set_option maxHeartbeats 1000000 in
theorem Has_calls (s : ByteArray) (c : Int) (hs : s.size ≤ 1000000) (w : World) :
    Calls Tryz.prog 106 #[.string s, .int .u8 c] w fun e w' => e = .returned (.bool (hasL s.data.toList c)) ∧ w = w' := by
  go_enter Tryz.func106, Tryz.ntmps106
  go_wp2
  go_loop [5] (fun i => ∃ j : Nat, i = .int .i64 j ∧ j ≤ s.size ∧ Aside0 (hasL (s.data.toList.drop j) c = hasL s.data.toList c)) (fun i => s.size - (intOf i).toNat)
  case atStart => exact ⟨0, rfl, by omega, ⟨rfl⟩⟩
  case round =>
    obtain ⟨j, rfl, hj, hr⟩ := hrel
    by_cases hlt : j < s.size
    · have hst : hasL (s.data.toList.drop j) c = (c == ((s[j]'hlt).toNat : Int) || hasL (s.data.toList.drop (j + 1)) c) := by
        rw [drop_byte s j hlt]; rfl
      have Hst := Lib.hid hst
      cases hc : (((s[j]'hlt).toNat : Int) == c)
      · have Hc := Lib.hid hc
        clear hst
        go_wp2
        refine ⟨⟨j + 1, by go_num, by omega, ⟨?_⟩⟩, by simp [intOf]; omega⟩
        rw [← hr.out, Hst.out, BEq.comm, Hc.out]; rfl
      · have Hc := Lib.hid hc
        clear hst
        go_wp2
        go_ret
        exact ⟨ret_bool (by rw [← hr.out, Hst.out, BEq.comm, Hc.out]; rfl), rfl⟩
    · go_wp2
      go_ret
      have he := hr.out
      rw [List.drop_of_length_le (by simp; omega)] at he
      exact ⟨ret_bool (by rw [← he]; rfl), rfl⟩
end Go.Proofs.YtfieiigefllekaaGreatDoor

/- The document's numbers: Digits, value, Parse, Split, Ends. -/
namespace Go.Proofs.YtfieiigefllekaaGreatDoor
open Go.RowKit Go.Proofs.YtfieiigefllekaaGreatDoorW.PrintWords Go.Proofs.YtfieiigefllekaaGreatDoorW.PrintMore

theorem okD_iff (b r : Int) : okD b r = true ↔ 0 ≤ hexV r ∧ hexV r < b := by simp [okD]

set_option maxHeartbeats 1000000 in
theorem rDigits_calls (s : ByteArray) (b : Int) (hs : s.size ≤ 1000000) (w : World) :
    Calls Tryz.prog 107 #[.string s, .int .i64 b] w fun e w' => e = .returned (.bool ((intsOf s.data.toList).all (okD b))) ∧ w = w' := by
  go_enter Tryz.func107, Tryz.ntmps107
  go_wp2
  go_loop [5] (fun i => ∃ j : Nat, i = .int .i64 j ∧ j ≤ s.size ∧ Aside0 ((intsOf (s.data.toList.drop j)).all (okD b) = (intsOf s.data.toList).all (okD b))) (fun i => s.size - (intOf i).toNat)
  case atStart => exact ⟨0, rfl, by omega, ⟨rfl⟩⟩
  case round =>
    obtain ⟨j, rfl, hj, hr⟩ := hrel
    by_cases hlt : j < s.size
    · have hb := (s[j]'hlt).toNat_lt
      have Hst := Lib.hid (show (intsOf (s.data.toList.drop j)).all (okD b) = (okD b ((s[j]'hlt).toNat : Int) && (intsOf (s.data.toList.drop (j + 1))).all (okD b)) by
        rw [drop_byte s j hlt]; rfl)
      have hv := hexV_bd ((s[j]'hlt).toNat : Int)
      have HK := Lib.hid (okD_iff b ((s[j]'hlt).toNat : Int))
      go_wp2_with fail
      refine (rValue_byte _ _).mono ?_
      rintro e w1 ⟨rfl, rfl⟩
      generalize hv' : hexV ((s[j]'hlt).toNat : Int) = v at hv HK ⊢
      clear hv'
      by_cases hneg : v < 0
      · have HN : Aside0 (okD b ((s[j]'hlt).toNat : Int) = false) := ⟨by rw [Bool.eq_false_iff]; intro h; have := HK.out.1 h; omega⟩
        go_wp2_with fail
        go_ret
        exact ⟨ret_bool (by rw [← hr.out, Hst.out, HN.out]; rfl), rfl⟩
      · by_cases hge : b ≤ v
        · have HN : Aside0 (okD b ((s[j]'hlt).toNat : Int) = false) := ⟨by rw [Bool.eq_false_iff]; intro h; have := HK.out.1 h; omega⟩
          go_wp2_with fail
          go_ret
          exact ⟨ret_bool (by rw [← hr.out, Hst.out, HN.out]; rfl), rfl⟩
        · have HN : Aside0 (okD b ((s[j]'hlt).toNat : Int) = true) := ⟨HK.out.2 (by omega)⟩
          go_wp2_with fail
          refine ⟨⟨j + 1, by go_num, by omega, ⟨?_⟩⟩, by simp [intOf]; omega⟩
          rw [← hr.out, Hst.out, HN.out]; rfl
    · go_wp2
      go_ret
      have he := hr.out
      rw [List.drop_of_length_le (by simp; omega)] at he
      exact ⟨ret_bool (by rw [← he]; rfl), rfl⟩
end Go.Proofs.YtfieiigefllekaaGreatDoor

/- The document's Split and Ends. -/
namespace Go.Proofs.YtfieiigefllekaaGreatDoor
open Go.RowKit Go.Proofs.YtfieiigefllekaaGreatDoorW.PrintWords Go.Proofs.YtfieiigefllekaaGreatDoorW.PrintMore

theorem isAt_has (a : ByteArray) (c : UInt8) : hasL a.data.toList (c.toNat : Int) = isAt a c := by
  rw [isAt, ← Lib.contains_iff_indexByte, Bool.eq_iff_iff]
  simp only [hasL, intsOf, List.contains_iff_mem, List.mem_map]
  constructor
  · rintro ⟨x, hx, he⟩
    obtain rfl : x = c := UInt8.toNat_inj.1 (by exact_mod_cast he)
    exact hx
  · intro h
    exact ⟨c, h, rfl⟩
theorem piece_app (s : ByteArray) (k j : Nat) (hk : k ≤ j) (hj : j < s.size) : (⟨(piece s k j).toArray⟩ : ByteArray) ++ s.extract j (j + 1) = ⟨(piece s k (j + 1)).toArray⟩ := by
  rw [extract_piece s j (j + 1), piece_step s j j (by omega) hj, piece_self, piece_step s k j hk hj]
  apply ByteArray.ext
  rw [ByteArray.data_append]
  simp

set_option maxHeartbeats 1000000 in
theorem rSplit_calls (s a : ByteArray) (w : World) (hs : s.size ≤ 1000000) (ha : a.size ≤ 1000000) :
    Calls Tryz.prog 80 #[.string s, .string a] w fun e w' => ∃ v : Value, e = .returned v ∧ Kd.R Kd.string 9 w' w.heap.size (fun _ => True) v (strs (splitL (isAt a) s.data.toList)) ∧ Below w.heap.size w w' := by
  go_enter Tryz.func80, Tryz.ntmps80
  go_wp2
  go_loopw [5, 6, 7] (fun v p i wr => ∃ (j k : Nat) (l : List (List UInt8)), i = .int .i64 j ∧ p = .string ⟨(piece s k j).toArray⟩ ∧ k ≤ j ∧ j ≤ s.size ∧ l.length ≤ j ∧ Aside0 (l ++ glue (piece s k j) (splitL (isAt a) (s.data.toList.drop j)) = splitL (isAt a) s.data.toList) ∧ Aside0 (Kd.R Kd.string 9 wr w.heap.size (fun _ => True) v (strs l)) ∧ Aside0 (Below w.heap.size w wr)) (fun _ _ i _ => s.size - (intOf i).toNat)
  case atStart => exact ⟨0, 0, [], rfl, by rw [piece_self], by omega, by omega, by simp, ⟨by rw [piece_self, glue_nil _ (splitL_ne _ _)]; rfl⟩, ⟨Kd.R_nil _ _ _ _ _⟩, ⟨Below.refl _ _⟩⟩
  case round =>
    obtain ⟨j, k, l, rfl, rfl, hk, hj, hl, hr, HO, HB⟩ := hrel
    have hsz : w.heap.size ≤ wr.heap.size := HB.out.size
    have hll := strs_length l
    have HLL := Lib.hid hll
    clear hll
    by_cases hlt : j < s.size
    · have hb := (s[j]'hlt).toNat_lt
      have Hd := Lib.hid (drop_byte s j hlt)
      have HP := Lib.hid (piece_app s k j hk hlt)
      have hpl : (piece s k j).length ≤ s.size := by rw [← mk_size, ← extract_piece, ByteArray.size_extract]; omega
      go_wp2_with fail
      refine (Has_calls a _ ha _).mono ?_
      rintro e w1 ⟨rfl, rfl⟩
      rw [isAt_has]
      cases hc : isAt a (s[j]'hlt)
      · have Hc := Lib.hid hc
        clear hc
        go_wp2_with fail
        refine ⟨⟨j + 1, k, l, by go_num, ?_, by omega, by omega, by omega, ⟨?_⟩, HO, HB⟩, by simp [intOf]; omega⟩
        · rw [HP.out]
        · rw [← hr.out, Hd.out, split_on _ _ _ _ Hc.out, piece_step s k j hk hlt]
      · have Hc := Lib.hid hc
        clear hc
        go_wp2_with ((with_reducible refine gate_builtin (b := .append) (xs := #[.tmp 19, .tmp 21]) rfl ?_); at_builtin; refine Kd.R_append Kd.string (w0 := w) w.heap.size rfl (.tmp 19) (.tmp 21) 84 9 (.string ⟨#[]⟩) 16 rfl Tryz.underlying84 info_string rfl (by decide) (by omega) u5 (strs l) ⟨(piece s k j).toArray⟩ [.string ⟨(piece s k j).toArray⟩] (fun _ => True) (fun _ => False) rfl rfl ?aP (fun _ hk => hk.elim) ?aF ?aO ?aB ?aS ?aL ?_; (case aP => exact rfl); (case aF => exact fun _ _ => trivial); (case aO => exact HO.out); (case aB => exact HB.out); (case aS => omega); (case aL => rw [HLL.out]; omega); intro v1 w1 ho hb hg _)
        refine ⟨⟨j + 1, j + 1, l ++ [piece s k j], by go_num, by rw [piece_self], by omega, by omega, by simp; omega, ⟨?_⟩, ⟨?_⟩, ⟨hb⟩⟩, by simp [intOf]; omega⟩
        · rw [← hr.out, Hd.out, split_at _ _ _ _ Hc.out, piece_self, glue_nil _ (splitL_ne _ _), List.append_assoc]
          rfl
        · rw [strs_append, show strs [piece s k j] = [⟨(piece s k j).toArray⟩] from rfl]
          exact ho
    · obtain rfl : j = s.size := by omega
      go_wp2_with ((with_reducible refine gate_builtin (b := .append) (xs := #[.tmp 30, .tmp 32]) rfl ?_); at_builtin; refine Kd.R_append Kd.string (w0 := w) w.heap.size rfl (.tmp 30) (.tmp 32) 84 9 (.string ⟨#[]⟩) 16 rfl Tryz.underlying84 info_string rfl (by decide) (by omega) u5 (strs l) ⟨(piece s k s.size).toArray⟩ [.string ⟨(piece s k s.size).toArray⟩] (fun _ => True) (fun _ => False) rfl rfl ?aP (fun _ hk => hk.elim) ?aF ?aO ?aB ?aS ?aL ?_; (case aP => exact rfl); (case aF => exact fun _ _ => trivial); (case aO => exact HO.out); (case aB => exact HB.out); (case aS => omega); (case aL => rw [HLL.out]; omega); intro v1 w1 ho hb hg _)
      go_ret
      refine ⟨_, rfl, ?_, hb⟩
      have he := hr.out
      rw [List.drop_of_length_le (by simp)] at he
      rw [← he, show glue (piece s k s.size) (splitL (isAt a) []) = [piece s k s.size] by simp [splitL, glue], strs_append, show strs [piece s k s.size] = [⟨(piece s k s.size).toArray⟩] from rfl]
      exact ho
end Go.Proofs.YtfieiigefllekaaGreatDoor

/- strconv.Atoi over digits; number.Decimal; the document's Decimal. -/
namespace Go.Proofs.YtfieiigefllekaaGreatDoor
open Go.RowKit Go.Proofs.YtfieiigefllekaaGreatDoorW.PrintWords Go.Proofs.YtfieiigefllekaaGreatDoorW.PrintMore

theorem cell_lt {w : World} {a : Addr} {v : Value} (h : w.cell? a = some v) : a.block < w.heap.size := by
  unfold World.cell? at h
  split at h
  · rename_i hh
    exact (Array.getElem?_eq_some_iff.1 hh).1
  · cases h
/-- What the errors' variable holds is an error. -/
def Errs (w : World) : Prop := ∃ te pe, w.cell? ⟨3, 0, none⟩ = some (.iface te pe)
theorem Errs.stays {w w' : World} (h : Errs w) (hb : Below w.heap.size w w') : Errs w' := by
  obtain ⟨te, pe, h⟩ := h
  exact ⟨te, pe, (hb.cell (cell_lt h)).trans h⟩
theorem bytes_below0 (w : World) (e : TypeId) (s : ByteArray) : Below w.heap.size w (Lib.bytesWorld w e s) := bytes_below (Below.refl _ _) (Nat.le_refl _) e s

/-- How Atoi ends over digits. -/
def AtoiEnd (v n : Int) (e : Value) : Prop := (v ≤ 9223372036854775807 ∧ n = v ∧ e = .nilIface) ∨ (9223372036854775807 < v ∧ ∃ N, e = .iface 175 (.pointer (some ⟨N, 0, none⟩)))
theorem Atoi_calls (s : ByteArray) (hs : s.size ≤ 1000000) (hd : digitsL s.data.toList = true) (w : World) (hE : Errs w) :
    Calls Tryz.prog 105 #[.string s] w fun e w' => (∃ n v, e = .returned (.tuple #[.int .i64 n, v]) ∧ AtoiEnd (decV s.data.toList) n v) ∧ Below w.heap.size w w' := by
  have hA := atoi_digits _ hd
  rcases Int.lt_or_le 9223372036854775807 (decV s.data.toList) with hv | hv
  · obtain ⟨te, pe, hc⟩ := hE
    refine (Tryz.strconv_Atoi_range s (by omega) (hA.2 hv) _ w hc (.inr ⟨te, pe, rfl⟩)).mono ?_
    rintro e w' ⟨N, rfl, _, _, hb⟩
    exact ⟨⟨_, _, rfl, .inr ⟨hv, N, rfl⟩⟩, hb⟩
  · refine (Tryz.strconv_Atoi_ok s (by omega) _ (hA.1 hv) w).mono ?_
    rintro e w' ⟨rfl, hw⟩
    refine ⟨⟨_, _, rfl, .inl ⟨hv, rfl, rfl⟩⟩, ?_⟩
    rcases hw with rfl | ⟨t, rfl⟩
    · exact Below.refl _ _
    · exact bytes_below0 _ _ _
theorem ret_dec {a b : Int} {c d : Bool} (h : a = b) (h' : c = d) : Ending.returned (.tuple #[.int .i64 a, .bool c]) = .returned (.tuple #[.int .i64 b, .bool d]) := by rw [h, h']

theorem plain_none (l : List UInt8) (most : Int) (h : plainD l = false) : decN l most = 0 ∧ decOk l most = false := by
  have : decOk l most = false := by rw [decOk, h]; rfl
  exact ⟨by rw [decN, this]; rfl, this⟩
theorem plain_big (l : List UInt8) (most : Int) (h : most < decV l) : decN l most = 0 ∧ decOk l most = false := by
  have : decOk l most = false := by rw [decOk, show decide (decV l ≤ most) = false by simpa using h]; simp
  exact ⟨by rw [decN, this]; rfl, this⟩
theorem plain_some (l : List UInt8) (most : Int) (hp : plainD l = true) (h : decV l ≤ most) : decN l most = decV l ∧ decOk l most = true := by
  have : decOk l most = true := by rw [decOk, hp, show decide (decV l ≤ most) = true by simpa using h]; rfl
  exact ⟨by rw [decN, this]; rfl, this⟩

set_option maxHeartbeats 1000000 in
theorem Decimal_calls (s : ByteArray) (hs : s.size ≤ 1000000) (most : Int) (hm : most ≤ 9223372036854775807) (w : World) (hE : Aside0 (Errs w)) :
    Calls Tryz.prog 79 #[.string s, .int .i64 most] w fun e w' => e = .returned (.tuple #[.int .i64 (decN s.data.toList most), .bool (decOk s.data.toList most)]) ∧ Below w.heap.size w w' := by
  cases hd : digitsL s.data.toList
  · have HN := Lib.hid (plain_none s.data.toList most (by rw [plainD, hd]; rfl))
    have HD := Lib.hid hd
    clear hd
    go_enter Tryz.func79, Tryz.ntmps79
    go_wp2_with fail
    refine (digits_calls _ _).mono ?_
    rintro e w1 ⟨rfl, hb⟩
    rw [HD.out]
    go_wp2_with fail
    go_ret2
    exact ⟨ret_dec HN.out.1.symm HN.out.2.symm, hb⟩
  · have hpos : 0 < s.size := by
      rcases Nat.eq_zero_or_pos s.size with h | h
      · have : s.data.toList = [] := List.eq_nil_of_length_eq_zero (by simpa using h)
        rw [this] at hd
        cases hd
      · exact h
    have HD := Lib.hid hd
    have e0 := drop_byte s 0 hpos
    rw [List.drop_zero] at e0
    cases hp : plainD s.data.toList
    · have HN := Lib.hid (plain_none s.data.toList most hp)
      have h2 : 1 < s.size ∧ (s[0]).toNat = 48 := by
        rw [plainD, hd, Bool.true_and, Bool.not_eq_false', Bool.and_eq_true, decide_eq_true_eq, e0] at hp
        refine ⟨by have := hp.1; simp at this; omega, ?_⟩
        have := hp.2
        simp at this
        rw [this]
        rfl
      obtain ⟨h1, h48⟩ := h2
      have q1 : (((s[0]).toNat : Int) == 48) = true := by simp [h48]
      clear hd e0 hp h48
      go_enter Tryz.func79, Tryz.ntmps79
      go_wp2_with fail
      refine (digits_calls _ _).mono ?_
      rintro e w1 ⟨rfl, hb⟩
      rw [HD.out]
      go_wp2_with fail
      go_ret2
      exact ⟨ret_dec HN.out.1.symm HN.out.2.symm, hb⟩
    · have hone : 1 < s.size → (((s[0]).toNat : Int) == 48) = false := by
        intro h1
        rw [plainD, hd, Bool.true_and, Bool.not_eq_true', e0] at hp
        rw [show decide (1 < (s[0] :: s.data.toList.drop (0 + 1)).length) = true by simp; omega, Bool.true_and] at hp
        simp at hp ⊢
        intro h
        exact hp (UInt8.toNat_inj.1 (by rw [show (48 : UInt8).toNat = 48 from rfl]; omega))
      have HP := Lib.hid hp
      have hfin : ∀ (n : Int) (v : Value), AtoiEnd (decV s.data.toList) n v → (decV s.data.toList ≤ most → n = decV s.data.toList ∧ v = .nilIface) := by
        rintro n v (⟨h1, h2, h3⟩ | ⟨h1, _⟩) hle
        · exact ⟨h2, h3⟩
        · omega
      have hW : ∀ (w2 : World), Below w.heap.size w w2 → Errs w2 := fun w2 hb => hE.out.stays hb
      have HW := Lib.hid hW
      have HV := Lib.hid (plain_big s.data.toList most)
      have HU := Lib.hid (plain_some s.data.toList most hp)
      clear hd e0 hp hW
      by_cases h1 : 1 < s.size
      · have q1 := hone h1
        clear hone hfin
        go_enter Tryz.func79, Tryz.ntmps79
        go_wp2_with fail
        refine (digits_calls _ _).mono ?_
        rintro e w1 ⟨rfl, hb⟩
        rw [HD.out]
        go_wp2_with fail
        refine (Atoi_calls s hs HD.out _ (HW.out _ hb)).mono ?_
        rintro e w2 ⟨⟨n, v, rfl, hend⟩, hb2⟩
        have B2 := Aside0.mk (below_then hb hb.size hb2)
        clear hb hb2
        generalize hg : decV s.data.toList = d at hend HV HU ⊢
        rcases hend with ⟨h5, rfl, rfl⟩ | ⟨h5, N, rfl⟩
        · by_cases hle : n ≤ most
          · have HN := Lib.hid (HU.out hle)
            go_wp2_with fail
            go_ret2
            exact ⟨ret_dec HN.out.1.symm HN.out.2.symm, B2.out⟩
          · have HN := Lib.hid (HV.out (by omega))
            go_wp2_with fail
            go_ret2
            exact ⟨ret_dec HN.out.1.symm HN.out.2.symm, B2.out⟩
        · have HN := Lib.hid (HV.out (by omega))
          go_wp2_with fail
          go_ret2
          exact ⟨ret_dec HN.out.1.symm HN.out.2.symm, B2.out⟩
      · clear hone hfin
        go_enter Tryz.func79, Tryz.ntmps79
        go_wp2_with fail
        refine (digits_calls _ _).mono ?_
        rintro e w1 ⟨rfl, hb⟩
        rw [HD.out]
        go_wp2_with fail
        refine (Atoi_calls s hs HD.out _ (HW.out _ hb)).mono ?_
        rintro e w2 ⟨⟨n, v, rfl, hend⟩, hb2⟩
        have B2 := Aside0.mk (below_then hb hb.size hb2)
        clear hb hb2
        generalize hg : decV s.data.toList = d at hend HV HU ⊢
        rcases hend with ⟨h5, rfl, rfl⟩ | ⟨h5, N, rfl⟩
        · by_cases hle : n ≤ most
          · have HN := Lib.hid (HU.out hle)
            go_wp2_with fail
            go_ret2
            exact ⟨ret_dec HN.out.1.symm HN.out.2.symm, B2.out⟩
          · have HN := Lib.hid (HV.out (by omega))
            go_wp2_with fail
            go_ret2
            exact ⟨ret_dec HN.out.1.symm HN.out.2.symm, B2.out⟩
        · have HN := Lib.hid (HV.out (by omega))
          go_wp2_with fail
          go_ret2
          exact ⟨ret_dec HN.out.1.symm HN.out.2.symm, B2.out⟩
end Go.Proofs.YtfieiigefllekaaGreatDoor

/- The document's Decimal; the law NumberReads. -/
namespace Go.Proofs.YtfieiigefllekaaGreatDoor
open Go.RowKit Go.Proofs.YtfieiigefllekaaGreatDoorW.PrintWords Go.Proofs.YtfieiigefllekaaGreatDoorW.PrintMore

theorem all_ten (l : List UInt8) : (intsOf l).all (okD 10) = (intsOf l).all isDig := by
  have : okD 10 = isDig := funext okD_ten
  rw [this]
theorem digits_none (l : List UInt8) (h : (intsOf l).all isDig = false) : plainD l = false := by
  rw [plainD, digitsL, h]; simp
theorem digits_yes (l : List UInt8) (h0 : 0 < l.length) (h : (intsOf l).all isDig = true) : digitsL l = true := by
  rw [digitsL, h]
  rcases l with _ | ⟨a, r⟩
  · simp at h0
  · rfl

set_option maxHeartbeats 2000000 in
theorem rDecimal_calls (s : ByteArray) (hs : s.size ≤ 1000000) (most : Int) (hm : most ≤ 9223372036854775807) (w : World) :
    Calls Tryz.prog 81 #[.string s, .int .i64 most] w fun e w' => e = .returned (.tuple #[.int .i64 (decN s.data.toList most), .bool (decOk s.data.toList most)]) ∧ w = w' := by
  by_cases hpos : 0 < s.size
  · have e0 := drop_byte s 0 hpos
    rw [List.drop_zero] at e0
    have hz : ¬ s.size = 0 := by omega
    cases hv : (intsOf s.data.toList).all isDig
    · have HN := Lib.hid (plain_none s.data.toList most (digits_none _ hv))
      have HV : Aside0 ((intsOf s.data.toList).all (okD 10) = false) := ⟨by rw [all_ten]; exact hv⟩
      clear hv e0
      go_enter Tryz.func81, Tryz.ntmps81
      go_wp2_with fail
      refine (rDigits_calls _ _ hs _).mono ?_
      rintro e w1 ⟨rfl, rfl⟩
      rw [HV.out]
      go_wp2_with fail
      go_ret2
      exact ⟨ret_dec HN.out.1.symm HN.out.2.symm, rfl⟩
    · have hd := digits_yes s.data.toList (by simpa using hpos) hv
      have HV : Aside0 ((intsOf s.data.toList).all (okD 10) = true) := ⟨by rw [all_ten]; exact hv⟩
      have HV0 := Lib.hid hv
      clear hv
      cases hp : plainD s.data.toList
      · have HN := Lib.hid (plain_none s.data.toList most hp)
        have h2 : 1 < s.size ∧ (s[0]).toNat = 48 := by
          rw [plainD, hd, Bool.true_and, Bool.not_eq_false', Bool.and_eq_true, decide_eq_true_eq, e0] at hp
          refine ⟨by have := hp.1; simp at this; omega, ?_⟩
          have := hp.2
          simp at this
          rw [this]
          rfl
        obtain ⟨h1, h48⟩ := h2
        have q1 : (((s[0]).toNat : Int) == 48) = true := by simp [h48]
        clear hd e0 hp h48
        go_enter Tryz.func81, Tryz.ntmps81
        go_wp2_with fail
        refine (rDigits_calls _ _ hs _).mono ?_
        rintro e w1 ⟨rfl, rfl⟩
        rw [HV.out]
        go_wp2_with fail
        go_ret2
        exact ⟨ret_dec HN.out.1.symm HN.out.2.symm, rfl⟩
      · have hone : s.size = 1 ∨ (1 < s.size ∧ (((s[0]).toNat : Int) == 48) = false) := by
          rcases Nat.lt_or_ge 1 s.size with h1 | h1
          · right
            refine ⟨h1, ?_⟩
            rw [plainD, hd, Bool.true_and, Bool.not_eq_true', e0] at hp
            rw [show decide (1 < (s[0] :: s.data.toList.drop (0 + 1)).length) = true by simp; omega, Bool.true_and] at hp
            simp at hp ⊢
            intro h
            exact hp (UInt8.toNat_inj.1 (by rw [show (48 : UInt8).toNat = 48 from rfl]; omega))
          · left; omega
        have HB := Lib.hid (plain_big s.data.toList most)
        have HU := Lib.hid (plain_some s.data.toList most hp)
        clear hd e0 hp
        rcases hone with h1 | ⟨h1, q1⟩
        all_goals
          go_enter Tryz.func81, Tryz.ntmps81
          go_wp2_with fail
          refine (rDigits_calls _ _ hs _).mono ?_
          rintro e w1 ⟨rfl, rfl⟩
          rw [HV.out]
          go_wp2_with fail
          go_loop [6, 7] (fun n i => ∃ (j : Nat) (m : Int), i = .int .i64 j ∧ n = .int .i64 m ∧ j ≤ s.size ∧ 0 ≤ m ∧ m ≤ 9223372036854775807 ∧ Aside0 (accD m (intsOf (s.data.toList.drop j)) = decV s.data.toList) ∧ Aside0 ((intsOf (s.data.toList.drop j)).all isDig = true)) (fun _ i => s.size - (intOf i).toNat)
          case atStart => exact ⟨0, 0, rfl, rfl, by omega, by omega, by omega, ⟨rfl⟩, ⟨HV0.out⟩⟩
          case round =>
            obtain ⟨j, m, rfl, rfl, hj, hm0, hm1, hr, ha⟩ := hrel
            by_cases hlt : j < s.size
            · have hb := (s[j]'hlt).toNat_lt
              have Hst := Lib.hid (show intsOf (s.data.toList.drop j) = ((s[j]'hlt).toNat : Int) :: intsOf (s.data.toList.drop (j + 1)) by rw [drop_byte s j hlt]; rfl)
              have hk := ha.out
              rw [Hst.out, List.all_cons, Bool.and_eq_true, isDig_iff] at hk
              have HA := Lib.hid hk.2
              have hv := hk.1
              clear hk
              have HN := Lib.hid (show accD (10 * m + (((s[j]'hlt).toNat : Int) - 48)) (intsOf (s.data.toList.drop (j + 1))) = decV s.data.toList by rw [← hr.out, Hst.out, accD])
              have HM := Lib.hid (accD_mono (intsOf (s.data.toList.drop (j + 1))) (10 * m + (((s[j]'hlt).toNat : Int) - 48)) (by omega) HA.out)
              have hq : Int.tdiv (9223372036854775807 - (((s[j]'hlt).toNat : Int) - 48)) 10 = if ((s[j]'hlt).toNat : Int) - 48 ≤ 7 then 922337203685477580 else 922337203685477579 := by
                rw [Int.tdiv_eq_ediv_of_nonneg (by omega)]
                split <;> omega
              by_cases h7 : ((s[j]'hlt).toNat : Int) - 48 ≤ 7
              · rw [if_pos h7] at hq
                by_cases hbig : 10 * m + (((s[j]'hlt).toNat : Int) - 48) ≤ 9223372036854775807
                · go_wp2_with fail
                  exact ⟨⟨j + 1, _, by go_num, rfl, by omega, by omega, by omega, ⟨HN.out⟩, ⟨HA.out⟩⟩, by simp [intOf]; omega⟩
                · go_wp2_with fail
                  go_ret2
                  have this := HB.out (by have := HM.out; rw [HN.out] at this; omega)
                  exact ⟨ret_dec this.1.symm this.2.symm, rfl⟩
              · rw [if_neg h7] at hq
                by_cases hbig : 10 * m + (((s[j]'hlt).toNat : Int) - 48) ≤ 9223372036854775807
                · go_wp2_with fail
                  exact ⟨⟨j + 1, _, by go_num, rfl, by omega, by omega, by omega, ⟨HN.out⟩, ⟨HA.out⟩⟩, by simp [intOf]; omega⟩
                · go_wp2_with fail
                  go_ret2
                  have this := HB.out (by have := HM.out; rw [HN.out] at this; omega)
                  exact ⟨ret_dec this.1.symm this.2.symm, rfl⟩
            · have he := hr.out
              rw [List.drop_of_length_le (by simp; omega)] at he
              have HE := Lib.hid (show m = decV s.data.toList from he)
              clear he
              by_cases hle : m ≤ most
              · have HN := Lib.hid (HU.out (by rw [← HE.out]; exact hle))
                go_wp2_with fail
                go_ret2
                exact ⟨ret_dec (by rw [HN.out.1, HE.out]) HN.out.2.symm, rfl⟩
              · have HN := Lib.hid (HB.out (by rw [← HE.out]; omega))
                go_wp2_with fail
                go_ret2
                exact ⟨ret_dec HN.out.1.symm HN.out.2.symm, rfl⟩
  · have hz : s.size = 0 := by omega
    have h0 : s.data.toList = [] := List.eq_nil_of_length_eq_zero (by simpa using hz)
    have HN := Lib.hid (plain_none s.data.toList most (by rw [h0]; rfl))
    clear h0 hpos
    go_enter Tryz.func81, Tryz.ntmps81
    go_wp2_with fail
    go_ret2
    exact ⟨ret_dec HN.out.1.symm HN.out.2.symm, rfl⟩
end Go.Proofs.YtfieiigefllekaaGreatDoor
