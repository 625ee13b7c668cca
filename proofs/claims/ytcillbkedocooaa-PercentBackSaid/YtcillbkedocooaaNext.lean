/- The document's next, Is, Scalars: the same code points as the model's range. -/
import Derived.Test.YtcillbkedocooaaBase
import Derived.Test.YtcillbkedocooaaDeco
namespace Go.Proofs.Ytcillbkedocooaa
open Go.RowKit Go.Proofs.YtcillbkedocooaaW.PrintWords Go.Proofs.YtcillbkedocooaaW.PrintMore

/-- Is it a code point? -/
def isR (r : Int) : Bool := decide (0 ≤ r) && decide (r ≤ 1114111) && (decide (r < 55296) || decide (57343 < r))

set_option maxHeartbeats 400000 in
theorem Is_calls (r : Int) (w : World) : Calls Try.prog 37 #[.int .i32 r] w fun e w' => e = .returned (.bool (isR r)) ∧ w = w' := by
  by_cases h1 : 0 ≤ r
  · by_cases h2 : r ≤ 1114111
    · by_cases h3 : r < 55296
      · go_enter Try.func37, Try.ntmps37
        go_wp2
        go_ret
        exact ⟨ret_bool (by simp [isR, h1, h2, h3]), rfl⟩
      · go_enter Try.func37, Try.ntmps37
        go_wp2
        go_ret
        exact ⟨ret_bool (by simp [isR, h1, h2]; omega), rfl⟩
    · go_enter Try.func37, Try.ntmps37
      go_wp2
      go_ret
      exact ⟨ret_bool (by simp [isR, h1]; omega), rfl⟩
  · go_enter Try.func37, Try.ntmps37
    go_wp2
    go_ret
    exact ⟨ret_bool (by simp [isR]; omega), rfl⟩

/-- The byte behind place i by k, as a number; 0 behind the end. -/
def bAt (s : ByteArray) (j : Nat) : Int := if h : j < s.size then ((s[j]'h).toNat : Int) else 0
theorem bAt_eq (s : ByteArray) (j : Nat) (h : j < s.size) : ((s[j]'h).toNat : Int) = bAt s j := by simp [bAt, h]
theorem bAt_bd (s : ByteArray) (j : Nat) : 0 ≤ bAt s j ∧ bAt s j ≤ 255 := by
  unfold bAt
  split
  · rename_i h
    have := (s[j]'h).toNat_lt
    omega
  · omega
/-- The value after k bytes. -/
def rvn (s : ByteArray) (i : Nat) (B : Int) : Nat → Int
  | 0 => 0
  | 1 => bAt s i - B
  | k + 2 => rvn s i B (k + 1) * 64 + bAt s (i + k + 1) - 128
theorem rvn_step (s : ByteArray) (i : Nat) (B : Int) (k : Nat) (h : 1 ≤ k) : rvn s i B (k + 1) = rvn s i B k * 64 + bAt s (i + k) - 128 := by
  obtain ⟨k, rfl⟩ : ∃ m, k = m + 1 := ⟨k - 1, by omega⟩
  rfl
/-- The bytes behind place i up to k are in the middle range. -/
def mid (s : ByteArray) (i k : Nat) : Prop := ∀ m, 1 ≤ m → m < k → 128 ≤ bAt s (i + m) ∧ bAt s (i + m) < 192
theorem mid_step {s : ByteArray} {i k : Nat} (h : mid s i k) (hk : 128 ≤ bAt s (i + k) ∧ bAt s (i + k) < 192) : mid s i (k + 1) := by
  intro m h1 h2
  rcases Nat.lt_or_ge m k with h3 | h3
  · exact h m h1 h3
  · obtain rfl : m = k := by omega
    exact hk
/-- How great the value may be. -/
theorem rvn_bd (s : ByteArray) (i : Nat) (B M : Int) (hB : 0 ≤ bAt s i - B) (hM : bAt s i - B ≤ M) (hM2 : M ≤ 31) (k : Nat) (hk : 1 ≤ k) (hk4 : k ≤ 4) (hm : mid s i k) :
    0 ≤ rvn s i B k ∧ rvn s i B k ≤ (if k = 1 then 31 else if k = 2 then 2047 else if k = 3 then 131071 else 8388607) := by
  have h1 : 0 ≤ rvn s i B 1 ∧ rvn s i B 1 ≤ 31 := by show 0 ≤ bAt s i - B ∧ bAt s i - B ≤ 31; omega
  rcases (show k = 1 ∨ k = 2 ∨ k = 3 ∨ k = 4 by omega) with rfl | rfl | rfl | rfl
  · exact h1
  · have a := hm 1 (by omega) (by omega)
    have e : rvn s i B 2 = rvn s i B 1 * 64 + bAt s (i + 1) - 128 := rvn_step s i B 1 (by omega)
    refine ⟨by omega, ?_⟩
    simp; omega
  · have a := hm 1 (by omega) (by omega)
    have b := hm 2 (by omega) (by omega)
    have e : rvn s i B 2 = rvn s i B 1 * 64 + bAt s (i + 1) - 128 := rvn_step s i B 1 (by omega)
    have e2 : rvn s i B 3 = rvn s i B 2 * 64 + bAt s (i + 2) - 128 := rvn_step s i B 2 (by omega)
    refine ⟨by omega, ?_⟩
    simp; omega
  · have a := hm 1 (by omega) (by omega)
    have b := hm 2 (by omega) (by omega)
    have c := hm 3 (by omega) (by omega)
    have e : rvn s i B 2 = rvn s i B 1 * 64 + bAt s (i + 1) - 128 := rvn_step s i B 1 (by omega)
    have e2 : rvn s i B 3 = rvn s i B 2 * 64 + bAt s (i + 2) - 128 := rvn_step s i B 2 (by omega)
    have e3 : rvn s i B 4 = rvn s i B 3 * 64 + bAt s (i + 3) - 128 := rvn_step s i B 3 (by omega)
    refine ⟨by omega, ?_⟩
    simp; omega

theorem ret_next {a b : Int} {n m : Int} (h : a = b) (h' : n = m) : Ending.returned (.tuple #[.int .i32 a, .int .i64 n]) = .returned (.tuple #[.int .i32 b, .int .i64 m]) := by rw [h, h']

theorem ret_bad {s : ByteArray} {i : Nat} (h : Utf8.decode s i = (65533, 1)) : Ending.returned (.tuple #[.int .i32 65533, .int .i64 1]) = .returned (.tuple #[.int .i32 (Utf8.decode s i).1, .int .i64 (Utf8.decode s i).2]) := by rw [h]; rfl

/-- What the loop is for a head of n bytes: its parameters stand for the three classes. -/
structure Class (s : ByteArray) (i : Nat) (B L : Int) (n : Nat) : Prop where
  short : s.size < i + n → Utf8.decode s i = (65533, 1)
  bad : ∀ k, 1 ≤ k → k < n → i + n ≤ s.size → (bAt s (i + k) < 128 ∨ 192 ≤ bAt s (i + k)) → Utf8.decode s i = (65533, 1)
  low : i + n ≤ s.size → mid s i n → rvn s i B n < L → Utf8.decode s i = (65533, 1)
  off : i + n ≤ s.size → mid s i n → L ≤ rvn s i B n → isR (rvn s i B n) = false → Utf8.decode s i = (65533, 1)
  good : i + n ≤ s.size → mid s i n → L ≤ rvn s i B n → isR (rvn s i B n) = true → ((Utf8.decode s i).1 : Int) = rvn s i B n ∧ (Utf8.decode s i).2 = n

theorem class2 (s : ByteArray) (i : Nat) (hi : i < s.size) (h1 : 192 ≤ bAt s i) (h2 : bAt s i < 224) : Class s i 192 128 2 := by
  rw [← bAt_eq s i hi] at h1 h2
  refine ⟨fun h => deco2_bad s i hi (by omega) (by omega) (fun h' => absurd h' (by omega)), fun k hk hk2 hn hb => ?_, fun hn hm hl => ?_, fun hn hm hl ho => ?_, fun hn hm hl ho => ?_⟩
  · obtain rfl : k = 1 := by omega
    rw [← bAt_eq s (i + 1) (by omega)] at hb
    exact deco2_bad s i hi (by omega) (by omega) (fun _ => by omega)
  all_goals
    have a := hm 1 (by omega) (by omega)
    have e : rvn s i 192 2 = (bAt s i - 192) * 64 + bAt s (i + 1) - 128 := rfl
    rw [← bAt_eq s i hi, ← bAt_eq s (i + 1) (by omega)] at e
    rw [← bAt_eq s (i + 1) (by omega)] at a
    have d := deco2 s i (by omega) (by omega) (by omega) (by omega) (by omega)
  · rw [d, if_pos (by omega)]
  · simp [isR] at ho
    omega
  · rw [d, if_neg (by omega)]
    exact ⟨by simp only; omega, rfl⟩
theorem class3 (s : ByteArray) (i : Nat) (hi : i < s.size) (h1 : 224 ≤ bAt s i) (h2 : bAt s i < 240) : Class s i 224 2048 3 := by
  rw [← bAt_eq s i hi] at h1 h2
  refine ⟨fun h => deco3_bad s i hi (by omega) (by omega) (.inr fun h' => absurd h' (by omega)), fun k hk hk2 hn hb => ?_, fun hn hm hl => ?_, fun hn hm hl ho => ?_, fun hn hm hl ho => ?_⟩
  · rcases (show k = 1 ∨ k = 2 by omega) with rfl | rfl
    · rw [← bAt_eq s (i + 1) (by omega)] at hb
      exact deco3_bad s i hi (by omega) (by omega) (.inl fun _ => by omega)
    · rw [← bAt_eq s (i + 2) (by omega)] at hb
      exact deco3_bad s i hi (by omega) (by omega) (.inr fun _ => by omega)
  all_goals
    have a := hm 1 (by omega) (by omega)
    have b := hm 2 (by omega) (by omega)
    have e : rvn s i 224 3 = ((bAt s i - 224) * 64 + bAt s (i + 1) - 128) * 64 + bAt s (i + 2) - 128 := rfl
    rw [← bAt_eq s i hi, ← bAt_eq s (i + 1) (by omega), ← bAt_eq s (i + 2) (by omega)] at e
    rw [← bAt_eq s (i + 1) (by omega)] at a
    rw [← bAt_eq s (i + 2) (by omega)] at b
    have d := deco3 s i (by omega) (by omega) (by omega) (by omega) (by omega) (by omega) (by omega) _ rfl
  · rw [d, if_pos (by omega)]
  · rw [d, if_pos (by simp [isR] at ho; omega)]
  · rw [d, if_neg (by simp [isR] at ho; omega)]
    exact ⟨by simp only; omega, rfl⟩
theorem class4 (s : ByteArray) (i : Nat) (hi : i < s.size) (h1 : 240 ≤ bAt s i) (h2 : bAt s i < 248) : Class s i 240 65536 4 := by
  rw [← bAt_eq s i hi] at h1 h2
  refine ⟨fun h => deco4_bad s i hi (by omega) (by omega) (.inr (.inr fun h' => absurd h' (by omega))), fun k hk hk2 hn hb => ?_, fun hn hm hl => ?_, fun hn hm hl ho => ?_, fun hn hm hl ho => ?_⟩
  · rcases (show k = 1 ∨ k = 2 ∨ k = 3 by omega) with rfl | rfl | rfl
    · rw [← bAt_eq s (i + 1) (by omega)] at hb
      exact deco4_bad s i hi (by omega) (by omega) (.inl fun _ => by omega)
    · rw [← bAt_eq s (i + 2) (by omega)] at hb
      exact deco4_bad s i hi (by omega) (by omega) (.inr (.inl fun _ => by omega))
    · rw [← bAt_eq s (i + 3) (by omega)] at hb
      exact deco4_bad s i hi (by omega) (by omega) (.inr (.inr fun _ => by omega))
  all_goals
    have a := hm 1 (by omega) (by omega)
    have b := hm 2 (by omega) (by omega)
    have c := hm 3 (by omega) (by omega)
    have e : rvn s i 240 4 = (((bAt s i - 240) * 64 + bAt s (i + 1) - 128) * 64 + bAt s (i + 2) - 128) * 64 + bAt s (i + 3) - 128 := rfl
    rw [← bAt_eq s i hi, ← bAt_eq s (i + 1) (by omega), ← bAt_eq s (i + 2) (by omega), ← bAt_eq s (i + 3) (by omega)] at e
    rw [← bAt_eq s (i + 1) (by omega)] at a
    rw [← bAt_eq s (i + 2) (by omega)] at b
    rw [← bAt_eq s (i + 3) (by omega)] at c
    have d := deco4 s i (by omega) (by omega) (by omega) (by omega) (by omega) (by omega) (by omega) (by omega) (by omega) _ rfl
  · rw [d, if_pos (by omega)]
  · rw [d, if_pos (by simp [isR] at ho; omega)]
  · rw [d, if_neg (by simp [isR] at ho; omega)]
    exact ⟨by simp only; omega, rfl⟩

set_option maxHeartbeats 4000000 in
set_option maxRecDepth 100000 in
theorem next_class2 (s : ByteArray) (i : Nat) (hi : i < s.size) (hs : s.size ≤ 1000000) (h1 : 192 ≤ bAt s i) (h2 : bAt s i < 224) (w : World) :
    Calls Try.prog 33 #[.string s, .int .i64 i] w fun e w' => e = .returned (.tuple #[.int .i32 (Utf8.decode s i).1, .int .i64 (Utf8.decode s i).2]) ∧ w = w' := by
  have C := Lib.hid (class2 s i hi h1 h2)
  have b1 : 192 ≤ (s[i]'hi).toNat := by have := bAt_eq s i hi; omega
  have b2 : (s[i]'hi).toNat < 224 := by have := bAt_eq s i hi; omega
  have d0 : decide (((s[i]'hi).toNat : Int) < 128) = false := by simp; omega
  have d1 : decide (192 ≤ ((s[i]'hi).toNat : Int)) = true := by simp; omega
  have d2 : decide (((s[i]'hi).toNat : Int) < 224) = true := by simp; omega
  have d3 : decide (224 ≤ ((s[i]'hi).toNat : Int)) = false := by simp; omega
  have d4 : decide (((s[i]'hi).toNat : Int) < 240) = true := by simp; omega
  have d5 : decide (240 ≤ ((s[i]'hi).toNat : Int)) = false := by simp; omega
  have d6 : decide (((s[i]'hi).toNat : Int) < 248) = true := by simp; omega
  by_cases hn : i + 2 ≤ s.size
  · go_enter Try.func33, Try.ntmps33
    go_wp2
    go_loop [9, 10] (fun r k => ∃ j : Nat, 1 ≤ j ∧ j ≤ 2 ∧ k = .int .i64 j ∧ r = .int .i32 (rvn s i 192 j) ∧ Aside0 (mid s i j)) (fun _ k => 2 - (intOf k).toNat)
    case atStart =>
      refine ⟨1, by omega, by omega, rfl, ?_, ⟨fun m h1 h2 => absurd h2 (by omega)⟩⟩
      rw [rvn, ← bAt_eq s i hi]
    case round =>
      obtain ⟨j, hj1, hj2, rfl, rfl, hm⟩ := hrel
      have hbd := rvn_bd s i 192 31 (by omega) (by omega) (by omega) j hj1 (by omega) hm.out
      by_cases hlt : j < 2
      · have hx : i + j < s.size := by omega
        have hbj := bAt_eq s (i + j) hx
        have hb255 := (s[i + j]'hx).toNat_lt
        have hr1 : 0 ≤ rvn s i 192 j ∧ rvn s i 192 j ≤ 131071 := by
          refine ⟨hbd.1, Int.le_trans hbd.2 ?_⟩
          split
          · omega
          · split
            · omega
            · split <;> omega
        have Hst := Lib.hid (rvn_step s i 192 j hj1)
        have Hbj := Lib.hid hbj
        clear hbd hbj
        by_cases hlo : (s[i + j]'hx).toNat < 128
        · have HB := Lib.hid (C.out.bad j hj1 hlt hn (.inl (by have := Hbj.out; omega)))
          go_wp2
          go_ret2
          exact ⟨ret_bad HB.out, rfl⟩
        · by_cases hhi : 192 ≤ (s[i + j]'hx).toNat
          · have HB := Lib.hid (C.out.bad j hj1 hlt hn (.inr (by have := Hbj.out; omega)))
            go_wp2
            go_ret2
            exact ⟨ret_bad HB.out, rfl⟩
          · go_wp2
            refine ⟨⟨j + 1, by omega, by omega, by go_num, ?_, ⟨mid_step hm.out ?_⟩⟩, by simp [intOf]; omega⟩
            · rw [Hst.out, ← Hbj.out]
            · have := Hbj.out; omega
      · obtain rfl : j = 2 := by omega
        have hr1 : 0 ≤ rvn s i 192 2 ∧ rvn s i 192 2 ≤ 8388607 := ⟨hbd.1, Int.le_trans hbd.2 (by decide)⟩
        clear hbd
        by_cases hL : rvn s i 192 2 < 128
        · have HB := Lib.hid (C.out.low hn hm.out hL)
          go_wp2
          go_ret2
          exact ⟨ret_bad HB.out, rfl⟩
        · go_wp2_with fail
          refine (Is_calls _ _).mono ?_
          rintro e w1 ⟨rfl, rfl⟩
          cases hI : isR (rvn s i 192 2)
          · have HB := Lib.hid (C.out.off hn hm.out (by omega) hI)
            clear hI
            go_wp2
            go_ret2
            exact ⟨ret_bad HB.out, rfl⟩
          · have HB := Lib.hid (C.out.good hn hm.out (by omega) hI)
            clear hI
            go_wp2
            go_ret2
            exact ⟨ret_next HB.out.1.symm (by rw [HB.out.2]; rfl), rfl⟩
  · have HB := Lib.hid (C.out.short (by omega))
    go_enter Try.func33, Try.ntmps33
    go_wp2
    go_ret2
    exact ⟨ret_bad HB.out, rfl⟩

set_option maxHeartbeats 4000000 in
set_option maxRecDepth 100000 in
theorem next_class3 (s : ByteArray) (i : Nat) (hi : i < s.size) (hs : s.size ≤ 1000000) (h1 : 224 ≤ bAt s i) (h2 : bAt s i < 240) (w : World) :
    Calls Try.prog 33 #[.string s, .int .i64 i] w fun e w' => e = .returned (.tuple #[.int .i32 (Utf8.decode s i).1, .int .i64 (Utf8.decode s i).2]) ∧ w = w' := by
  have C := Lib.hid (class3 s i hi h1 h2)
  have b1 : 224 ≤ (s[i]'hi).toNat := by have := bAt_eq s i hi; omega
  have b2 : (s[i]'hi).toNat < 240 := by have := bAt_eq s i hi; omega
  have d0 : decide (((s[i]'hi).toNat : Int) < 128) = false := by simp; omega
  have d1 : decide (192 ≤ ((s[i]'hi).toNat : Int)) = true := by simp; omega
  have d2 : decide (((s[i]'hi).toNat : Int) < 224) = false := by simp; omega
  have d3 : decide (224 ≤ ((s[i]'hi).toNat : Int)) = true := by simp; omega
  have d4 : decide (((s[i]'hi).toNat : Int) < 240) = true := by simp; omega
  have d5 : decide (240 ≤ ((s[i]'hi).toNat : Int)) = false := by simp; omega
  have d6 : decide (((s[i]'hi).toNat : Int) < 248) = true := by simp; omega
  by_cases hn : i + 3 ≤ s.size
  · go_enter Try.func33, Try.ntmps33
    go_wp2
    go_loop [9, 10] (fun r k => ∃ j : Nat, 1 ≤ j ∧ j ≤ 3 ∧ k = .int .i64 j ∧ r = .int .i32 (rvn s i 224 j) ∧ Aside0 (mid s i j)) (fun _ k => 3 - (intOf k).toNat)
    case atStart =>
      refine ⟨1, by omega, by omega, rfl, ?_, ⟨fun m h1 h2 => absurd h2 (by omega)⟩⟩
      rw [rvn, ← bAt_eq s i hi]
    case round =>
      obtain ⟨j, hj1, hj2, rfl, rfl, hm⟩ := hrel
      have hbd := rvn_bd s i 224 31 (by omega) (by omega) (by omega) j hj1 (by omega) hm.out
      by_cases hlt : j < 3
      · have hx : i + j < s.size := by omega
        have hbj := bAt_eq s (i + j) hx
        have hb255 := (s[i + j]'hx).toNat_lt
        have hr1 : 0 ≤ rvn s i 224 j ∧ rvn s i 224 j ≤ 131071 := by
          refine ⟨hbd.1, Int.le_trans hbd.2 ?_⟩
          split
          · omega
          · split
            · omega
            · split <;> omega
        have Hst := Lib.hid (rvn_step s i 224 j hj1)
        have Hbj := Lib.hid hbj
        clear hbd hbj
        by_cases hlo : (s[i + j]'hx).toNat < 128
        · have HB := Lib.hid (C.out.bad j hj1 hlt hn (.inl (by have := Hbj.out; omega)))
          go_wp2
          go_ret2
          exact ⟨ret_bad HB.out, rfl⟩
        · by_cases hhi : 192 ≤ (s[i + j]'hx).toNat
          · have HB := Lib.hid (C.out.bad j hj1 hlt hn (.inr (by have := Hbj.out; omega)))
            go_wp2
            go_ret2
            exact ⟨ret_bad HB.out, rfl⟩
          · go_wp2
            refine ⟨⟨j + 1, by omega, by omega, by go_num, ?_, ⟨mid_step hm.out ?_⟩⟩, by simp [intOf]; omega⟩
            · rw [Hst.out, ← Hbj.out]
            · have := Hbj.out; omega
      · obtain rfl : j = 3 := by omega
        have hr1 : 0 ≤ rvn s i 224 3 ∧ rvn s i 224 3 ≤ 8388607 := ⟨hbd.1, Int.le_trans hbd.2 (by decide)⟩
        clear hbd
        by_cases hL : rvn s i 224 3 < 2048
        · have HB := Lib.hid (C.out.low hn hm.out hL)
          go_wp2
          go_ret2
          exact ⟨ret_bad HB.out, rfl⟩
        · go_wp2_with fail
          refine (Is_calls _ _).mono ?_
          rintro e w1 ⟨rfl, rfl⟩
          cases hI : isR (rvn s i 224 3)
          · have HB := Lib.hid (C.out.off hn hm.out (by omega) hI)
            clear hI
            go_wp2
            go_ret2
            exact ⟨ret_bad HB.out, rfl⟩
          · have HB := Lib.hid (C.out.good hn hm.out (by omega) hI)
            clear hI
            go_wp2
            go_ret2
            exact ⟨ret_next HB.out.1.symm (by rw [HB.out.2]; rfl), rfl⟩
  · have HB := Lib.hid (C.out.short (by omega))
    go_enter Try.func33, Try.ntmps33
    go_wp2
    go_ret2
    exact ⟨ret_bad HB.out, rfl⟩

set_option maxHeartbeats 4000000 in
set_option maxRecDepth 100000 in
theorem next_class4 (s : ByteArray) (i : Nat) (hi : i < s.size) (hs : s.size ≤ 1000000) (h1 : 240 ≤ bAt s i) (h2 : bAt s i < 248) (w : World) :
    Calls Try.prog 33 #[.string s, .int .i64 i] w fun e w' => e = .returned (.tuple #[.int .i32 (Utf8.decode s i).1, .int .i64 (Utf8.decode s i).2]) ∧ w = w' := by
  have C := Lib.hid (class4 s i hi h1 h2)
  have b1 : 240 ≤ (s[i]'hi).toNat := by have := bAt_eq s i hi; omega
  have b2 : (s[i]'hi).toNat < 248 := by have := bAt_eq s i hi; omega
  have d0 : decide (((s[i]'hi).toNat : Int) < 128) = false := by simp; omega
  have d1 : decide (192 ≤ ((s[i]'hi).toNat : Int)) = true := by simp; omega
  have d2 : decide (((s[i]'hi).toNat : Int) < 224) = false := by simp; omega
  have d3 : decide (224 ≤ ((s[i]'hi).toNat : Int)) = true := by simp; omega
  have d4 : decide (((s[i]'hi).toNat : Int) < 240) = false := by simp; omega
  have d5 : decide (240 ≤ ((s[i]'hi).toNat : Int)) = true := by simp; omega
  have d6 : decide (((s[i]'hi).toNat : Int) < 248) = true := by simp; omega
  by_cases hn : i + 4 ≤ s.size
  · go_enter Try.func33, Try.ntmps33
    go_wp2
    go_loop [9, 10] (fun r k => ∃ j : Nat, 1 ≤ j ∧ j ≤ 4 ∧ k = .int .i64 j ∧ r = .int .i32 (rvn s i 240 j) ∧ Aside0 (mid s i j)) (fun _ k => 4 - (intOf k).toNat)
    case atStart =>
      refine ⟨1, by omega, by omega, rfl, ?_, ⟨fun m h1 h2 => absurd h2 (by omega)⟩⟩
      rw [rvn, ← bAt_eq s i hi]
    case round =>
      obtain ⟨j, hj1, hj2, rfl, rfl, hm⟩ := hrel
      have hbd := rvn_bd s i 240 31 (by omega) (by omega) (by omega) j hj1 (by omega) hm.out
      by_cases hlt : j < 4
      · have hx : i + j < s.size := by omega
        have hbj := bAt_eq s (i + j) hx
        have hb255 := (s[i + j]'hx).toNat_lt
        have hr1 : 0 ≤ rvn s i 240 j ∧ rvn s i 240 j ≤ 131071 := by
          refine ⟨hbd.1, Int.le_trans hbd.2 ?_⟩
          split
          · omega
          · split
            · omega
            · split <;> omega
        have Hst := Lib.hid (rvn_step s i 240 j hj1)
        have Hbj := Lib.hid hbj
        clear hbd hbj
        by_cases hlo : (s[i + j]'hx).toNat < 128
        · have HB := Lib.hid (C.out.bad j hj1 hlt hn (.inl (by have := Hbj.out; omega)))
          go_wp2
          go_ret2
          exact ⟨ret_bad HB.out, rfl⟩
        · by_cases hhi : 192 ≤ (s[i + j]'hx).toNat
          · have HB := Lib.hid (C.out.bad j hj1 hlt hn (.inr (by have := Hbj.out; omega)))
            go_wp2
            go_ret2
            exact ⟨ret_bad HB.out, rfl⟩
          · go_wp2
            refine ⟨⟨j + 1, by omega, by omega, by go_num, ?_, ⟨mid_step hm.out ?_⟩⟩, by simp [intOf]; omega⟩
            · rw [Hst.out, ← Hbj.out]
            · have := Hbj.out; omega
      · obtain rfl : j = 4 := by omega
        have hr1 : 0 ≤ rvn s i 240 4 ∧ rvn s i 240 4 ≤ 8388607 := ⟨hbd.1, Int.le_trans hbd.2 (by decide)⟩
        clear hbd
        by_cases hL : rvn s i 240 4 < 65536
        · have HB := Lib.hid (C.out.low hn hm.out hL)
          go_wp2
          go_ret2
          exact ⟨ret_bad HB.out, rfl⟩
        · go_wp2_with fail
          refine (Is_calls _ _).mono ?_
          rintro e w1 ⟨rfl, rfl⟩
          cases hI : isR (rvn s i 240 4)
          · have HB := Lib.hid (C.out.off hn hm.out (by omega) hI)
            clear hI
            go_wp2
            go_ret2
            exact ⟨ret_bad HB.out, rfl⟩
          · have HB := Lib.hid (C.out.good hn hm.out (by omega) hI)
            clear hI
            go_wp2
            go_ret2
            exact ⟨ret_next HB.out.1.symm (by rw [HB.out.2]; rfl), rfl⟩
  · have HB := Lib.hid (C.out.short (by omega))
    go_enter Try.func33, Try.ntmps33
    go_wp2
    go_ret2
    exact ⟨ret_bad HB.out, rfl⟩

set_option maxHeartbeats 1000000 in
set_option maxRecDepth 100000 in
theorem next_calls (s : ByteArray) (i : Nat) (hi : i < s.size) (hs : s.size ≤ 1000000) (w : World) :
    Calls Try.prog 33 #[.string s, .int .i64 i] w fun e w' => e = .returned (.tuple #[.int .i32 (Utf8.decode s i).1, .int .i64 (Utf8.decode s i).2]) ∧ w = w' := by
  have hb := bAt_eq s i hi
  have hb2 := bAt_bd s i
  by_cases h1 : (s[i]'hi).toNat < 128
  · have HB := Lib.hid (decode_ascii s i hi h1)
    clear hb
    go_enter Try.func33, Try.ntmps33
    go_wp2
    go_ret2
    exact ⟨ret_next (by rw [HB.out]; try rfl) (by rw [HB.out]; rfl), rfl⟩
  · by_cases h2 : (s[i]'hi).toNat < 192
    · have HB := Lib.hid (deco_none s i hi (.inl ⟨by omega, h2⟩))
      clear hb
      go_enter Try.func33, Try.ntmps33
      go_wp2
      go_ret2
      exact ⟨ret_bad HB.out, rfl⟩
    · by_cases h3 : (s[i]'hi).toNat < 224
      · exact next_class2 s i hi hs (by omega) (by omega) w
      · by_cases h4 : (s[i]'hi).toNat < 240
        · exact next_class3 s i hi hs (by omega) (by omega) w
        · by_cases h5 : (s[i]'hi).toNat < 248
          · exact next_class4 s i hi hs (by omega) (by omega) w
          · have HB := Lib.hid (deco_none s i hi (.inr (by omega)))
            have h6 := (s[i]'hi).toNat_lt
            clear hb
            go_enter Try.func33, Try.ntmps33
            go_wp2
            go_ret2
            exact ⟨ret_bad HB.out, rfl⟩
end Go.Proofs.Ytcillbkedocooaa
