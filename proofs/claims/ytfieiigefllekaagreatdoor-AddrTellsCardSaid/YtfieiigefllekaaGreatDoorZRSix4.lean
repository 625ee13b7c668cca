/- The document's Pieces, hex, join and zeros of an address of eight pieces, walked. -/
import Derived.Test.YtfieiigefllekaaGreatDoorJK
import Derived.Test.YtfieiigefllekaaGreatDoorJH
namespace Go.Proofs.YtfieiigefllekaaGreatDoor
open Go.RowKit Go.Proofs.YtfieiigefllekaaGreatDoorW.PrintWords Go.Proofs.YtfieiigefllekaaGreatDoorW.PrintMore

theorem hexB_small (n : Nat) (h : n < 16) (D : ByteArray) (hD : D = ⟨#[48, 49, 50, 51, 52, 53, 54, 55, 56, 57, 97, 98, 99, 100, 101, 102]⟩) : D.extract n (n + 1) = hexB (n : Int) := by
  subst hD
  have : ∀ k : Fin 16, (ByteArray.mk #[48, 49, 50, 51, 52, 53, 54, 55, 56, 57, 97, 98, 99, 100, 101, 102]).extract k.val (k.val + 1) = hexB (k.val : Int) := by decide +kernel
  exact this ⟨n, h⟩
theorem hexB_big (n : Nat) (h : ¬ n < 16) : hexB ((n : Int) / 16) ++ hexB ((n : Int) % 16) = hexB (n : Int) := by
  have h1 : ((n : Int) / 16).toNat = n / 16 := by omega
  have h2 : ((n : Int) % 16).toNat = n % 16 := by omega
  rw [hexB, hexB, hexB, h1, h2, Int.toNat_natCast, digB_big (b := 16) (u := n) (by omega) (by omega), digB_small (Nat.mod_lt n (by omega))]
  apply ByteArray.ext
  simp

set_option maxHeartbeats 2000000 in
theorem rhex_calls (n : Nat) (hn : n ≤ 65535) (w : World) : Calls Tryz.prog 99 #[.int .i64 n] w fun e w' => e = .returned (.string (hexB n)) ∧ w' = w := by
  induction n using Nat.strongRecOn with
  | _ n ih =>
    by_cases h : n < 16
    · have E := Lib.hid (hexB_small n h _ rfl)
      go_enter Tryz.func99, Tryz.ntmps99
      go_wp2_with fail
      go_ret
      exact ⟨ret_string E.out, rfl⟩
    · have E := Lib.hid (hexB_big n h)
      have i1 := ih (n / 16) (by omega) (by omega)
      have i2 := ih (n % 16) (by omega) (by omega)
      rw [show ((n / 16 : Nat) : Int) = (n : Int) / 16 by omega] at i1
      rw [show ((n % 16 : Nat) : Int) = (n : Int) % 16 by omega] at i2
      have z1 := hexB_size ((n : Int) / 16) (by omega)
      have z2 := hexB_size ((n : Int) % 16) (by omega)
      have I1 := Aside0.mk i1
      have I2 := Aside0.mk i2
      clear ih i1 i2
      go_enter Tryz.func99, Tryz.ntmps99
      go_wp2_with fail
      refine I1.out.mono ?_
      rintro e w1 ⟨rfl, rfl⟩
      go_wp2_with fail
      refine I2.out.mono ?_
      rintro e w2 ⟨rfl, rfl⟩
      go_wp2_with fail
      go_ret
      exact ⟨ret_string E.out, rfl⟩
theorem rhexI_calls (x : Int) (h0 : 0 ≤ x) (h1 : x ≤ 65535) (w : World) : Calls Tryz.prog 99 #[.int .i64 x] w fun e w' => e = .returned (.string (hexB x)) ∧ w' = w := by
  have h := rhex_calls x.toNat (by omega) w
  rwa [Int.toNat_of_nonneg h0] at h
theorem words_snoc : ∀ (xs : List Int) (x : Int), xs ≠ [] → wordsL (xs ++ [x]) = wordsL xs ++ 58 :: digB 16 x.toNat
  | [], _, h => absurd rfl h
  | [y], x, _ => by
    rw [List.singleton_append, words_cons, words_one, words_one]
  | y :: z :: ys, x, _ => by
    rw [List.cons_append, List.cons_append, words_cons, words_cons, ← List.cons_append, words_snoc (z :: ys) x (by simp)]
    simp
theorem zrun_on (xs : List Int) : ∀ (j f : Nat), j ≤ zrun (xs.drop f) → f + j < xs.length → (xs.getD (f + j) 0 = 0 → j + 1 ≤ zrun (xs.drop f)) ∧ (xs.getD (f + j) 0 ≠ 0 → zrun (xs.drop f) = j)
  | 0, f, _, hl => by
    rw [Nat.add_zero] at hl ⊢
    rw [zrun_step xs f hl]
    constructor
    · intro h
      rw [if_pos h]
      omega
    · intro h
      rw [if_neg h]
  | j + 1, f, h, hl => by
    have hs := zrun_step xs f (by omega)
    by_cases h0 : xs.getD f 0 = 0
    · rw [if_pos h0] at hs
      have ih := zrun_on xs j (f + 1) (by omega) (by omega)
      rw [show f + 1 + j = f + (j + 1) by omega] at ih
      constructor
      · intro hx
        have := ih.1 hx
        omega
      · intro hx
        have := ih.2 hx
        omega
    · rw [if_neg h0] at hs
      omega
/-- The pieces, so far. -/
def PcP (hi lo k x y : Int) (ys : List Int) : Prop :=
  (k = 3 ∧ x = hi ∧ y = lo ∧ ys = [0, 0, 0, 0, 0, 0, 0, 0]) ∨
  (k = 2 ∧ x = hi / 65536 ∧ y = lo / 65536 ∧ ys = [0, 0, 0, hi % 65536, 0, 0, 0, lo % 65536]) ∨
  (k = 1 ∧ x = hi / 4294967296 ∧ y = lo / 4294967296 ∧ ys = [0, 0, hi / 65536 % 65536, hi % 65536, 0, 0, lo / 65536 % 65536, lo % 65536]) ∨
  (k = 0 ∧ x = hi / 281474976710656 ∧ y = lo / 281474976710656 ∧ ys = [0, hi / 4294967296 % 65536, hi / 65536 % 65536, hi % 65536, 0, lo / 4294967296 % 65536, lo / 65536 % 65536, lo % 65536]) ∨
  (k = -1 ∧ ys = piecesOf hi lo)

set_option maxHeartbeats 4000000 in
theorem rPieces5_calls (hi lo : Int) (h0 : 0 ≤ hi ∧ hi < 18446744073709551616) (h1 : 0 ≤ lo ∧ lo < 18446744073709551616) (w : World) :
    Calls Tryz.prog 18 #[.int .u64 hi, .int .u64 lo] w fun e w' => ∃ g cap, e = .returned (.slice (some ⟨g, 0, none⟩) 8 cap) ∧ 8 ≤ cap ∧ w.heap.size ≤ g ∧ Kd.R (Kd.int .i64) 3 w' w.heap.size (fun _ => True) (.slice (some ⟨g, 0, none⟩) 8 cap) (piecesOf hi lo) ∧ Below w.heap.size w w' := by
  go_enter Tryz.func18, Tryz.ntmps18
  go_wp2_with (at_make; refine Kd.R_make (Kd.int .i64) (w0 := w) w.heap.size 3 rfl rfl 34 (.const (.int .i64 8)) (.const (.int .i64 8)) rfl 8 rfl rfl Tryz.underlying34 (.int .i64 0) 8 info_int rfl (by decide) (by omega) 0 (ok := fun _ => True) (okp := fun _ => True) rfl (fun _ h => h) trivial (by omega) (by decide) (Below.refl _ _) (Nat.le_refl _) ?_; intro v1 w3 ho hb3 _ _; (obtain ⟨g, cap, rfl, hcap3, hg3, hg4, hO3⟩ := make8 ho); (have HO3 := Aside0.mk hO3); (have HB3 := Aside0.mk hb3); clear ho hO3 hb3)
  go_loopw [0, 1, 6] (fun a b i wr => ∃ (k x y : Int) (ys : List Int), i = .int .i64 k ∧ a = .int .u64 x ∧ b = .int .u64 y ∧ -1 ≤ k ∧ k ≤ 3 ∧ ys.length = 8 ∧ Aside0 (PcP hi lo k x y ys) ∧ Aside0 (Kd.R (Kd.int .i64) 3 wr w.heap.size (fun _ => True) (.slice (some ⟨g, 0, none⟩) 8 cap) ys) ∧ Aside0 (Below w.heap.size w wr)) (fun _ _ i _ => (intOf i + 1).toNat)
  case atStart => exact ⟨3, hi, lo, List.replicate 8 0, rfl, rfl, rfl, by omega, by omega, by simp, ⟨.inl ⟨rfl, rfl, rfl, rfl⟩⟩, ⟨HO3.out⟩, ⟨HB3.out⟩⟩
  case round =>
    obtain ⟨k, x, y, ys, rfl, rfl, rfl, _, _, h8, hp, HO, hbw⟩ := hrel
    have hw3 : w.heap.size ≤ wr.heap.size := hbw.out.size
    rcases hp.out with ⟨rfl, rfl, rfl, rfl⟩ | ⟨rfl, rfl, rfl, rfl⟩ | ⟨rfl, rfl, rfl, rfl⟩ | ⟨rfl, rfl, rfl, rfl⟩ | ⟨rfl, rfl⟩
    · obtain ⟨c1, f1⟩ := cell8 h8 HO.out 3 (by omega)
      have h9 : ([0, 0, 0, 0, 0, 0, 0, 0] : List Int).length = 8 := rfl
      have hO2 := put8 h8 HO.out 3 (x % 65536)
      have h10 : (([0, 0, 0, 0, 0, 0, 0, 0] : List Int).set 3 (x % 65536)).length = 8 := rfl
      obtain ⟨c2, f2⟩ := cell8 h10 hO2 7 (by omega)
      have HO2 := Aside0.mk (put8 h10 hO2 7 (y % 65536))
      have HP2 := Aside0.mk (show PcP x y (2) (x / 65536) (y / 65536) ((([0, 0, 0, 0, 0, 0, 0, 0]).set 3 (x % 65536)).set 7 (y % 65536)) from .inr (.inl ⟨rfl, by omega, by omega, rfl⟩))
      clear hO2 hp h9
      go_wp2_with fail
      exact ⟨⟨2, _, _, _, rfl, rfl, rfl, by omega, by omega, rfl, ⟨HP2.out⟩, ⟨HO2.out⟩, ⟨(hbw.out.setCell (by show w.heap.size ≤ g; omega) _).setCell (by show w.heap.size ≤ g; omega) _⟩⟩, by simp [intOf]⟩
    · obtain ⟨c1, f1⟩ := cell8 h8 HO.out 2 (by omega)
      have h9 : ([0, 0, 0, hi % 65536, 0, 0, 0, lo % 65536] : List Int).length = 8 := rfl
      have hO2 := put8 h8 HO.out 2 (hi / 65536 % 65536)
      have h10 : (([0, 0, 0, hi % 65536, 0, 0, 0, lo % 65536] : List Int).set 2 (hi / 65536 % 65536)).length = 8 := rfl
      obtain ⟨c2, f2⟩ := cell8 h10 hO2 6 (by omega)
      have HO2 := Aside0.mk (put8 h10 hO2 6 (lo / 65536 % 65536))
      have HP2 := Aside0.mk (show PcP hi lo (1) (hi / 65536 / 65536) (lo / 65536 / 65536) ((([0, 0, 0, hi % 65536, 0, 0, 0, lo % 65536]).set 2 (hi / 65536 % 65536)).set 6 (lo / 65536 % 65536)) from .inr (.inr (.inl ⟨rfl, by omega, by omega, rfl⟩)))
      clear hO2 hp h9
      go_wp2_with fail
      exact ⟨⟨1, _, _, _, rfl, rfl, rfl, by omega, by omega, rfl, ⟨HP2.out⟩, ⟨HO2.out⟩, ⟨(hbw.out.setCell (by show w.heap.size ≤ g; omega) _).setCell (by show w.heap.size ≤ g; omega) _⟩⟩, by simp [intOf]⟩
    · obtain ⟨c1, f1⟩ := cell8 h8 HO.out 1 (by omega)
      have h9 : ([0, 0, hi / 65536 % 65536, hi % 65536, 0, 0, lo / 65536 % 65536, lo % 65536] : List Int).length = 8 := rfl
      have hO2 := put8 h8 HO.out 1 (hi / 4294967296 % 65536)
      have h10 : (([0, 0, hi / 65536 % 65536, hi % 65536, 0, 0, lo / 65536 % 65536, lo % 65536] : List Int).set 1 (hi / 4294967296 % 65536)).length = 8 := rfl
      obtain ⟨c2, f2⟩ := cell8 h10 hO2 5 (by omega)
      have HO2 := Aside0.mk (put8 h10 hO2 5 (lo / 4294967296 % 65536))
      have HP2 := Aside0.mk (show PcP hi lo (0) (hi / 4294967296 / 65536) (lo / 4294967296 / 65536) ((([0, 0, hi / 65536 % 65536, hi % 65536, 0, 0, lo / 65536 % 65536, lo % 65536]).set 1 (hi / 4294967296 % 65536)).set 5 (lo / 4294967296 % 65536)) from .inr (.inr (.inr (.inl ⟨rfl, by omega, by omega, rfl⟩))))
      clear hO2 hp h9
      go_wp2_with fail
      exact ⟨⟨0, _, _, _, rfl, rfl, rfl, by omega, by omega, rfl, ⟨HP2.out⟩, ⟨HO2.out⟩, ⟨(hbw.out.setCell (by show w.heap.size ≤ g; omega) _).setCell (by show w.heap.size ≤ g; omega) _⟩⟩, by simp [intOf]⟩
    · obtain ⟨c1, f1⟩ := cell8 h8 HO.out 0 (by omega)
      have h9 : ([0, hi / 4294967296 % 65536, hi / 65536 % 65536, hi % 65536, 0, lo / 4294967296 % 65536, lo / 65536 % 65536, lo % 65536] : List Int).length = 8 := rfl
      have hO2 := put8 h8 HO.out 0 (hi / 281474976710656 % 65536)
      have h10 : (([0, hi / 4294967296 % 65536, hi / 65536 % 65536, hi % 65536, 0, lo / 4294967296 % 65536, lo / 65536 % 65536, lo % 65536] : List Int).set 0 (hi / 281474976710656 % 65536)).length = 8 := rfl
      obtain ⟨c2, f2⟩ := cell8 h10 hO2 4 (by omega)
      have HO2 := Aside0.mk (put8 h10 hO2 4 (lo / 281474976710656 % 65536))
      have HP2 := Aside0.mk (show PcP hi lo (-1) (hi / 281474976710656 / 65536) (lo / 281474976710656 / 65536) ((([0, hi / 4294967296 % 65536, hi / 65536 % 65536, hi % 65536, 0, lo / 4294967296 % 65536, lo / 65536 % 65536, lo % 65536]).set 0 (hi / 281474976710656 % 65536)).set 4 (lo / 281474976710656 % 65536)) from .inr (.inr (.inr (.inr ⟨rfl, by rw [piecesOf, show hi / 281474976710656 % 65536 = hi / 281474976710656 by omega, show lo / 281474976710656 % 65536 = lo / 281474976710656 by omega]; rfl⟩))))
      clear hO2 hp h9
      go_wp2_with fail
      exact ⟨⟨-1, _, _, _, rfl, rfl, rfl, by omega, by omega, rfl, ⟨HP2.out⟩, ⟨HO2.out⟩, ⟨(hbw.out.setCell (by show w.heap.size ≤ g; omega) _).setCell (by show w.heap.size ≤ g; omega) _⟩⟩, by simp [intOf]⟩
    · go_wp2_with fail
      go_ret
      exact ⟨g, cap, rfl, hcap3, hg3, HO.out, hbw.out⟩

set_option maxHeartbeats 4000000 in
theorem rjoin5_calls (xs : List Int) (n : Nat) (hn : n = xs.length) (A : Option Addr) (c : Nat) (w : World) (h8 : n ≤ 8) (hb : ∀ x ∈ xs, 0 ≤ x ∧ x ≤ 65535) (hcell : ∀ j, j < n → ∃ ad, A = some ad ∧ w.cell? (ad.add j) = some (.int .i64 (xs.getD j 0))) :
    Calls Tryz.prog 66 #[.slice A n c] w fun e w' => e = .returned (.string ⟨(wordsL xs).toArray⟩) ∧ w' = w := by
  have HC := Aside0.mk hcell
  have HBd := Aside0.mk hb
  have HN := Lib.hid hn
  clear hcell hb hn
  go_enter Tryz.func66, Tryz.ntmps66
  go_wp2_with fail
  go_loop [3, 4] (fun sv i => ∃ (j : Nat) (z : ByteArray), i = .int .i64 j ∧ sv = .string z ∧ j ≤ n ∧ z.size ≤ 20 * j ∧ Aside0 (z.data.toList = wordsL (xs.take j))) (fun _ i => n - (intOf i).toNat)
  case atStart => exact ⟨0, ⟨#[]⟩, rfl, rfl, by omega, by decide, ⟨rfl⟩⟩
  case round =>
    obtain ⟨j, z, rfl, rfl, hj, hz, hw⟩ := hrel
    by_cases hlt : j < n
    · obtain ⟨ad, rfl, hcj⟩ := HC.out j hlt
      have hjl : j < xs.length := by rw [← HN.out]; exact hlt
      have hx : 0 ≤ xs.getD j 0 ∧ xs.getD j 0 ≤ 65535 := by
        rw [List.getD_eq_getElem?_getD, List.getElem?_eq_getElem hjl]
        exact HBd.out _ (List.getElem_mem _)
      have ht : xs.take (j + 1) = xs.take j ++ [xs.getD j 0] := by
        rw [List.take_succ_eq_append_getElem hjl, List.getD_eq_getElem?_getD, List.getElem?_eq_getElem hjl]
        rfl
      have hne : 0 < j → xs.take j ≠ [] := fun h0 h1 => by
        have := congrArg List.length h1
        rw [List.length_take, List.length_nil] at this
        omega
      have zx := hexB_size (xs.getD j 0) hx.2
      have HT := Aside0.mk ht
      have HNe := Aside0.mk hne
      generalize xs.getD j 0 = x at hcj hx zx HT
      clear ht hne hjl
      rcases Nat.eq_zero_or_pos j with h0 | h0
      · have HW := Lib.hid (show wordsL (xs.take (j + 1)) = (z ++ hexB x).data.toList by
          subst h0
          rw [HT.out, List.take_zero, List.nil_append, words_one]
          have : z.data.toList = [] := hw.out
          simp [this, hexB])
        have hz2 : (z ++ hexB x).size ≤ 20 * (j + 1) := by rw [ByteArray.size_append]; omega
        have h00 : ¬ (0 : Int) < (j : Int) := by omega
        clear h0
        go_wp2_with fail
        refine (rhexI_calls x hx.1 hx.2 _).mono ?_
        rintro e w1 ⟨rfl, rfl⟩
        go_wp2_with fail
        exact ⟨⟨j + 1, z ++ hexB x, by go_num, rfl, by omega, hz2, ⟨HW.out.symm⟩⟩, by simp [intOf]; omega⟩
      · have HW := Lib.hid (show wordsL (xs.take (j + 1)) = (z ++ ⟨#[58]⟩ ++ hexB x).data.toList by
          rw [HT.out, words_snoc _ _ (HNe.out h0), ← hw.out]
          simp [hexB])
        have hz1 : (z ++ (⟨#[58]⟩ : ByteArray)).size ≤ 20 * j + 1 := by
          rw [ByteArray.size_append]
          have : (⟨#[58]⟩ : ByteArray).size = 1 := rfl
          omega
        have hz2 : (z ++ ⟨#[58]⟩ ++ hexB x).size ≤ 20 * (j + 1) := by rw [ByteArray.size_append]; omega
        have hs1 : (⟨#[58]⟩ : ByteArray).size = 1 := rfl
        go_wp2_with fail
        refine (rhexI_calls x hx.1 hx.2 _).mono ?_
        rintro e w1 ⟨rfl, rfl⟩
        go_wp2_with fail
        exact ⟨⟨j + 1, z ++ ⟨#[58]⟩ ++ hexB x, by go_num, rfl, by omega, hz2, ⟨HW.out.symm⟩⟩, by simp [intOf]; omega⟩
    · have hjn : j = xs.length := by rw [← HN.out]; omega
      have HW := Lib.hid (show z = ⟨(wordsL xs).toArray⟩ by
        have := hw.out
        rw [hjn, List.take_length] at this
        exact bytes_of z _ this)
      clear hjn
      go_wp2_with fail
      go_ret
      exact ⟨ret_string HW.out, rfl⟩

set_option maxHeartbeats 2000000 in
theorem rzeros5_calls (xs : List Int) (f n : Nat) (ad : Addr) (c : Nat) (w : World) (h8 : xs.length = 8) (hfn : f + n ≤ 8) (hcell : ∀ j, j < 8 → w.cell? (ad.add j) = some (.int .i64 (xs.getD j 0))) :
    Calls Tryz.prog 65 #[.slice (some ad) 8 c, .int .i64 f, .int .i64 n] w fun e w' => e = .returned (.bool (decide (n ≤ zrun (xs.drop f)))) ∧ w' = w := by
  have HC := Aside0.mk hcell
  have H8 := Lib.hid h8
  clear hcell h8
  go_enter Tryz.func65, Tryz.ntmps65
  go_wp2_with fail
  go_loop [7] (fun i => ∃ j : Nat, i = .int .i64 j ∧ j ≤ n ∧ Aside0 (j ≤ zrun (xs.drop f))) (fun i => n - (intOf i).toNat)
  case atStart => exact ⟨0, rfl, by omega, ⟨Nat.zero_le _⟩⟩
  case round =>
    obtain ⟨j, rfl, hj, hz⟩ := hrel
    by_cases hlt : j < n
    · obtain ⟨m, hm⟩ : ∃ m : Nat, m = f + j := ⟨_, rfl⟩
      have hmi : (f : Int) + (j : Int) = (m : Int) := by omega
      have hm8 : m < 8 := by omega
      have hcm := HC.out m hm8
      have on := zrun_on xs j f hz.out (by rw [H8.out]; omega)
      rw [← hm] at on
      have ON := Aside0.mk on
      generalize xs.getD m 0 = x at hcm ON
      clear on hm
      by_cases hx : x = 0
      · subst hx
        go_wp2_with fail
        exact ⟨⟨j + 1, by go_num, by omega, ⟨ON.out.1 rfl⟩⟩, by simp [intOf]; omega⟩
      · have HF := Lib.hid (show false = decide (n ≤ zrun (xs.drop f)) by rw [ON.out.2 hx]; symm; rw [decide_eq_false_iff_not]; omega)
        go_wp2_with fail
        go_ret
        exact ⟨ret_bool HF.out, rfl⟩
    · have HF := Lib.hid (show true = decide (n ≤ zrun (xs.drop f)) by symm; rw [decide_eq_true_eq]; have := hz.out; omega)
      go_wp2_with fail
      go_ret
      exact ⟨ret_bool HF.out, rfl⟩
end Go.Proofs.YtfieiigefllekaaGreatDoor
