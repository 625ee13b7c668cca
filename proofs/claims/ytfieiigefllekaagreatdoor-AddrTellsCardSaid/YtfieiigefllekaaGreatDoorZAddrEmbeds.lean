/- The law AddrEmbeds, walked. -/
import Derived.Test.YtfieiigefllekaaGreatDoorZAw6
import Derived.Test.YtfieiigefllekaaGreatDoorZAdB2
namespace Go.Proofs.YtfieiigefllekaaGreatDoor
open Go.RowKit Go.Proofs.YtfieiigefllekaaGreatDoorW.PrintWords Go.Proofs.YtfieiigefllekaaGreatDoorW.PrintMore

set_option maxHeartbeats 2000000 in
theorem IndexF_calls (xs : List Int) (x : Int) (n : Nat) (hn : n = xs.length) (A : Option Addr) (c : Nat) (w : World) (hnm : n ≤ 1000000) (hA : ∀ j, j < xs.length → ∃ ad, A = some ad ∧ w.cell? (ad.add j) = some (.int .u32 (xs.getD j 0))) :
    Calls Tryz.prog 72 #[.slice A n c, .int .u32 x] w fun e w' => (∃ r : Int, e = .returned (.int .i64 r) ∧ (0 ≤ r ↔ x ∈ xs)) ∧ w' = w := by
  have HA := Aside0.mk hA
  have HN := Lib.hid hn
  clear hA hn
  go_enter Tryz.func72, Tryz.ntmps72
  go_wp2_with fail
  go_loop [8] (fun i => ∃ j : Nat, i = .int .i64 j ∧ j ≤ n ∧ Aside0 (x ∉ xs.take j)) (fun i => n - (intOf i).toNat)
  case atStart => exact ⟨0, rfl, by omega, ⟨by simp⟩⟩
  case round =>
    obtain ⟨j, rfl, hj, ht⟩ := hrel
    by_cases hlt : j < n
    · have hjx : j < xs.length := by rw [← HN.out]; exact hlt
      obtain ⟨ad, rfl, cx⟩ := HA.out j hjx
      have htk : xs.take (j + 1) = xs.take j ++ [xs.getD j 0] := by
        rw [List.take_succ_eq_append_getElem hjx, List.getD_eq_getElem?_getD, List.getElem?_eq_getElem hjx]
        rfl
      have hmem : xs.getD j 0 ∈ xs := by
        rw [List.getD_eq_getElem?_getD, List.getElem?_eq_getElem hjx]
        exact List.getElem_mem _
      have HTK := Aside0.mk htk
      have HME := Aside0.mk hmem
      clear htk hmem hjx
      generalize xs.getD j 0 = y at cx HTK HME
      by_cases he : x = y
      · subst he
        go_wp2_with fail
        go_ret
        exact ⟨⟨_, rfl, ⟨fun _ => HME.out, fun _ => by omega⟩⟩, rfl⟩
      · have HT := Aside0.mk (show x ∉ xs.take (j + 1) by
          rw [HTK.out, List.mem_append, List.mem_singleton]
          exact fun h => h.elim ht.out he)
        have hb : (x == y) = false := by simpa using he
        go_wp2_with fail
        exact ⟨⟨j + 1, by go_num, by omega, ⟨HT.out⟩⟩, by simp [intOf]; omega⟩
    · have HF := Lib.hid (show x ∉ xs by
        have := ht.out
        rwa [List.take_of_length_le (by rw [← HN.out]; omega)] at this)
      go_wp2_with fail
      go_ret
      exact ⟨⟨-1, rfl, ⟨fun h => absurd h (by decide), fun h => absurd h HF.out⟩⟩, rfl⟩
set_option maxRecDepth 100000 in
theorem ContainsF_calls (xs : List Int) (x : Int) (n : Nat) (hn : n = xs.length) (A : Option Addr) (c : Nat) (w : World) (hnm : n ≤ 1000000) (hA : ∀ j, j < xs.length → ∃ ad, A = some ad ∧ w.cell? (ad.add j) = some (.int .u32 (xs.getD j 0))) :
    Calls Tryz.prog 27 #[.slice A n c, .int .u32 x] w fun e w' => e = .returned (.bool (decide (x ∈ xs))) ∧ w' = w := by
  have I := Aside0.mk (IndexF_calls xs x n hn A c w hnm hA)
  clear hn hA hnm
  go_enter Tryz.func27, Tryz.ntmps27
  go_wp2_with fail
  refine I.out.mono ?_
  rintro e w1 ⟨⟨r, rfl, hr⟩, rfl⟩
  have HF := Lib.hid (show decide (0 ≤ r) = decide (x ∈ xs) from decide_eq_decide.2 hr)
  clear hr
  go_wp2_with fail
  go_ret
  exact ⟨ret_bool HF.out, rfl⟩
set_option maxRecDepth 100000 in
theorem Inner4_calls (n : Int) (w : World) : Calls Tryz.prog 28 #[.iface 57 (.int .u32 n)] w fun e w' => e = .returned (.slice none 0 0) ∧ Below w.heap.size w w' := by
  have q := ta_46
  go_enter Tryz.func28, Tryz.ntmps28
  go_wp2_with fail
  go_ret
  exact ⟨rfl, (Below.refl _ _).alloc (Nat.le_refl _) _⟩

def ehi (n r : Int) : Nat → Int
  | 0 => 0
  | 1 => 0
  | 2 => 28428538856079360
  | 3 => 2306405959167115264 + n * 65536 + r % 65536
  | 4 => 2306124484190404608 + n
  | 5 => 2306124484190404608 + r % 4294967296
  | _ => r
def elo (n r : Int) : Nat → Int
  | 0 => 281470681743360 + n
  | 1 => n
  | 2 => n
  | 3 => r
  | 4 => r
  | 5 => r % 4294967296 * 4294967296 + (4294967295 - n)
  | 6 => 104445014704128 + n
  | _ => 144219633090560000 + n
theorem mem1 (hi lo : Int) (h : in1 hi lo = true) : lo % 4294967296 ∈ inL4 hi lo := by simp [inL4, inL3, inL2, inL1, h]
theorem mem2 (hi lo : Int) (h : in2 hi = true) : hi / 65536 % 4294967296 ∈ inL4 hi lo := by simp [inL4, inL3, inL2, h]
theorem mem3a (hi lo : Int) (h : in3 hi = true) : hi % 4294967296 ∈ inL4 hi lo := by simp [inL4, inL3, h]
theorem mem3b (hi lo : Int) (h : in3 hi = true) : 4294967295 - lo % 4294967296 ∈ inL4 hi lo := by simp [inL4, inL3, h]
theorem mem4 (hi lo : Int) (h : in4 lo = true) : lo % 4294967296 ∈ inL4 hi lo := by simp [inL4, h]
theorem emb_bd (n r : Int) (h0 : 0 ≤ n ∧ n < 4294967296) (h1 : 0 ≤ r ∧ r < 18446744073709551616) (j : Nat) (hj : j < 8) : (0 ≤ ehi n r j ∧ ehi n r j < 18446744073709551616) ∧ 0 ≤ elo n r j ∧ elo n r j < 18446744073709551616 := by
  have hj8 : j = 0 ∨ j = 1 ∨ j = 2 ∨ j = 3 ∨ j = 4 ∨ j = 5 ∨ j = 6 ∨ j = 7 := by omega
  rcases hj8 with rfl | rfl | rfl | rfl | rfl | rfl | rfl | rfl <;> simp only [ehi, elo] <;> omega
theorem emb_mem (n r : Int) (h0 : 0 ≤ n ∧ n < 4294967296) (_h1 : 0 ≤ r ∧ r < 18446744073709551616) (j : Nat) (hj : j < 8) (hc : j ≠ 1 ∨ 1 < n) : n ∈ inL4 (ehi n r j) (elo n r j) := by
  have hj8 : j = 0 ∨ j = 1 ∨ j = 2 ∨ j = 3 ∨ j = 4 ∨ j = 5 ∨ j = 6 ∨ j = 7 := by omega
  rcases hj8 with rfl | rfl | rfl | rfl | rfl | rfl | rfl | rfl <;> simp only [ehi, elo]
  · have := mem1 0 (281470681743360 + n) (decide_eq_true (by omega))
    rwa [show (281470681743360 + n) % 4294967296 = n by omega] at this
  · have := mem1 0 n (decide_eq_true (by omega))
    rwa [show n % 4294967296 = n by omega] at this
  · have := mem1 28428538856079360 n (decide_eq_true (by omega))
    rwa [show n % 4294967296 = n by omega] at this
  · have := mem2 (2306405959167115264 + n * 65536 + r % 65536) r (decide_eq_true (by omega))
    rwa [show (2306405959167115264 + n * 65536 + r % 65536) / 65536 % 4294967296 = n by omega] at this
  · have := mem3a (2306124484190404608 + n) r (decide_eq_true (by omega))
    rwa [show (2306124484190404608 + n) % 4294967296 = n by omega] at this
  · have := mem3b (2306124484190404608 + r % 4294967296) (r % 4294967296 * 4294967296 + (4294967295 - n)) (decide_eq_true (by omega))
    rwa [show 4294967295 - (r % 4294967296 * 4294967296 + (4294967295 - n)) % 4294967296 = n by omega] at this
  · have := mem4 r (104445014704128 + n) (decide_eq_true (by omega))
    rwa [show (104445014704128 + n) % 4294967296 = n by omega] at this
  · have := mem4 r (144219633090560000 + n) (decide_eq_true (by omega))
    rwa [show (144219633090560000 + n) % 4294967296 = n by omega] at this
theorem emb_or (c x : Int) (hc : 0 ≤ c) (hx : 0 ≤ x ∧ x < 4294967296) (hb : c * 4294967296 < 18446744073709551616) : bits .or .u64 (c * 4294967296) x = c * 4294967296 + x :=
  or_u64 32 c x hc hx.1 (by simp only [Int.reducePow]; omega) (by simp only [Int.reducePow]; omega) (by omega)
theorem in_00 : inL4 0 0 = [] := by decide
theorem in_01 : inL4 0 1 = [] := by decide
set_option maxHeartbeats 4000000 in
set_option maxRecDepth 100000 in
theorem AddrEmbeds_law (n r : Int) (h0 : 0 ≤ n ∧ n < 4294967296) (h1 : 0 ≤ r ∧ r < 18446744073709551616) (w : World) (hP : Aside0 (Pows w)) (hT : Aside0 (Debr w)) (hE : Aside0 (Errs w)) (hM : Aside0 (Mx w)) :
    Calls Tryz.prog 6 #[.int .u32 n, .int .u64 r] w fun e w' => e = .returned (.bool true) ∧ Below w.heap.size w w' := by
  go_enter Tryz.func6, Tryz.ntmps6
  go_wp2_with fail
  refine (awake6_calls _ hE hM hP hT).mono ?_
  rintro e w1 ⟨rfl, b1⟩
  have B1 := Aside0.mk b1
  clear b1
  have x0 : bits .or .u64 281470681743360 n = 281470681743360 + n := emb_or 65535 n (by omega) h0 (by omega)
  have x3a : bits .or .u64 2306405959167115264 (n * 65536) = 2306405959167115264 + n * 65536 := or_u64 48 8194 (n * 65536) (by omega) (by omega) (by simp only [Int.reducePow]; omega) (by simp only [Int.reducePow]; omega) (by omega)
  have x3b : bits .and .u64 r 65535 = r % 65536 := and_low r 16 h1.1 h1.2 (by omega)
  have x3c : bits .or .u64 (2306405959167115264 + n * 65536) (r % 65536) = 2306405959167115264 + n * 65536 + r % 65536 := by
    have := or_u64 16 (35192962023424 + n) (r % 65536) (by omega) (by omega) (by simp only [Int.reducePow]; omega) (by simp only [Int.reducePow]; omega) (by omega)
    simp only [Int.reducePow] at this
    rwa [show (35192962023424 + n) * 65536 = 2306405959167115264 + n * 65536 by omega] at this
  have x4 : bits .or .u64 2306124484190404608 n = 2306124484190404608 + n := emb_or 536936448 n (by omega) h0 (by omega)
  have x5a : bits .and .u64 r 4294967295 = r % 4294967296 := and_low r 32 h1.1 h1.2 (by omega)
  have x5b : bits .or .u64 2306124484190404608 (r % 4294967296) = 2306124484190404608 + r % 4294967296 := emb_or 536936448 _ (by omega) ⟨by omega, by omega⟩ (by omega)
  have x5c : IntKind.u64.wrap (r * 4294967296) = r % 4294967296 * 4294967296 := by
    rw [show ∀ n, IntKind.u64.wrap n = n % 18446744073709551616 from fun n => by simp [IntKind.wrap, IntKind.signed, IntKind.bits]]
    omega
  have x5d : bits .xor .u64 IntKind.u64.max n = 18446744073709551615 - n := xor_max64 n h0.1 (by omega)
  have x5e : bits .and .u64 (18446744073709551615 - n) 4294967295 = 4294967295 - n := by
    have := and_low (18446744073709551615 - n) 32 (by omega) (by omega) (by omega)
    rw [show ((2 : Int) ^ 32 - 1) = 4294967295 from rfl] at this
    rw [this]
    simp only [Int.reducePow]
    omega
  have x5f : bits .or .u64 (r % 4294967296 * 4294967296) (4294967295 - n) = r % 4294967296 * 4294967296 + (4294967295 - n) := emb_or (r % 4294967296) (4294967295 - n) (by omega) ⟨by omega, by omega⟩ (by omega)
  have x6 : bits .or .u64 104445014704128 n = 104445014704128 + n := emb_or 24318 n (by omega) h0 (by omega)
  have x7 : bits .or .u64 144219633090560000 n = 144219633090560000 + n := emb_or 33578750 n (by omega) h0 (by omega)
  have X := Lib.hid (And.intro x0 (And.intro x3a (And.intro x3b (And.intro x3c (And.intro x4 (And.intro x5a (And.intro x5b (And.intro x5c (And.intro x5d (And.intro x5e (And.intro x5f (And.intro x6 x7))))))))))))
  clear x0 x3a x3b x3c x4 x5a x5b x5c x5d x5e x5f x6 x7
  go_wp2_with fail
  obtain ⟨x0, x3a, x3b, x3c, x4, x5a, x5b, x5c, x5d, x5e, x5f, x6, x7⟩ := X.out
  rw [x0, x3a, x3b, x3c, x4, x5a, x5b, x5c, x5d, x5e, x5f, x6, x7]
  clear x0 x3a x3b x3c x4 x5a x5b x5c x5d x5e x5f x6 x7 X
  obtain ⟨W1, hW1⟩ : ∃ W1, W1 = w1.alloc (.cells #[.int .u64 (ehi n r 0), .int .u64 (elo n r 0), .int .u64 (ehi n r 1), .int .u64 (elo n r 1), .int .u64 (ehi n r 2), .int .u64 (elo n r 2), .int .u64 (ehi n r 3), .int .u64 (elo n r 3), .int .u64 (ehi n r 4), .int .u64 (elo n r 4), .int .u64 (ehi n r 5), .int .u64 (elo n r 5), .int .u64 (ehi n r 6), .int .u64 (elo n r 6), .int .u64 (ehi n r 7), .int .u64 (elo n r 7)] 25) := ⟨_, rfl⟩
  have hW1' := hW1
  simp only [ehi, elo] at hW1'
  rw [← hW1']
  clear hW1'
  have hcell : ∀ j, j < 8 → W1.cell? ⟨w1.heap.size, j * 2, none⟩ = some (.int .u64 (ehi n r j)) ∧ W1.cell? ⟨w1.heap.size, j * 2 + 1, none⟩ = some (.int .u64 (elo n r j)) := by
    intro j hj
    rw [hW1, World.cell?_alloc_new, World.cell?_alloc_new]
    have hj8 : j = 0 ∨ j = 1 ∨ j = 2 ∨ j = 3 ∨ j = 4 ∨ j = 5 ∨ j = 6 ∨ j = 7 := by omega
    rcases hj8 with rfl | rfl | rfl | rfl | rfl | rfl | rfl | rfl <;> exact ⟨rfl, rfl⟩
  have hlt : w1.heap.size < W1.heap.size := by rw [hW1]; simp
  have BW1 : Aside0 (Below w.heap.size w W1) := ⟨by rw [hW1]; exact B1.out.alloc B1.out.size _⟩
  have HC := Aside0.mk hcell
  have BD := Aside0.mk (emb_bd n r h0 h1)
  have ME := Aside0.mk (emb_mem n r h0 h1)
  clear hW1 hcell B1
  generalize w1.heap.size = b at *
  go_loopw [51] (fun i wr => ∃ j : Nat, i = .int .i64 j ∧ j ≤ 8 ∧ Aside0 (Below W1.heap.size W1 wr)) (fun i _ => 8 - (intOf i).toNat)
  case atStart => exact ⟨0, rfl, by omega, ⟨Below.refl _ _⟩⟩
  case round =>
    obtain ⟨j, rfl, hj, hbw⟩ := hrel
    have hj8 : j = 0 ∨ j = 1 ∨ j = 2 ∨ j = 3 ∨ j = 4 ∨ j = 5 ∨ j = 6 ∨ j = 7 ∨ j = 8 := by omega
    rcases hj8 with rfl | rfl | rfl | rfl | rfl | rfl | rfl | rfl | rfl
    · have cc := HC.out 0 (by omega)
      have c0 := (hbw.out.cell (p := ⟨b, 0, none⟩) hlt).trans cc.1
      have c1 := (hbw.out.cell (p := ⟨b, 1, none⟩) hlt).trans cc.2
      have bd := BD.out 0 (by omega)
      have me := ME.out 0 (by omega)
      generalize ehi n r 0 = hi at c0 bd me
      generalize elo n r 0 = lo at c1 bd me
      have hl := inL4_len hi lo
      have IN := Aside0.mk (Inner6_calls hi lo bd.1 bd.2)
      clear cc bd
      generalize inL4 hi lo = L at me hl IN
      have ME1 := Aside0.mk me
      clear me
      go_wp2_with fail
      refine (IN.out _).mono ?_
      rintro e w3 ⟨v, rfl, hR, b3⟩
      obtain ⟨A, c, rfl, hcap, hCC⟩ := Kd.R_reads hR
      have B3 := Aside0.mk (below_then (hbw.out.alloc hbw.out.size (.cells #[.int .u64 hi, .int .u64 lo] 25)) (by have := hbw.out.size; simp; omega) b3)
      obtain ⟨nl, hnl⟩ : ∃ nl, nl = L.length := ⟨_, rfl⟩
      have CT := Aside0.mk (ContainsF_calls L n nl hnl A c w3 (by omega) (fun j hj => C_kget hCC j hj))
      rw [← hnl]
      clear hR hCC b3 hcap hnl hl c0 c1
      go_wp2_with fail
      refine CT.out.mono ?_
      rintro e w4 ⟨rfl, rfl⟩
      rw [decide_eq_true (ME1.out (.inl (by omega)))]
      go_wp2_with fail
      exact ⟨⟨1, rfl, by omega, ⟨B3.out⟩⟩, by simp [intOf]⟩
    · have cc := HC.out 1 (by omega)
      have c0 := (hbw.out.cell (p := ⟨b, 2, none⟩) hlt).trans cc.1
      have c1 := (hbw.out.cell (p := ⟨b, 3, none⟩) hlt).trans cc.2
      have bd := BD.out 1 (by omega)
      have me := ME.out 1 (by omega)
      generalize ehi n r 1 = hi at c0 bd me
      generalize elo n r 1 = lo at c1 bd me
      have hl := inL4_len hi lo
      have IN := Aside0.mk (Inner6_calls hi lo bd.1 bd.2)
      clear cc bd
      generalize inL4 hi lo = L at me hl IN
      have ME1 := Aside0.mk me
      clear me
      go_wp2_with fail
      refine (IN.out _).mono ?_
      rintro e w3 ⟨v, rfl, hR, b3⟩
      obtain ⟨A, c, rfl, hcap, hCC⟩ := Kd.R_reads hR
      have B3 := Aside0.mk (below_then (hbw.out.alloc hbw.out.size (.cells #[.int .u64 hi, .int .u64 lo] 25)) (by have := hbw.out.size; simp; omega) b3)
      obtain ⟨nl, hnl⟩ : ∃ nl, nl = L.length := ⟨_, rfl⟩
      have CT := Aside0.mk (ContainsF_calls L n nl hnl A c w3 (by omega) (fun j hj => C_kget hCC j hj))
      rw [← hnl]
      clear hR hCC b3 hcap hnl hl c0 c1
      go_wp2_with fail
      refine CT.out.mono ?_
      rintro e w4 ⟨rfl, rfl⟩
      by_cases hm : n ∈ L
      · rw [decide_eq_true hm]
        clear hm
        go_wp2_with fail
        exact ⟨⟨2, rfl, by omega, ⟨B3.out⟩⟩, by simp [intOf]⟩
      · have hn1 : ¬ 1 < n := fun h => hm (ME1.out (.inr h))
        rw [decide_eq_false hm]
        clear hm
        go_wp2_with fail
        exact ⟨⟨2, rfl, by omega, ⟨B3.out⟩⟩, by simp [intOf]⟩
    · have cc := HC.out 2 (by omega)
      have c0 := (hbw.out.cell (p := ⟨b, 4, none⟩) hlt).trans cc.1
      have c1 := (hbw.out.cell (p := ⟨b, 5, none⟩) hlt).trans cc.2
      have bd := BD.out 2 (by omega)
      have me := ME.out 2 (by omega)
      generalize ehi n r 2 = hi at c0 bd me
      generalize elo n r 2 = lo at c1 bd me
      have hl := inL4_len hi lo
      have IN := Aside0.mk (Inner6_calls hi lo bd.1 bd.2)
      clear cc bd
      generalize inL4 hi lo = L at me hl IN
      have ME1 := Aside0.mk me
      clear me
      go_wp2_with fail
      refine (IN.out _).mono ?_
      rintro e w3 ⟨v, rfl, hR, b3⟩
      obtain ⟨A, c, rfl, hcap, hCC⟩ := Kd.R_reads hR
      have B3 := Aside0.mk (below_then (hbw.out.alloc hbw.out.size (.cells #[.int .u64 hi, .int .u64 lo] 25)) (by have := hbw.out.size; simp; omega) b3)
      obtain ⟨nl, hnl⟩ : ∃ nl, nl = L.length := ⟨_, rfl⟩
      have CT := Aside0.mk (ContainsF_calls L n nl hnl A c w3 (by omega) (fun j hj => C_kget hCC j hj))
      rw [← hnl]
      clear hR hCC b3 hcap hnl hl c0 c1
      go_wp2_with fail
      refine CT.out.mono ?_
      rintro e w4 ⟨rfl, rfl⟩
      rw [decide_eq_true (ME1.out (.inl (by omega)))]
      go_wp2_with fail
      exact ⟨⟨3, rfl, by omega, ⟨B3.out⟩⟩, by simp [intOf]⟩
    · have cc := HC.out 3 (by omega)
      have c0 := (hbw.out.cell (p := ⟨b, 6, none⟩) hlt).trans cc.1
      have c1 := (hbw.out.cell (p := ⟨b, 7, none⟩) hlt).trans cc.2
      have bd := BD.out 3 (by omega)
      have me := ME.out 3 (by omega)
      generalize ehi n r 3 = hi at c0 bd me
      generalize elo n r 3 = lo at c1 bd me
      have hl := inL4_len hi lo
      have IN := Aside0.mk (Inner6_calls hi lo bd.1 bd.2)
      clear cc bd
      generalize inL4 hi lo = L at me hl IN
      have ME1 := Aside0.mk me
      clear me
      go_wp2_with fail
      refine (IN.out _).mono ?_
      rintro e w3 ⟨v, rfl, hR, b3⟩
      obtain ⟨A, c, rfl, hcap, hCC⟩ := Kd.R_reads hR
      have B3 := Aside0.mk (below_then (hbw.out.alloc hbw.out.size (.cells #[.int .u64 hi, .int .u64 lo] 25)) (by have := hbw.out.size; simp; omega) b3)
      obtain ⟨nl, hnl⟩ : ∃ nl, nl = L.length := ⟨_, rfl⟩
      have CT := Aside0.mk (ContainsF_calls L n nl hnl A c w3 (by omega) (fun j hj => C_kget hCC j hj))
      rw [← hnl]
      clear hR hCC b3 hcap hnl hl c0 c1
      go_wp2_with fail
      refine CT.out.mono ?_
      rintro e w4 ⟨rfl, rfl⟩
      rw [decide_eq_true (ME1.out (.inl (by omega)))]
      go_wp2_with fail
      exact ⟨⟨4, rfl, by omega, ⟨B3.out⟩⟩, by simp [intOf]⟩
    · have cc := HC.out 4 (by omega)
      have c0 := (hbw.out.cell (p := ⟨b, 8, none⟩) hlt).trans cc.1
      have c1 := (hbw.out.cell (p := ⟨b, 9, none⟩) hlt).trans cc.2
      have bd := BD.out 4 (by omega)
      have me := ME.out 4 (by omega)
      generalize ehi n r 4 = hi at c0 bd me
      generalize elo n r 4 = lo at c1 bd me
      have hl := inL4_len hi lo
      have IN := Aside0.mk (Inner6_calls hi lo bd.1 bd.2)
      clear cc bd
      generalize inL4 hi lo = L at me hl IN
      have ME1 := Aside0.mk me
      clear me
      go_wp2_with fail
      refine (IN.out _).mono ?_
      rintro e w3 ⟨v, rfl, hR, b3⟩
      obtain ⟨A, c, rfl, hcap, hCC⟩ := Kd.R_reads hR
      have B3 := Aside0.mk (below_then (hbw.out.alloc hbw.out.size (.cells #[.int .u64 hi, .int .u64 lo] 25)) (by have := hbw.out.size; simp; omega) b3)
      obtain ⟨nl, hnl⟩ : ∃ nl, nl = L.length := ⟨_, rfl⟩
      have CT := Aside0.mk (ContainsF_calls L n nl hnl A c w3 (by omega) (fun j hj => C_kget hCC j hj))
      rw [← hnl]
      clear hR hCC b3 hcap hnl hl c0 c1
      go_wp2_with fail
      refine CT.out.mono ?_
      rintro e w4 ⟨rfl, rfl⟩
      rw [decide_eq_true (ME1.out (.inl (by omega)))]
      go_wp2_with fail
      exact ⟨⟨5, rfl, by omega, ⟨B3.out⟩⟩, by simp [intOf]⟩
    · have cc := HC.out 5 (by omega)
      have c0 := (hbw.out.cell (p := ⟨b, 10, none⟩) hlt).trans cc.1
      have c1 := (hbw.out.cell (p := ⟨b, 11, none⟩) hlt).trans cc.2
      have bd := BD.out 5 (by omega)
      have me := ME.out 5 (by omega)
      generalize ehi n r 5 = hi at c0 bd me
      generalize elo n r 5 = lo at c1 bd me
      have hl := inL4_len hi lo
      have IN := Aside0.mk (Inner6_calls hi lo bd.1 bd.2)
      clear cc bd
      generalize inL4 hi lo = L at me hl IN
      have ME1 := Aside0.mk me
      clear me
      go_wp2_with fail
      refine (IN.out _).mono ?_
      rintro e w3 ⟨v, rfl, hR, b3⟩
      obtain ⟨A, c, rfl, hcap, hCC⟩ := Kd.R_reads hR
      have B3 := Aside0.mk (below_then (hbw.out.alloc hbw.out.size (.cells #[.int .u64 hi, .int .u64 lo] 25)) (by have := hbw.out.size; simp; omega) b3)
      obtain ⟨nl, hnl⟩ : ∃ nl, nl = L.length := ⟨_, rfl⟩
      have CT := Aside0.mk (ContainsF_calls L n nl hnl A c w3 (by omega) (fun j hj => C_kget hCC j hj))
      rw [← hnl]
      clear hR hCC b3 hcap hnl hl c0 c1
      go_wp2_with fail
      refine CT.out.mono ?_
      rintro e w4 ⟨rfl, rfl⟩
      rw [decide_eq_true (ME1.out (.inl (by omega)))]
      go_wp2_with fail
      exact ⟨⟨6, rfl, by omega, ⟨B3.out⟩⟩, by simp [intOf]⟩
    · have cc := HC.out 6 (by omega)
      have c0 := (hbw.out.cell (p := ⟨b, 12, none⟩) hlt).trans cc.1
      have c1 := (hbw.out.cell (p := ⟨b, 13, none⟩) hlt).trans cc.2
      have bd := BD.out 6 (by omega)
      have me := ME.out 6 (by omega)
      generalize ehi n r 6 = hi at c0 bd me
      generalize elo n r 6 = lo at c1 bd me
      have hl := inL4_len hi lo
      have IN := Aside0.mk (Inner6_calls hi lo bd.1 bd.2)
      clear cc bd
      generalize inL4 hi lo = L at me hl IN
      have ME1 := Aside0.mk me
      clear me
      go_wp2_with fail
      refine (IN.out _).mono ?_
      rintro e w3 ⟨v, rfl, hR, b3⟩
      obtain ⟨A, c, rfl, hcap, hCC⟩ := Kd.R_reads hR
      have B3 := Aside0.mk (below_then (hbw.out.alloc hbw.out.size (.cells #[.int .u64 hi, .int .u64 lo] 25)) (by have := hbw.out.size; simp; omega) b3)
      obtain ⟨nl, hnl⟩ : ∃ nl, nl = L.length := ⟨_, rfl⟩
      have CT := Aside0.mk (ContainsF_calls L n nl hnl A c w3 (by omega) (fun j hj => C_kget hCC j hj))
      rw [← hnl]
      clear hR hCC b3 hcap hnl hl c0 c1
      go_wp2_with fail
      refine CT.out.mono ?_
      rintro e w4 ⟨rfl, rfl⟩
      rw [decide_eq_true (ME1.out (.inl (by omega)))]
      go_wp2_with fail
      exact ⟨⟨7, rfl, by omega, ⟨B3.out⟩⟩, by simp [intOf]⟩
    · have cc := HC.out 7 (by omega)
      have c0 := (hbw.out.cell (p := ⟨b, 14, none⟩) hlt).trans cc.1
      have c1 := (hbw.out.cell (p := ⟨b, 15, none⟩) hlt).trans cc.2
      have bd := BD.out 7 (by omega)
      have me := ME.out 7 (by omega)
      generalize ehi n r 7 = hi at c0 bd me
      generalize elo n r 7 = lo at c1 bd me
      have hl := inL4_len hi lo
      have IN := Aside0.mk (Inner6_calls hi lo bd.1 bd.2)
      clear cc bd
      generalize inL4 hi lo = L at me hl IN
      have ME1 := Aside0.mk me
      clear me
      go_wp2_with fail
      refine (IN.out _).mono ?_
      rintro e w3 ⟨v, rfl, hR, b3⟩
      obtain ⟨A, c, rfl, hcap, hCC⟩ := Kd.R_reads hR
      have B3 := Aside0.mk (below_then (hbw.out.alloc hbw.out.size (.cells #[.int .u64 hi, .int .u64 lo] 25)) (by have := hbw.out.size; simp; omega) b3)
      obtain ⟨nl, hnl⟩ : ∃ nl, nl = L.length := ⟨_, rfl⟩
      have CT := Aside0.mk (ContainsF_calls L n nl hnl A c w3 (by omega) (fun j hj => C_kget hCC j hj))
      rw [← hnl]
      clear hR hCC b3 hcap hnl hl c0 c1
      go_wp2_with fail
      refine CT.out.mono ?_
      rintro e w4 ⟨rfl, rfl⟩
      rw [decide_eq_true (ME1.out (.inl (by omega)))]
      go_wp2_with fail
      exact ⟨⟨8, rfl, by omega, ⟨B3.out⟩⟩, by simp [intOf]⟩
    · have B2 := Aside0.mk (below_then BW1.out BW1.out.size hbw.out)
      go_wp2_with fail
      refine (Inner4_calls n _).mono ?_
      rintro e w3 ⟨rfl, b3⟩
      have B3 := Aside0.mk (below_then B2.out B2.out.size b3)
      clear b3
      go_wp2_with fail
      refine (Inner6_calls 0 0 (by omega) (by omega) _).mono ?_
      rw [in_00]
      rintro e w4 ⟨v, rfl, hR, b4⟩
      have B4 := Aside0.mk (below_then B3.out B3.out.size b4)
      obtain ⟨A, c, rfl, _, _⟩ := Kd.R_reads hR
      simp only [List.length_nil]
      clear b4 hR
      go_wp2_with fail
      refine (Inner6_calls 0 1 (by omega) (by omega) _).mono ?_
      rw [in_01]
      rintro e w5 ⟨v, rfl, hR, b5⟩
      have B5 := Aside0.mk (below_then B4.out B4.out.size b5)
      obtain ⟨A', c', rfl, _, _⟩ := Kd.R_reads hR
      simp only [List.length_nil]
      clear b5 hR
      go_wp2_with fail
      go_ret
      exact ⟨rfl, B5.out⟩
theorem AddrEmbeds_row (n r : Int) (w : World) (w0 : (Lit.int .u32 n).wf = true) (w1 : (Lit.int .u64 r).wf = true) (hP : Aside0 (Pows w)) (hT : Aside0 (Debr w)) (hE : Aside0 (Errs w)) (hM : Aside0 (Mx w)) :
    Calls Tryz.prog 6 #[.int .u32 n, .int .u64 r] w fun e w' => e = .returned (.bool true) ∧ Below w.heap.size w w' := by
  have a0 := wf_u32 w0
  have b0 := wf_u64 w1
  exact AddrEmbeds_law n r ⟨a0.1, by omega⟩ ⟨b0.1, by omega⟩ w hP hT hE hM
end Go.Proofs.YtfieiigefllekaaGreatDoor
