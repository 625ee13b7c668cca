/- Texts that the claim's row leans on, joined by wip/pack.py: PfL Chr AdT1 SixE AdE Ad3 AdT5 AdT6 TrP PfT Pf8 Pf10 Aw5P Aw4 Aw5 Aw6 Aw7 PrefixNests -/
import Derived.Test.YtplehdcnnaamkaaGreatDoorKPrefixNests3
import Derived.BigRegion
import Derived.Deep.Cut
import Derived.Deep.CutRange
/- What prefixes of one address, and halves of one, have: plain Lean. -/
namespace Go.Proofs.YtplehdcnnaamkaaGreatDoor

/-- A block that is laid. -/
theorem boxN {w W0 : World} {cs : Array Value} {t : TypeId} (hW0 : W0 = w.alloc (.cells cs t)) : W0.heap[w.heap.size]? = some (.cells cs t (0, 0)) ∧ w.heap.size < W0.heap.size ∧ Go.RowKit.Below w.heap.size w W0 := by
  subst hW0
  exact ⟨heap_alloc_new' _ _ _ rfl, by simp, (Go.RowKit.Below.refl _ _).alloc (Nat.le_refl _) _⟩
theorem has_of (a b : Int) (n : Nat) (hn : n ≤ 128) (c d : Int) (ha : 0 ≤ a ∧ a < 18446744073709551616) (hb : 0 ≤ b ∧ b < 18446744073709551616) (hc : 0 ≤ c ∧ c < 18446744073709551616) (hd : 0 ≤ d ∧ d < 18446744073709551616) :
    hasP (mHi a n) (mLo b n) n c d = true ↔ ∀ i, i < n → pBit a b i = pBit c d i := by
  rw [hasP_iff _ _ _ _ _ (mHi_bd a n ha) (mLo_bd b n hb) hc hd]
  constructor
  · rintro ⟨_, h⟩ i hi
    have := h i hi
    rwa [pBit_mask _ _ _ _ ha.1 hb.1 (by omega), if_pos hi] at this
  · intro h
    refine ⟨right_mask a b n hn ha hb, fun i hi => ?_⟩
    rw [pBit_mask _ _ _ _ ha.1 hb.1 (by omega), if_pos hi]
    exact h i hi
theorem has_self (a b : Int) (n : Nat) (hn : n ≤ 128) (ha : 0 ≤ a ∧ a < 18446744073709551616) (hb : 0 ≤ b ∧ b < 18446744073709551616) : hasP (mHi a n) (mLo b n) n a b = true := (has_of a b n hn a b ha hb ha hb).2 fun _ _ => rfl
theorem covers_of (a b c d : Int) (n m : Nat) (hn : n ≤ 128) (hm : m ≤ 128) (ha : 0 ≤ a ∧ a < 18446744073709551616) (hb : 0 ≤ b ∧ b < 18446744073709551616) (hc : 0 ≤ c ∧ c < 18446744073709551616) (hd : 0 ≤ d ∧ d < 18446744073709551616) :
    coversP (mHi a n) (mLo b n) n (mHi c m) (mLo d m) m = (decide ((n : Int) ≤ m) && hasP (mHi a n) (mLo b n) n c d) := by
  rw [coversP, right_mask a b n hn ha hb, right_mask c d m hm hc hd, Bool.true_and, Bool.true_and]
  by_cases h : n ≤ m
  · rw [decide_eq_true (show (n : Int) ≤ m by omega), Bool.true_and, Bool.true_and, Bool.eq_iff_iff, has_of a b n hn _ _ ha hb (mHi_bd c m hc) (mLo_bd d m hd), has_of a b n hn c d ha hb hc hd]
    constructor
    · intro q i hi
      rw [q i hi, pBit_mask _ _ _ _ hc.1 hd.1 (by omega), if_pos (by omega)]
    · intro q i hi
      rw [q i hi, pBit_mask _ _ _ _ hc.1 hd.1 (by omega), if_pos (by omega)]
  · rw [decide_eq_false (show ¬ (n : Int) ≤ m by omega), Bool.false_and, Bool.false_and]
/-- Of two prefixes that have one address one covers the other. -/
theorem nest_of (a b c d : Int) (n m : Nat) (hn : n ≤ 128) (hm : m ≤ 128) (ha : 0 ≤ a ∧ a < 18446744073709551616) (hb : 0 ≤ b ∧ b < 18446744073709551616) (hc : 0 ≤ c ∧ c < 18446744073709551616) (hd : 0 ≤ d ∧ d < 18446744073709551616)
    (h : hasP (mHi c m) (mLo d m) m a b = true) : (decide ((n : Int) ≤ m) && hasP (mHi a n) (mLo b n) n c d) = true ∨ (decide ((m : Int) ≤ n) && hasP (mHi c m) (mLo d m) m a b) = true := by
  rw [has_of c d m hm a b hc hd ha hb] at h
  by_cases hnm : n ≤ m
  · refine .inl ?_
    rw [decide_eq_true (show (n : Int) ≤ m by omega), Bool.true_and, has_of a b n hn c d ha hb hc hd]
    exact fun i hi => (h i (by omega)).symm
  · refine .inr ?_
    rw [decide_eq_true (show (m : Int) ≤ n by omega), Bool.true_and, has_of c d m hm a b hc hd ha hb]
    exact h
end Go.Proofs.YtplehdcnnaamkaaGreatDoor

/- A text cut and split at one byte: plain Lean. -/
namespace Go.Proofs.YtplehdcnnaamkaaGreatDoor
open Go.RowKit Go.Proofs.YtplehdcnnaamkaaGreatDoorW.PrintWords

theorem index_chr (d a : UInt8) (r : List UInt8) : Lib.index (a :: r) [d] = if a = d then 0 else if Lib.index r [d] = -1 then -1 else Lib.index r [d] + 1 := by
  rw [Lib.index]
  by_cases h : a = d
  · subst h; simp
  · have hb : ¬ d = a := fun h' => h h'.symm
    simp [h, hb]
theorem index_chr_word (d : UInt8) (w r : List UInt8) (h : ∀ c ∈ w, c ≠ d) : Lib.index (w ++ d :: r) [d] = (w.length : Int) := by
  induction w with
  | nil => rw [List.nil_append, index_chr, if_pos rfl]; rfl
  | cons a w ih =>
    rw [List.cons_append, index_chr, if_neg (h a (by simp)), ih fun c hc => h c (by simp [hc]), if_neg (by omega)]
    simp
theorem cut_chr_word (d : UInt8) (w r : List UInt8) (hw : ∀ c ∈ w, c ≠ d) : Lib.cut (w ++ d :: r) [d] = (w, r, true) := by
  rw [Lib.cut, index_chr_word d w r hw, if_pos (by omega)]
  simp
end Go.Proofs.YtplehdcnnaamkaaGreatDoor

/- What AddrTells leans on: Must, its panics; the document's order; walked. -/
namespace Go.Proofs.YtplehdcnnaamkaaGreatDoor
open Go.RowKit Go.Proofs.YtplehdcnnaamkaaGreatDoorW.PrintWords Go.Proofs.YtplehdcnnaamkaaGreatDoorW.PrintMore

set_option maxRecDepth 100000 in
theorem FourA4 (n : Int) (w : World) : Calls Tryz.prog 64 #[.iface 111 (.int .u32 n)] w fun e w' => e = .returned (.tuple #[.int .u32 n, .bool true]) ∧ w' = w := by
  have q := ta_44
  go_enter Tryz.func64, Tryz.ntmps64
  go_wp2_with fail
  go_ret2
  exact ⟨rfl, rfl⟩
set_option maxRecDepth 100000 in
theorem FourA6 (hi lo : Int) (w : World) : Calls Tryz.prog 64 #[.iface 34 (.agg #[.int .u64 hi, .int .u64 lo])] w fun e w' => e = .returned (.tuple #[.int .u32 0, .bool false]) ∧ w' = w := by
  have q := ta_64
  go_enter Tryz.func64, Tryz.ntmps64
  go_wp2_with fail
  go_ret2
  exact ⟨rfl, rfl⟩
end Go.Proofs.YtplehdcnnaamkaaGreatDoor

/- What is written is read again: addresses of eight pieces. Plain Lean. -/
namespace Go.Proofs.YtplehdcnnaamkaaGreatDoor
open Go.RowKit Go.Proofs.YtplehdcnnaamkaaGreatDoorW.PrintWords

theorem hex_len : ∀ (k u : Nat), u < 16 ^ (k + 1) → (digB 16 u).length ≤ k + 1
  | 0, u, h => by rw [digB_small (by simpa using h)]; simp
  | k + 1, u, h => by
    by_cases hu : u < 16
    · rw [digB_small hu]; simp
    · rw [digB_big (by omega) (by omega), List.length_append, List.length_singleton]
      have := hex_len k (u / 16) (by rw [Nat.pow_succ] at h; omega)
      omega
theorem hexCh_colon : ∀ d : Fin 16, hexCh d.val ≠ 58 := by decide
theorem hex_colon (u : Nat) : ∀ c ∈ digB 16 u, c ≠ 58 := by
  intro c hc
  obtain ⟨d, hd, rfl⟩ := digB_mem 16 (by omega) u c hc
  exact hexCh_colon ⟨d, hd⟩
theorem piece_dig (u : Nat) (h : u ≤ 65535) : pieceL (digB 16 u) = some (u : Int) := by
  have h4 := hex_len 3 u (by omega)
  rw [pieceL, if_neg (by
    rintro (h | h)
    · exact digB_ne 16 u h
    · omega), show accN 16 0 (intsOf (digB 16 u)) = _ from acc_dig 16 (by omega) (by omega) u, Int.min_eq_left (by omega)]
theorem strict_dig (u : Nat) : strictOk (digB 16 u) = false := by
  rw [strictOk, strictL, split_none _ (digB_dot 16 (by omega) (by omega) u)]
  rfl
theorem words_nil : wordsL [] = [] := rfl
theorem words_one (x : Int) : wordsL [x] = digB 16 x.toNat := by simp [wordsL, Lib.join_one]
theorem words_cons (x y : Int) (xs : List Int) : wordsL (x :: y :: xs) = digB 16 x.toNat ++ 58 :: wordsL (y :: xs) := by
  simp only [wordsL, List.map_cons, Lib.join_cons]
  simp [Lib.joinTail]
theorem words_split : ∀ xs : List Int, xs ≠ [] → splitL (isAt ⟨#[58]⟩) (wordsL xs) = xs.map fun x => digB 16 x.toNat
  | [], h => absurd rfl h
  | [x], _ => by rw [words_one, split_one _ (hex_colon _)]; rfl
  | x :: y :: xs, _ => by rw [words_cons, split_word _ _ (hex_colon _), words_split (y :: xs) (by simp)]; rfl
theorem words_ne (x : Int) (xs : List Int) : wordsL (x :: xs) ≠ [] := by
  rcases xs with _ | ⟨y, xs⟩
  · rw [words_one]; exact digB_ne _ _
  · rw [words_cons]; simp
theorem words_head (x : Int) (xs : List Int) : ∃ c t, wordsL (x :: xs) = c :: t ∧ c ≠ 58 := by
  have hd : ∃ c t, digB 16 x.toNat = c :: t := by
    rcases h : digB 16 x.toNat with _ | ⟨c, t⟩
    · exact absurd h (digB_ne _ _)
    · exact ⟨c, t, rfl⟩
  obtain ⟨c, t, e⟩ := hd
  have hc := hex_colon x.toNat c (by rw [e]; simp)
  rcases xs with _ | ⟨y, xs⟩
  · exact ⟨c, t, by rw [words_one, e], hc⟩
  · exact ⟨c, _, by rw [words_cons, e]; rfl, hc⟩
theorem words_dcol : ∀ xs : List Int, dcol (wordsL xs) = none
  | [] => rfl
  | [x] => by rw [words_one, dcol_one _ (hex_colon _)]
  | x :: y :: xs => by
    obtain ⟨c, t, e, hc⟩ := words_head y xs
    rw [words_cons, dcol_word _ _ (hex_colon _), if_neg (by rw [e]; simpa using hc), words_dcol (y :: xs)]
    rfl
theorem words_gap (r : List UInt8) : ∀ xs : List Int, dcol (wordsL xs ++ 58 :: 58 :: r) = some (wordsL xs, r)
  | [] => by rw [words_nil, List.nil_append, dcol, if_pos ⟨rfl, rfl⟩]; rfl
  | [x] => by rw [words_one, dcol_word _ _ (hex_colon _), if_pos (show (58 :: r).head? = some 58 from rfl)]; rfl
  | x :: y :: xs => by
    obtain ⟨c, t, e, hc⟩ := words_head y xs
    rw [words_cons, List.append_assoc, List.cons_append, dcol_word _ _ (hex_colon _), if_neg (by rw [e]; simpa using hc), words_gap r (y :: xs)]
    rfl
theorem list_words (last : Bool) : ∀ xs : List Int, (∀ x ∈ xs, 0 ≤ x ∧ x ≤ 65535) → listW last (xs.map fun x => digB 16 x.toNat) = some xs
  | [], _ => rfl
  | x :: xs, h => by
    have hx := h x (by simp)
    rw [List.map_cons, listW, if_neg (fun hh => absurd hh.1 (by rw [strict_dig]; decide)), piece_dig _ (by omega), list_words last xs fun y hy => h y (by simp [hy])]
    simp only [Option.map_some]
    rw [Int.toNat_of_nonneg hx.1]
theorem listD_words (last : Bool) (xs : List Int) (h : ∀ x ∈ xs, 0 ≤ x ∧ x ≤ 65535) : listD last (wordsL xs) = some xs := by
  rcases xs with _ | ⟨x, xs⟩
  · rfl
  · rw [listD, if_neg (words_ne _ _), words_split _ (by simp), list_words last _ h]
theorem words_len4 : ∀ xs : List Int, (∀ x ∈ xs, 0 ≤ x ∧ x ≤ 65535) → (wordsL xs).length ≤ 5 * xs.length - 1
  | [], _ => by simp [words_nil]
  | [x], h => by
    have := hex_len 3 x.toNat (by have := h x (by simp); omega)
    rw [words_one]
    simpa using this
  | x :: y :: xs, h => by
    have h1 := hex_len 3 x.toNat (by have := h x (by simp); omega)
    have h2 := words_len4 (y :: xs) fun z hz => h z (by simp [hz])
    rw [words_cons, List.length_append, List.length_cons]
    simp only [List.length_cons] at h2 ⊢
    omega
theorem zrun_zero : ∀ (l : List Int) (n : Nat), n ≤ zrun l → l.take n = List.replicate n 0
  | _, 0, _ => rfl
  | [], n + 1, h => absurd h (by simp [zrun])
  | x :: r, n + 1, h => by
    rw [zrun] at h
    split at h
    · rename_i hx
      rw [List.take_succ_cons, zrun_zero r n (by omega), hx]
      rfl
    · omega
theorem longF_run (xs : List Int) : ∀ j, (longF xs j).2 ≤ zrun (xs.drop (longF xs j).1)
  | 0 => Nat.zero_le _
  | j + 1 => by
    rw [longF]
    split
    · exact Nat.le_refl _
    · exact longF_run xs j
theorem six_back (xs : List Int) (hl : xs.length = 8) (hb : ∀ x ∈ xs, 0 ≤ x ∧ x ≤ 65535) : sixL (textL6 xs) = some xs := by
  have hbd := longF_bd xs hl 8 (Nat.le_refl _)
  have hz := zrun_zero _ _ (longF_run xs 8)
  rw [six_doc, textL6]
  generalize longF xs 8 = an at *
  obtain ⟨a, n⟩ := an
  simp only at hbd hz ⊢
  by_cases h2 : n < 2
  · rw [if_pos h2, docL, words_dcol]
    simp only
    rw [listD_words true xs hb]
    simp only
    rw [if_pos hl]
  · have h1 : ∀ x ∈ xs.take a, 0 ≤ x ∧ x ≤ 65535 := fun x hx => hb x (List.mem_of_mem_take hx)
    have h3 : ∀ x ∈ xs.drop (a + n), 0 ≤ x ∧ x ≤ 65535 := fun x hx => hb x (List.mem_of_mem_drop hx)
    rw [if_neg h2, List.append_assoc, show [58, 58] ++ wordsL (xs.drop (a + n)) = 58 :: 58 :: wordsL (xs.drop (a + n)) from rfl, docL, words_gap]
    simp only
    rw [listD_words false _ h1, listD_words true _ h3]
    simp only [List.length_take, List.length_drop, hl]
    rw [if_pos (by omega), show 8 - (min a 8 + (8 - (a + n))) = n by omega, ← hz, List.append_assoc, ← List.drop_drop, List.take_append_drop, List.take_append_drop]
theorem text_len (xs : List Int) (hl : xs.length = 8) (hb : ∀ x ∈ xs, 0 ≤ x ∧ x ≤ 65535) : (textL6 xs).length ≤ 39 := by
  have hbd := longF_bd xs hl 8 (Nat.le_refl _)
  rw [textL6]
  generalize longF xs 8 = an at *
  obtain ⟨a, n⟩ := an
  simp only at hbd ⊢
  by_cases h2 : n < 2
  · rw [if_pos h2]
    have := words_len4 xs hb
    omega
  · have h1 := words_len4 (xs.take a) fun x hx => hb x (List.mem_of_mem_take hx)
    have h3 := words_len4 (xs.drop (a + n)) fun x hx => hb x (List.mem_of_mem_drop hx)
    rw [List.length_take, hl] at h1
    rw [List.length_drop, hl] at h3
    rw [if_neg h2]
    simp only [List.length_append, List.length_cons, List.length_nil]
    omega
theorem half_pieces (hi lo : Int) : half ((piecesOf hi lo).take 4) = hi ∧ half ((piecesOf hi lo).drop 4) = lo := by
  constructor <;> simp only [piecesOf, half, List.take_succ_cons, List.take_zero, List.drop_succ_cons, List.drop_zero, List.foldl_cons, List.foldl_nil] <;> omega
end Go.Proofs.YtplehdcnnaamkaaGreatDoor

/- Equal lists of numbers, as the library tells it; walked. -/
namespace Go.Proofs.YtplehdcnnaamkaaGreatDoor
open Go.RowKit Go.Proofs.YtplehdcnnaamkaaGreatDoorW.PrintWords Go.Proofs.YtplehdcnnaamkaaGreatDoorW.PrintMore

theorem C_kget {k : IntKind} {w : World} {A : Option Addr} {xs : List Int} (h : Kd.C (Kd.int k) w A xs.length xs) (j : Nat) (hj : j < xs.length) : ∃ ad, A = some ad ∧ w.cell? (ad.add j) = some (.int k (xs.getD j 0)) := by
  obtain ⟨ad, rfl⟩ := C_some h (by omega)
  refine ⟨ad, rfl, ?_⟩
  rw [C_int_at h j hj, List.getD_eq_getElem?_getD, List.getElem?_eq_getElem hj]
  rfl
theorem take_eq_next (xs ys : List Int) (j : Nat) (hx : j < xs.length) (hy : j < ys.length) (h : xs.take j = ys.take j) (he : xs.getD j 0 = ys.getD j 0) : xs.take (j + 1) = ys.take (j + 1) := by
  rw [List.getD_eq_getElem?_getD, List.getD_eq_getElem?_getD, List.getElem?_eq_getElem hx, List.getElem?_eq_getElem hy] at he
  rw [List.take_succ_eq_append_getElem hx, List.take_succ_eq_append_getElem hy, h, show xs[j] = ys[j] from he]
theorem take_ne (xs ys : List Int) (j : Nat) (he : xs.getD j 0 ≠ ys.getD j 0) : xs ≠ ys := fun h => he (by rw [h])
set_option maxHeartbeats 2000000 in
theorem EqualF_calls (xs ys : List Int) (n m : Nat) (hn : n = xs.length) (hm : m = ys.length) (A B : Option Addr) (c c' : Nat) (w : World) (hnm : n ≤ 1000000) (hA : ∀ j, j < xs.length → ∃ ad, A = some ad ∧ w.cell? (ad.add j) = some (.int .u32 (xs.getD j 0))) (hB : ∀ j, j < ys.length → ∃ ad, B = some ad ∧ w.cell? (ad.add j) = some (.int .u32 (ys.getD j 0))) :
    Calls Tryz.prog 140 #[.slice A n c, .slice B m c'] w fun e w' => e = .returned (.bool (decide (xs = ys))) ∧ Below w.heap.size w w' := by
  have HA := Aside0.mk hA
  have HB := Aside0.mk hB
  have HN := Lib.hid hn
  have HM := Lib.hid hm
  by_cases hd : n = m
  · subst hd
    clear hA hB hn hm
    go_enter Tryz.func140, Tryz.ntmps140
    go_wp2_with fail
    go_loopw [13] (fun i wr => ∃ j : Nat, i = .int .i64 j ∧ j ≤ n ∧ Aside0 (xs.take j = ys.take j) ∧ Aside0 (Below w.heap.size w wr)) (fun i _ => n - (intOf i).toNat)
    case atStart => exact ⟨0, rfl, by omega, ⟨rfl⟩, ⟨Below.refl _ _⟩⟩
    case round =>
      obtain ⟨j, rfl, hj, ht, hbw⟩ := hrel
      by_cases hlt : j < n
      · have hjx : j < xs.length := by rw [← HN.out]; exact hlt
        have hjy : j < ys.length := by rw [← HM.out]; exact hlt
        obtain ⟨ad, rfl, cx0⟩ := HA.out j hjx
        obtain ⟨bd, rfl, cy0⟩ := HB.out j hjy
        have cx := (hbw.out.cell (cell_blk cx0)).trans cx0
        have cy := (hbw.out.cell (cell_blk cy0)).trans cy0
        have hj0 : (0 : Int) ≤ (j : Int) := by omega
        have hji : (j : Int) < (n : Int) := by omega
        by_cases he : xs.getD j 0 = ys.getD j 0
        · have HT := Lib.hid (take_eq_next xs ys j hjx hjy ht.out he)
          rw [he] at cx
          clear he cx0 cy0 hjx hjy
          generalize ys.getD j 0 = y at cx cy
          go_wp2_with fail
          go_region
          all_goals
            go_wp2_with fail
            exact ⟨⟨j + 1, by go_num, by omega, ⟨HT.out⟩, ⟨hbw.out.drew⟩⟩, by simp [intOf]; omega⟩
        · have HF := Lib.hid (show false = decide (xs = ys) from (decide_eq_false (take_ne xs ys j he)).symm)
          have hb : (xs.getD j 0 == ys.getD j 0) = false := by simpa using he
          have hb' : (xs.getD j 0 != ys.getD j 0) = true := by simpa using he
          clear cx0 cy0 hjx hjy
          generalize ys.getD j 0 = y at cx cy hb hb' he
          generalize xs.getD j 0 = x at cx hb hb' he
          go_wp2_with fail
          go_region
          all_goals
            go_wp2_with fail
            go_ret
            exact ⟨ret_bool HF.out, hbw.out.drew⟩
      · have HF := Lib.hid (show true = decide (xs = ys) by
          have := ht.out
          rw [List.take_of_length_le (by rw [← HN.out]; omega), List.take_of_length_le (by rw [← HM.out]; omega)] at this
          exact (decide_eq_true this).symm)
        go_wp2_with fail
        go_ret
        exact ⟨ret_bool HF.out, hbw.out⟩
  · have HF := Lib.hid (show false = decide (xs = ys) from (decide_eq_false (fun h => hd (by rw [hn, hm, h]))).symm)
    clear hA hB hn hm
    go_enter Tryz.func140, Tryz.ntmps140
    go_wp2_with fail
    go_ret
    exact ⟨ret_bool HF.out, Below.refl _ _⟩
end Go.Proofs.YtplehdcnnaamkaaGreatDoor

/- What an address embeds, walked. -/
namespace Go.Proofs.YtplehdcnnaamkaaGreatDoor
open Go.RowKit Go.Proofs.YtplehdcnnaamkaaGreatDoorW.PrintWords Go.Proofs.YtplehdcnnaamkaaGreatDoorW.PrintMore

def in1 (hi lo : Int) : Bool := decide ((hi = 0 ∧ lo / 4294967296 = 65535) ∨ (hi = 0 ∧ lo / 4294967296 = 0 ∧ 1 < lo % 4294967296) ∨ (hi = 28428538856079360 ∧ lo / 4294967296 = 0))
def in2 (hi : Int) : Bool := decide (hi / 281474976710656 = 8194)
def in3 (hi : Int) : Bool := decide (hi / 4294967296 = 536936448)
def in4 (lo : Int) : Bool := decide (lo / 4294967296 = 24318 ∨ lo / 4294967296 = 33578750)
def inL1 (hi lo : Int) : List Int := bif in1 hi lo then [lo % 4294967296] else []
def inL2 (hi lo : Int) : List Int := inL1 hi lo ++ (bif in2 hi then [hi / 65536 % 4294967296] else [])
def inL3 (hi lo : Int) : List Int := inL2 hi lo ++ (bif in3 hi then [hi % 4294967296, 4294967295 - lo % 4294967296] else [])
/-- What an address of eight pieces embeds. -/
def inL4 (hi lo : Int) : List Int := inL3 hi lo ++ (bif in4 lo then [lo % 4294967296] else [])
theorem info_four : (Tryz.prog.info? 111).map (fun i => (i.zero, i.size, i.bytes)) = some (some (.int .u32 0), 1, 4) := by kernel_rfl

theorem inL1_len (hi lo : Int) : (inL1 hi lo).length ≤ 1 := by
  rw [inL1]
  cases in1 hi lo <;> simp
theorem inL2_len (hi lo : Int) : (inL2 hi lo).length ≤ 2 := by
  have := inL1_len hi lo
  rw [inL2, List.length_append]
  cases in2 hi <;> simp <;> omega
theorem inL3_len (hi lo : Int) : (inL3 hi lo).length ≤ 4 := by
  have := inL2_len hi lo
  rw [inL3, List.length_append]
  cases in3 hi <;> simp <;> omega
set_option maxHeartbeats 8000000 in
set_option maxRecDepth 100000 in
theorem Inner6_calls (hi lo : Int) (_h0 : 0 ≤ hi ∧ hi < 18446744073709551616) (h1 : 0 ≤ lo ∧ lo < 18446744073709551616) (w : World) :
    Calls Tryz.prog 141 #[.iface 34 (.agg #[.int .u64 hi, .int .u64 lo])] w fun e w' => ∃ v, e = .returned v ∧ Kd.R (Kd.int .u32) 111 w' w.heap.size (fun _ => True) v (inL4 hi lo) ∧ Below w.heap.size w w' := by
  have q6 := ta_66
  go_enter Tryz.func141, Tryz.ntmps141
  go_upto_region 5 with (fail)
  obtain ⟨W1, hW1⟩ : ∃ W1, W1 = w.alloc (.cells #[.int .u64 hi, .int .u64 lo] 34) := ⟨_, rfl⟩
  rw [← hW1]
  have hg : W1.heap[w.heap.size]? = some (.cells #[.int .u64 hi, .int .u64 lo] 34 (0, 0)) := by rw [hW1]; exact heap_alloc_new' _ _ _ rfl
  have hlt : w.heap.size < W1.heap.size := by rw [hW1]; simp
  have B1 : Aside0 (Below w.heap.size w W1) := ⟨by rw [hW1]; exact (Below.refl _ _).alloc (Nat.le_refl _) _⟩
  obtain ⟨g, hgs⟩ : ∃ g, g = w.heap.size := ⟨_, rfl⟩
  rw [← hgs] at hg hlt ⊢
  have HGS := Lib.hid hgs
  have HG := Aside0.mk hg
  obtain ⟨c0, _⟩ := heap_cell (j := 0) hg rfl
  obtain ⟨c1, _⟩ := heap_cell (j := 1) hg rfl
  clear hg hgs hW1
  go_region
  obtain ⟨w1, hw1⟩ : ∃ w1, w1 = W1.drew := ⟨_, rfl⟩
  rw [← hw1]
  have hg2 : w1.heap[g]? = some (.cells #[.int .u64 hi, .int .u64 lo] 34 (0, 0)) := by rw [hw1]; exact HG.out
  have B2 : Aside0 (Below w.heap.size w w1) := ⟨by rw [hw1]; exact B1.out.drew⟩
  have hlt2 : g < w1.heap.size := by rw [hw1]; exact hlt
  have HG2 := Aside0.mk hg2
  clear hw1 HG B1 hlt c0 c1
  obtain ⟨c0, _⟩ := heap_cell (j := 0) hg2 rfl
  obtain ⟨c1, _⟩ := heap_cell (j := 1) hg2 rfl
  clear hg2
  have hlow : 0 ≤ lo % 4294967296 ∧ lo % 4294967296 < 4294967296 := by omega
  have htop : 0 ≤ lo / 4294967296 ∧ lo / 4294967296 < 4294967296 := by omega
  obtain ⟨low, hlw⟩ : ∃ l, l = lo % 4294967296 := ⟨_, rfl⟩
  obtain ⟨top, htp⟩ : ∃ l, l = lo / 4294967296 := ⟨_, rfl⟩
  rw [← hlw] at hlow ⊢
  rw [← htp] at htop ⊢
  have HLW := Lib.hid hlw
  have HTP := Lib.hid htp
  clear hlw htp
  go_upto_region 6 with (fail)
  go_cut [49] from 8 (fun s wx => ∃ c, s = .bool c ∧ Aside0 (c = in1 hi lo) ∧ w1 = wx)
  case first =>
    by_cases a1 : hi = 0
    · have b1 : (hi == 0) = true := by simpa using a1
      have b5 : (hi == 28428538856079360) = false := by rw [beq_eq_false_iff_ne]; omega
      have A1 := Lib.hid a1
      clear a1
      by_cases a2 : top = 65535
      · have b2 : (top == 65535) = true := by simpa using a2
        have A1 := Lib.hid (And.intro A1.out a2)
        clear a2
        have HI := Lib.hid (show in1 hi lo = true from decide_eq_true (by have := HLW.out; have := HTP.out; have := A1.out; omega))
        go_wp2_with fail
        go_meet
        case rel => exact ⟨_, rfl, ⟨HI.out.symm⟩, rfl⟩
      · have b2 : (top == 65535) = false := by simpa using a2
        by_cases a3 : top = 0
        · have b3 : (top == 0) = true := by simpa using a3
          have A1 := Lib.hid (And.intro A1.out (And.intro a2 a3))
          clear a2 a3
          by_cases a4 : 1 < low
          · have A1 := Lib.hid (And.intro A1.out a4)
            have HI := Lib.hid (show in1 hi lo = true from decide_eq_true (by have := HLW.out; have := HTP.out; have := A1.out; omega))
            go_wp2_with fail
            go_meet
            case rel => exact ⟨_, rfl, ⟨HI.out.symm⟩, rfl⟩
          · have A1 := Lib.hid (And.intro A1.out a4)
            have HI := Lib.hid (show in1 hi lo = false from decide_eq_false (by have := HLW.out; have := HTP.out; have := A1.out; omega))
            go_wp2_with fail
            go_meet
            case rel => exact ⟨_, rfl, ⟨HI.out.symm⟩, rfl⟩
        · have b3 : (top == 0) = false := by simpa using a3
          have A1 := Lib.hid (And.intro A1.out (And.intro a2 a3))
          clear a2 a3
          have HI := Lib.hid (show in1 hi lo = false from decide_eq_false (by have := HLW.out; have := HTP.out; have := A1.out; omega))
          go_wp2_with fail
          go_meet
          case rel => exact ⟨_, rfl, ⟨HI.out.symm⟩, rfl⟩
    · have b1 : (hi == 0) = false := by simpa using a1
      by_cases a5 : hi = 28428538856079360
      · have b5 : (hi == 28428538856079360) = true := by simpa using a5
        have A0 := Lib.hid (And.intro a1 a5)
        clear a1 a5
        by_cases a3 : top = 0
        · have b3 : (top == 0) = true := by simpa using a3
          have A1 := Lib.hid (And.intro A0.out a3)
          clear a3
          have HI := Lib.hid (show in1 hi lo = true from decide_eq_true (by have := HLW.out; have := HTP.out; have := A1.out; omega))
          go_wp2_with fail
          go_meet
          case rel => exact ⟨_, rfl, ⟨HI.out.symm⟩, rfl⟩
        · have b3 : (top == 0) = false := by simpa using a3
          have A1 := Lib.hid (And.intro A0.out a3)
          clear a3
          have HI := Lib.hid (show in1 hi lo = false from decide_eq_false (by have := HLW.out; have := HTP.out; have := A1.out; omega))
          go_wp2_with fail
          go_meet
          case rel => exact ⟨_, rfl, ⟨HI.out.symm⟩, rfl⟩
      · have b5 : (hi == 28428538856079360) = false := by simpa using a5
        have A1 := Lib.hid (And.intro a1 a5)
        clear a1 a5
        have HI := Lib.hid (show in1 hi lo = false from decide_eq_false (by have := HLW.out; have := HTP.out; have := A1.out; omega))
        go_wp2_with fail
        go_meet
        case rel => exact ⟨_, rfl, ⟨HI.out.symm⟩, rfl⟩
  case rest =>
  obtain ⟨c, rfl, hc, rfl⟩ := hcut
  go_upto_if 49 with (fail)
  go_cut [5] from 8 (fun s wx => Kd.R (Kd.int .u32) 111 wx w1.heap.size (fun _ => True) s (inL1 hi lo) ∧ Below w1.heap.size w1 wx)
  case first =>
    cases c
    · have HL := Lib.hid (show ([] : List Int) = inL1 hi lo by rw [inL1, ← hc.out]; rfl)
      go_wp2_with fail
      go_meet
      case rel => exact ⟨by rw [← HL.out]; exact Kd.R_nil _ _ _ _ _, Below.refl _ _⟩
    · have HL := Lib.hid (show [] ++ [low] = inL1 hi lo by rw [inL1, ← hc.out, HLW.out]; rfl)
      go_wp2_with ((with_reducible refine gate_builtin (b := .append) (xs := #[.tmp 50, .tmp 52]) rfl ?_); at_builtin; refine Kd.R_append (Kd.int .u32) (w0 := w1) w1.heap.size rfl (.tmp 50) (.tmp 52) 208 111 (.int .u32 0) 4 rfl Tryz.underlying208 info_four rfl (by decide) (by omega) (.slice none 0 0) [] low [.int .u32 low] (fun _ => True) (fun _ => False) rfl rfl ?aP (fun _ hk => hk.elim) ?aF ?aO ?aB ?aS ?aL ?_; (case aP => exact rfl); (case aF => exact fun _ _ => trivial); (case aO => exact (Kd.R_nil _ _ _ _ _)); (case aB => exact (Below.refl _ _)); (case aS => omega); (case aL => (simp)); intro v1 w4 ho hb hg _)
      go_meet
      case rel => exact ⟨by rw [← HL.out]; exact ho, hb⟩
  case rest =>
  obtain ⟨hO, hb⟩ := hcut
  have hs : w1.heap.size ≤ wc.heap.size := hb.size
  have hgc := (hb.block g hlt2).trans HG2.out
  clear c0 c1
  obtain ⟨c0, _⟩ := heap_cell (j := 0) hgc rfl
  obtain ⟨c1, _⟩ := heap_cell (j := 1) hgc rfl
  have HO := Aside0.mk hO
  have HB := Aside0.mk hb
  clear hO hb hgc
  go_upto_if 57 with (fail)
  go_cut [5] from 8 (fun s wx => Kd.R (Kd.int .u32) 111 wx w1.heap.size (fun _ => True) s (inL2 hi lo) ∧ Below w1.heap.size w1 wx)
  case first =>
    rcases h : (hi / 281474976710656 == 8194) with _ | _
    · have HL := Lib.hid (show inL1 hi lo = inL2 hi lo by rw [inL2, show in2 hi = false from h]; simp)
      go_wp2_with fail
      go_meet
      case rel => exact ⟨by rw [← HL.out]; exact HO.out, HB.out⟩
    · have HL := Lib.hid (show inL1 hi lo ++ [hi / 65536 % 4294967296] = inL2 hi lo by rw [inL2, show in2 hi = true from h]; simp)
      have hln := inL1_len hi lo
      go_wp2_with ((with_reducible refine gate_builtin (b := .append) (xs := #[.tmp 58, .tmp 63]) rfl ?_); at_builtin; refine Kd.R_append (Kd.int .u32) (w0 := w1) w1.heap.size rfl (.tmp 58) (.tmp 63) 208 111 (.int .u32 0) 4 rfl Tryz.underlying208 info_four rfl (by decide) (by omega) u5 (inL1 hi lo) (hi / 65536 % 4294967296) [.int .u32 (hi / 65536 % 4294967296)] (fun _ => True) (fun _ => False) rfl rfl ?aP (fun _ hk => hk.elim) ?aF ?aO ?aB ?aS ?aL ?_; (case aP => exact rfl); (case aF => exact fun _ _ => trivial); (case aO => exact HO.out); (case aB => exact HB.out); (case aS => omega); (case aL => omega); intro v1 w4 ho hb hg _)
      go_meet
      case rel => exact ⟨by rw [← HL.out]; exact ho, hb⟩
  case rest =>
  obtain ⟨hO, hb⟩ := hcut
  have hs : w1.heap.size ≤ wc.heap.size := hb.size
  have hgc := (hb.block g hlt2).trans HG2.out
  obtain ⟨c0, _⟩ := heap_cell (j := 0) hgc rfl
  obtain ⟨c1, _⟩ := heap_cell (j := 1) hgc rfl
  have HO := Aside0.mk hO
  have HB := Aside0.mk hb
  clear hO hb hgc
  have HX := Lib.hid (show (bits BinOp.xor IntKind.u32 (if IntKind.u32.signed = true then -1 else IntKind.u32.max) low) = 4294967295 - low from xor_max32 low hlow.1 hlow.2)
  go_upto_if 68 with (fail)
  go_cut [5] from 8 (fun s wx => Kd.R (Kd.int .u32) 111 wx w1.heap.size (fun _ => True) s (inL3 hi lo) ∧ Below w1.heap.size w1 wx)
  case first =>
    rcases h : (hi / 4294967296 == 536936448) with _ | _
    · have HL := Lib.hid (show inL2 hi lo = inL3 hi lo by rw [inL3, show in3 hi = false from h]; simp)
      go_wp2_with fail
      go_meet
      case rel => exact ⟨by rw [← HL.out]; exact HO.out, HB.out⟩
    · have HL := Lib.hid (show inL2 hi lo ++ [hi % 4294967296, (bits BinOp.xor IntKind.u32 (if IntKind.u32.signed = true then -1 else IntKind.u32.max) low)] = inL3 hi lo by rw [inL3, show in3 hi = true from h, HX.out, HLW.out]; simp)
      have hln := inL2_len hi lo
      go_wp2_with ((with_reducible refine gate_builtin (b := .append) (xs := #[.tmp 69, .tmp 75]) rfl ?_); at_builtin; go_loud (refine Kd.R_append_rows (Kd.int .u32) (w0 := w1) w1.heap.size rfl (.tmp 69) (.tmp 75) 208 111 (.int .u32 0) 4 rfl Tryz.underlying208 info_four rfl (by decide) (by omega) u5 (inL2 hi lo) [hi % 4294967296, (bits BinOp.xor IntKind.u32 (if IntKind.u32.signed = true then -1 else IntKind.u32.max) low)] _ _ _ (fun _ => True) (fun _ => False) rfl rfl ?aO ?aR (fun _ _ h => h) (fun _ h => h.elim) ?aF ?aB ?aS ?aL ?_); go_loud (case aO => exact (Kd.R_below HO.out ((Below.refl _ _).alloc (Nat.le_refl _) _))); go_loud (case aR => exact (C_new .u32 wc [hi % 4294967296, (bits BinOp.xor IntKind.u32 (if IntKind.u32.signed = true then -1 else IntKind.u32.max) low)] _ (show 2 ≤ 9223372036854775807 by omega))); (case aF => exact fun _ _ => trivial); go_loud (case aB => exact (HB.out.alloc (by omega) _)); go_loud (case aS => (simp; omega)); go_loud (case aL => omega); intro v1 w4 ho hb hg _)
      go_meet
      case rel => exact ⟨by rw [← HL.out]; exact ho, hb⟩
  case rest =>
  obtain ⟨hO, hb⟩ := hcut
  have hs : w1.heap.size ≤ wc.heap.size := hb.size
  have hgc := (hb.block g hlt2).trans HG2.out
  obtain ⟨c0, _⟩ := heap_cell (j := 0) hgc rfl
  obtain ⟨c1, _⟩ := heap_cell (j := 1) hgc rfl
  have HO := Aside0.mk hO
  have HB := Aside0.mk hb
  clear hO hb hgc
  obtain ⟨tv, htv⟩ : ∃ tv, tv = top - (if top / 33554432 % 2 = 1 then 33554432 else 0) := ⟨_, rfl⟩
  have hAN := strike_25 top htop.1 htop.2
  rw [← htv] at hAN
  have HI4 := Lib.hid (show in4 lo = (tv == 24318) by
    rw [in4, ← HTP.out]
    have e : (top = 24318 ∨ top = 33578750) ↔ tv = 24318 := by
      rw [htv]
      split <;> omega
    by_cases h : tv = 24318
    · rw [decide_eq_true (e.2 h), h]
      rfl
    · rw [decide_eq_false (fun hh => h (e.1 hh)), beq_eq_false_iff_ne.2 h])
  clear htv
  go_upto_if 79 with (fail)
  go_cut [5] from 8 (fun s wx => Kd.R (Kd.int .u32) 111 wx w1.heap.size (fun _ => True) s (inL4 hi lo) ∧ Below w1.heap.size w1 wx)
  case first =>
    rcases h : (tv == 24318) with _ | _
    · have HL := Lib.hid (show inL3 hi lo = inL4 hi lo by rw [inL4, HI4.out, h]; simp)
      go_wp2_with fail
      go_meet
      case rel => exact ⟨by rw [← HL.out]; exact HO.out, HB.out⟩
    · have HL := Lib.hid (show inL3 hi lo ++ [low] = inL4 hi lo by rw [inL4, HI4.out, h, HLW.out]; simp)
      have hln := inL3_len hi lo
      go_wp2_with ((with_reducible refine gate_builtin (b := .append) (xs := #[.tmp 80, .tmp 82]) rfl ?_); at_builtin; refine Kd.R_append (Kd.int .u32) (w0 := w1) w1.heap.size rfl (.tmp 80) (.tmp 82) 208 111 (.int .u32 0) 4 rfl Tryz.underlying208 info_four rfl (by decide) (by omega) u5 (inL3 hi lo) low [.int .u32 low] (fun _ => True) (fun _ => False) rfl rfl ?aP (fun _ hk => hk.elim) ?aF ?aO ?aB ?aS ?aL ?_; (case aP => exact rfl); (case aF => exact fun _ _ => trivial); (case aO => exact HO.out); (case aB => exact HB.out); (case aS => omega); (case aL => omega); intro v1 w4 ho hb hg _)
      go_meet
      case rel => exact ⟨by rw [← HL.out]; exact ho, hb⟩
  case rest =>
  obtain ⟨hO, hb⟩ := hcut
  go_wp2_with fail
  go_ret
  exact ⟨_, rfl, Kd.R_lower hO B2.out.size, below_then B2.out B2.out.size hb⟩
end Go.Proofs.YtplehdcnnaamkaaGreatDoor

/- An address's text, of either sort: what is written is read; the document's Text, walked. -/
namespace Go.Proofs.YtplehdcnnaamkaaGreatDoor
open Go.RowKit Go.Proofs.YtplehdcnnaamkaaGreatDoorW.PrintWords Go.Proofs.YtplehdcnnaamkaaGreatDoorW.PrintMore

/-- An address's text. -/
def adT : Bool × Int × Int → ByteArray
  | (true, hi, lo) => ⟨(textL6 (piecesOf hi lo)).toArray⟩
  | (false, _, n) => fourB n.toNat
theorem dig_colon (u : Nat) : ∀ c ∈ digB 10 u, c ≠ 58 := by
  intro c hc
  obtain ⟨d, hd, rfl⟩ := digB_mem 10 (by omega) u c hc
  exact hexCh_colon ⟨d, by omega⟩
theorem four_colon (n : Nat) : ∀ c ∈ fourT n, c ≠ 58 := by
  intro c hc
  simp only [fourT, List.mem_append, List.mem_cons] at hc
  rcases hc with h | rfl | h | rfl | h | rfl | h
  · exact dig_colon _ c h
  · decide
  · exact dig_colon _ c h
  · decide
  · exact dig_colon _ c h
  · decide
  · exact dig_colon _ c h
theorem six_has_colon (hi lo : Int) : (58 : UInt8) ∈ textL6 (piecesOf hi lo) := by
  rw [textL6]
  split
  · rw [piecesOf, words_cons]
    simp
  · simp
theorem six_strict (hi lo : Int) : strictOk (textL6 (piecesOf hi lo)) = false := by
  rcases strict_val (textL6 (piecesOf hi lo)) with ⟨_, h, _⟩ | ⟨n, _, _, _, _, h⟩
  · exact h
  · exact absurd rfl (four_colon n 58 (by rw [← h]; exact six_has_colon hi lo))
theorem six_text_back (hi lo : Int) (h0 : 0 ≤ hi ∧ hi < 18446744073709551616) (h1 : 0 ≤ lo ∧ lo < 18446744073709551616) : sixHi (textL6 (piecesOf hi lo)) = hi ∧ sixLo (textL6 (piecesOf hi lo)) = lo ∧ sixOk (textL6 (piecesOf hi lo)) = true := by
  have h := six_some (six_back (piecesOf hi lo) rfl (pieces_bd hi lo h0 h1))
  have hp := half_pieces hi lo
  rw [hp.1, hp.2] at h
  exact h
/-- What is written is read. -/
theorem ad_back (a : Bool × Int × Int) (ha : adOk a) : adOf (adT a).data.toList = some a := by
  obtain ⟨sx, hi, lo⟩ := a
  cases sx
  · obtain ⟨rfl, h0, h1⟩ := ha
    have e : (adT (false, 0, lo)).data.toList = fourT lo.toNat := fourB_list _
    have hs := strict_text lo.toNat (by omega)
    rw [e, adOf, if_pos (by rw [strictOk, hs]; rfl), strictN, hs]
    simp only [Option.getD_some]
    rw [Int.toNat_of_nonneg h0]
  · have e : (adT (true, hi, lo)).data.toList = textL6 (piecesOf hi lo) := rfl
    have hb := six_text_back hi lo ha.1 ha.2
    rw [e, adOf, if_neg (by rw [six_strict]; decide), if_pos hb.2.2, hb.1, hb.2.1]

end Go.Proofs.YtplehdcnnaamkaaGreatDoor

/- Texts of addresses, and equal lists of texts, walked. -/
namespace Go.Proofs.YtplehdcnnaamkaaGreatDoor
open Go.RowKit Go.Proofs.YtplehdcnnaamkaaGreatDoorW.PrintWords Go.Proofs.YtplehdcnnaamkaaGreatDoorW.PrintMore

theorem adT_size (a : Bool × Int × Int) (ha : adOk a) : (adT a).size ≤ 300 := by
  obtain ⟨sx, hi, lo⟩ := a
  cases sx
  · have := fourB_size lo.toNat (by have := ha.2.2; omega)
    show (fourB lo.toNat).size ≤ 300
    omega
  · have := text_len (piecesOf hi lo) rfl (pieces_bd hi lo ha.1 ha.2)
    show (textL6 (piecesOf hi lo)).toArray.size ≤ 300
    rw [List.size_toArray]
    omega
theorem TextM4 (n : Int) (h0 : 0 ≤ n) (h1 : n < 4294967296) (w : World) (hP : Aside0 (Pows w)) : Calls Tryz.prog 70 #[.int .u32 n] w fun e w' => e = .returned (.string (adT (false, 0, n))) ∧ Below w.heap.size w w' := by
  have h := Text_calls n.toNat (by omega) w hP
  rwa [Int.toNat_of_nonneg h0] at h

end Go.Proofs.YtplehdcnnaamkaaGreatDoor

/- Tries: prefixes as paths, lists of prefixes with verdicts; plain Lean. -/
namespace Go.Proofs.YtplehdcnnaamkaaGreatDoor

/-- A prefix: its halves and its length. -/
abbrev P3 := Int × Int × Int
def okP (p : P3) : Prop := (0 ≤ p.1 ∧ p.1 < 18446744073709551616) ∧ 0 ≤ p.2.1 ∧ p.2.1 < 18446744073709551616
def rP (p : P3) : Bool := rightP p.1 p.2.1 p.2.2
def bitB (hi lo : Int) (i : Nat) : Bool := pBit hi lo i == 1
/-- The way that the first bits tell. -/
def pathN (hi lo : Int) (n : Nat) : List Bool := (List.range n).map (bitB hi lo)
def pathP (p : P3) : List Bool := pathN p.1 p.2.1 p.2.2.toNat
/-- Does a prefix stand ahead of another one? -/
def befB (a b : P3) : Bool := if a.1 ≠ b.1 then decide (a.1 < b.1) else if a.2.1 ≠ b.2.1 then decide (a.2.1 < b.2.1) else decide (a.2.2 < b.2.2)
theorem befB_iff (a b : P3) : befB a b = true ↔ a.1 < b.1 ∨ (a.1 = b.1 ∧ (a.2.1 < b.2.1 ∨ (a.2.1 = b.2.1 ∧ a.2.2 < b.2.2))) := by
  rw [befB]
  split
  · rw [decide_eq_true_iff]; omega
  · split
    · rw [decide_eq_true_iff]; omega
    · rw [decide_eq_true_iff]; omega
theorem befB_trans {a b c : P3} (h : befB a b = true) (h' : befB b c = true) : befB a c = true := by
  rw [befB_iff] at h h' ⊢
  omega
theorem befB_total (a b : P3) (h : befB a b = false) : a = b ∨ befB b a = true := by
  have h' : ¬ befB a b = true := by rw [h]; exact Bool.false_ne_true
  rw [befB_iff] at h'
  rw [befB_iff]
  obtain ⟨a1, a2, a3⟩ := a
  obtain ⟨b1, b2, b3⟩ := b
  simp only [Prod.mk.injEq] at *
  omega
theorem pathN_len (hi lo : Int) (n : Nat) : (pathN hi lo n).length = n := by simp [pathN]
theorem pathN_eq (hi lo a b : Int) (n m : Nat) : pathN hi lo n = pathN a b m ↔ n = m ∧ ∀ i, i < n → bitB hi lo i = bitB a b i := by
  constructor
  · intro h
    have hl := congrArg List.length h
    rw [pathN_len, pathN_len] at hl
    refine ⟨hl, fun i hi => ?_⟩
    have := congrArg (·[i]?) h
    simpa [pathN, hi, show i < m by omega] using this
  · rintro ⟨rfl, h⟩
    apply List.map_congr_left
    intro i hi
    exact h i (List.mem_range.1 hi)
theorem bitB_pBit (hi lo a b : Int) (i : Nat) : bitB hi lo i = bitB a b i ↔ pBit hi lo i = pBit a b i := by
  rw [bitB, bitB]
  rcases pBit_01 hi lo i with h | h <;> rcases pBit_01 a b i with h' | h' <;> rw [h, h'] <;> decide
theorem rP_len (p : P3) (h : rP p = true) : 0 ≤ p.2.2 ∧ p.2.2 ≤ 128 := rightP_bd _ _ _ h
theorem rP_zero (p : P3) (ho : okP p) (h : rP p = true) (i : Nat) (h1 : p.2.2.toNat ≤ i) (h2 : i < 128) : pBit p.1 p.2.1 i = 0 := by
  have hl := rP_len p h
  have e : p.2.2 = ((p.2.2.toNat : Nat) : Int) := by omega
  rw [rP, e] at h
  exact ((rightP_iff _ _ _ ho.1 ho.2).1 h).2 i h1 h2
theorem pathP_inj (p q : P3) (hp : okP p) (hq : okP q) (rp : rP p = true) (rq : rP q = true) (h : pathP p = pathP q) : p = q := by
  have lp := rP_len p rp
  have lq := rP_len q rq
  obtain ⟨hn, hb⟩ := (pathN_eq _ _ _ _ _ _).1 h
  have := pBit_ext p.1 p.2.1 q.1 q.2.1 hp.1 hp.2 hq.1 hq.2 fun i hi => by
    by_cases hin : i < p.2.2.toNat
    · exact (bitB_pBit _ _ _ _ _).1 (hb i hin)
    · rw [rP_zero p hp rp i (by omega) hi, rP_zero q hq rq i (by omega) hi]
  obtain ⟨p1, p2, p3⟩ := p
  obtain ⟨q1, q2, q3⟩ := q
  simp only [Prod.mk.injEq] at *
  omega
/-- The document's lists. -/
abbrev E4 := P3 × Int
def dropL (l : List E4) (p : P3) : List E4 := l.filter fun x => decide (x.1 ≠ p)
def insL (p : P3) (v : Int) : List E4 → List E4
  | [] => [(p, v)]
  | x :: l => if befB p x.1 = true then (p, v) :: x :: l else x :: insL p v l
def putL (l : List E4) (p : P3) (v : Int) : List E4 := insL p v (dropL l p)

/-- What a trie's nodes tell: at a way a verdict and its prefix. -/
structure Inv (I : List Bool → Option (Int × P3)) (L : List E4) : Prop where
  node : ∀ π v p, I π = some (v, p) → okP p ∧ rP p = true ∧ pathP p = π ∧ (p, v) ∈ L
  entry : ∀ e ∈ L, okP e.1 ∧ rP e.1 = true ∧ I (pathP e.1) = some (e.2, e.1)
  sorted : L.Pairwise fun x y => befB x.1 y.1 = true
theorem Inv.nil : Inv (fun _ => none) [] := ⟨fun _ _ _ h => by (cases h), fun _ h => by (cases h), List.Pairwise.nil⟩
theorem mem_dropL (l : List E4) (p : P3) (x : E4) : x ∈ dropL l p ↔ x ∈ l ∧ x.1 ≠ p := by simp [dropL]
theorem mem_insL (p : P3) (v : Int) : ∀ (l : List E4) (x : E4), x ∈ insL p v l ↔ x = (p, v) ∨ x ∈ l
  | [], x => by simp [insL]
  | y :: l, x => by
    rw [insL]
    split
    · simp
    · rw [List.mem_cons, mem_insL p v l x, List.mem_cons]
      constructor
      · rintro (h | h | h)
        · exact .inr (.inl h)
        · exact .inl h
        · exact .inr (.inr h)
      · rintro (h | h | h)
        · exact .inr (.inl h)
        · exact .inl h
        · exact .inr (.inr h)
theorem insL_sorted (p : P3) (v : Int) : ∀ l : List E4, (l.Pairwise fun x y => befB x.1 y.1 = true) → (∀ x ∈ l, x.1 ≠ p) → (insL p v l).Pairwise fun x y => befB x.1 y.1 = true
  | [], _, _ => by simp [insL]
  | y :: l, h, hn => by
    rw [List.pairwise_cons] at h
    rw [insL]
    split
    · rename_i hb
      rw [List.pairwise_cons, List.pairwise_cons]
      refine ⟨fun z hz => ?_, h⟩
      rcases List.mem_cons.1 hz with e | e
      · rw [e]; exact hb
      · exact befB_trans hb (h.1 z e)
    · rename_i hb
      rw [List.pairwise_cons]
      refine ⟨fun z hz => ?_, insL_sorted p v l h.2 fun x hx => hn x (List.mem_cons_of_mem _ hx)⟩
      rcases (mem_insL p v l z).1 hz with e | e
      · rw [e]
        rcases befB_total p y.1 (by simpa using hb) with e' | e'
        · exact absurd e'.symm (hn y (List.mem_cons_self ..))
        · exact e'
      · exact h.1 z e
theorem Inv.drop {I : List Bool → Option (Int × P3)} {L : List E4} (h : Inv I L) (p : P3) (hp : okP p) (rp : rP p = true) {I' : List Bool → Option (Int × P3)} (h1 : I' (pathP p) = none) (h2 : ∀ π, π ≠ pathP p → I' π = I π) : Inv I' (dropL L p) := by
  refine ⟨fun π v q hq => ?_, fun e he => ?_, h.sorted.filter _⟩
  · by_cases e : π = pathP p
    · rw [e, h1] at hq; cases hq
    · rw [h2 π e] at hq
      obtain ⟨a, b, c, d⟩ := h.node _ _ _ hq
      refine ⟨a, b, c, (mem_dropL _ _ _).2 ⟨d, fun e' => e ?_⟩⟩
      rw [← c, show q = p from e']
  · obtain ⟨m, ne⟩ := (mem_dropL _ _ _).1 he
    obtain ⟨a, b, c⟩ := h.entry e m
    refine ⟨a, b, ?_⟩
    rw [h2 _ fun e' => ne (pathP_inj _ _ a hp b rp e')]
    exact c
theorem Inv.put {I : List Bool → Option (Int × P3)} {L : List E4} (h : Inv I L) (p : P3) (v : Int) (hp : okP p) (rp : rP p = true) {I' : List Bool → Option (Int × P3)} (h1 : I' (pathP p) = some (v, p)) (h2 : ∀ π, π ≠ pathP p → I' π = I π) : Inv I' (putL L p v) := by
  refine ⟨fun π u q hq => ?_, fun e he => ?_, insL_sorted p v _ (h.sorted.filter _) fun x hx => ((mem_dropL _ _ _).1 hx).2⟩
  · by_cases e : π = pathP p
    · rw [e, h1] at hq
      obtain ⟨rfl, rfl⟩ : v = u ∧ p = q := by simpa using hq
      exact ⟨hp, rp, e.symm, (mem_insL _ _ _ _).2 (.inl rfl)⟩
    · rw [h2 π e] at hq
      obtain ⟨a, b, c, d⟩ := h.node _ _ _ hq
      refine ⟨a, b, c, (mem_insL _ _ _ _).2 (.inr ((mem_dropL _ _ _).2 ⟨d, fun e' => e ?_⟩))⟩
      rw [← c, show q = p from e']
  · rcases (mem_insL _ _ _ _).1 he with e' | e'
    · subst e'
      exact ⟨hp, rp, h1⟩
    · obtain ⟨m, ne⟩ := (mem_dropL _ _ _).1 e'
      obtain ⟨a, b, c⟩ := h.entry e m
      refine ⟨a, b, ?_⟩
      rw [h2 _ fun e' => ne (pathP_inj _ _ a hp b rp e')]
      exact c

/-- What is told of the longest one of a list that has an address. -/
def Best (a b : Int) (l : List E4) (o : Option E4) : Prop :=
  match o with
  | none => ∀ e ∈ l, hasP e.1.1 e.1.2.1 e.1.2.2 a b = false
  | some e => e ∈ l ∧ hasP e.1.1 e.1.2.1 e.1.2.2 a b = true ∧ ∀ x ∈ l, hasP x.1.1 x.1.2.1 x.1.2.2 a b = true → x.1.2.2 ≤ e.1.2.2
/-- One more is asked. -/
def bestS (a b : Int) (best : Option E4) (x : E4) : Option E4 :=
  if hasP x.1.1 x.1.2.1 x.1.2.2 a b = true then (match best with | none => some x | some y => if y.1.2.2 < x.1.2.2 then some x else some y) else best
theorem Best.step {a b : Int} {l : List E4} {o : Option E4} (h : Best a b l o) (x : E4) : Best a b (l ++ [x]) (bestS a b o x) := by
  unfold bestS
  by_cases hx : hasP x.1.1 x.1.2.1 x.1.2.2 a b = true
  · rw [if_pos hx]
    cases o with
    | none =>
      refine ⟨by simp, hx, fun y hy hh => ?_⟩
      rcases List.mem_append.1 hy with e | e
      · rw [h y e] at hh; cases hh
      · obtain rfl : y = x := by simpa using e
        exact Int.le_refl _
    | some e =>
      obtain ⟨h1, h2, h3⟩ := h
      by_cases hlt : e.1.2.2 < x.1.2.2
      · simp only [if_pos hlt]
        refine ⟨by simp, hx, fun y hy hh => ?_⟩
        rcases List.mem_append.1 hy with e' | e'
        · have := h3 y e' hh; omega
        · obtain rfl : y = x := by simpa using e'
          exact Int.le_refl _
      · simp only [if_neg hlt]
        refine ⟨by simp [h1], h2, fun y hy hh => ?_⟩
        rcases List.mem_append.1 hy with e' | e'
        · exact h3 y e' hh
        · obtain rfl : y = x := by simpa using e'
          omega
  · rw [if_neg hx]
    cases o with
    | none =>
      intro y hy
      rcases List.mem_append.1 hy with e | e
      · exact h y e
      · obtain rfl : y = x := by simpa using e
        simpa using hx
    | some e =>
      obtain ⟨h1, h2, h3⟩ := h
      refine ⟨by simp [h1], h2, fun y hy hh => ?_⟩
      rcases List.mem_append.1 hy with e' | e'
      · exact h3 y e' hh
      · obtain rfl : y = x := by simpa using e'
        exact absurd hh hx
end Go.Proofs.YtplehdcnnaamkaaGreatDoor

/- Prefixes, read and written: plain Lean. -/
namespace Go.Proofs.YtplehdcnnaamkaaGreatDoor
open Go.RowKit Go.Proofs.YtplehdcnnaamkaaGreatDoorW.PrintWords

/-- What is added to the length that is written behind an address. -/
def addOf : Bool × Int × Int → Int
  | (true, _, _) => 0
  | (false, _, _) => 96
/-- The prefix of an address's text and a length's. -/
def pfMk (o : Option (Bool × Int × Int)) (tail : List UInt8) : Option P3 := match o with
  | none => none
  | some a => if decOk tail (128 - addOf a) = true then if rightP (adHi a) (adLo a) (decN tail (128 - addOf a) + addOf a) = true then some (adHi a, adLo a, decN tail (128 - addOf a) + addOf a) else none else none
/-- The prefix that a text is. -/
def pfOf (l : List UInt8) : Option P3 := pfMk (adOf (Lib.cut l [47]).1) (Lib.cut l [47]).2.1
def pfV : Option P3 → Value
  | none => .agg #[.int .u64 0, .int .u64 0, .int .i64 0]
  | some p => .agg #[.int .u64 p.1, .int .u64 p.2.1, .int .i64 p.2.2]
theorem dec_bounds (l : List UInt8) (m : Int) (h : decOk l m = true) : 0 ≤ decN l m ∧ decN l m ≤ m := by
  have hp : plainD l = true := by
    rw [decOk, Bool.and_eq_true] at h
    exact h.1
  have hm : decV l ≤ m := by
    rw [decOk, Bool.and_eq_true, decide_eq_true_iff] at h
    exact h.2
  have hd : digitsL l = true := by
    rw [plainD, Bool.and_eq_true] at hp
    exact hp.1
  rw [decN, if_pos h]
  exact ⟨decV_nonneg l hd, hm⟩
/-- The number's text. -/
def numT (n : Int) : ByteArray := ⟨(Lib.itoa n).toArray⟩
def slash : ByteArray := ⟨#[47]⟩
/-- A prefix's text. -/
def pfT (hi lo n : Int) : ByteArray := if 96 ≤ n ∧ hi = 0 ∧ lo / 4294967296 = 65535 then adT (false, 0, lo % 4294967296) ++ slash ++ numT (n - 96) else adT (true, hi, lo) ++ slash ++ numT n
theorem digB_slash (u : Nat) : ∀ c ∈ digB 10 u, c ≠ 47 := by
  intro c hc
  obtain ⟨d, hd, rfl⟩ := digB_mem 10 (by omega) u c hc
  have : ∀ d : Fin 10, hexCh d.val ≠ 47 := by decide
  exact this ⟨d, hd⟩
theorem hex_slash (u : Nat) : ∀ c ∈ digB 16 u, c ≠ 47 := by
  intro c hc
  obtain ⟨d, hd, rfl⟩ := digB_mem 16 (by omega) u c hc
  have : ∀ d : Fin 16, hexCh d.val ≠ 47 := by decide
  exact this ⟨d, hd⟩
theorem words_slash : ∀ xs : List Int, ∀ c ∈ wordsL xs, c ≠ 47
  | [], c, h => by rw [words_nil] at h; cases h
  | [x], c, h => by rw [words_one] at h; exact hex_slash _ c h
  | x :: y :: xs, c, h => by
    rw [words_cons] at h
    rcases List.mem_append.1 h with h | h
    · exact hex_slash _ c h
    · rcases List.mem_cons.1 h with rfl | h
      · decide
      · exact words_slash (y :: xs) c h
theorem six_slash (xs : List Int) : ∀ c ∈ textL6 xs, c ≠ 47 := by
  intro c h
  rw [textL6] at h
  split at h
  · exact words_slash _ c h
  · rcases List.mem_append.1 h with h | h
    · rcases List.mem_append.1 h with h | h
      · exact words_slash _ c h
      · simp only [List.mem_cons, List.not_mem_nil, or_false, or_self] at h
        rw [h]; decide
    · exact words_slash _ c h
theorem four_slash (n : Nat) : ∀ c ∈ fourT n, c ≠ 47 := by
  intro c h
  rw [fourT] at h
  simp only [List.mem_append, List.mem_cons] at h
  rcases h with h | rfl | h | rfl | h | rfl | h
  · exact digB_slash _ c h
  · decide
  · exact digB_slash _ c h
  · decide
  · exact digB_slash _ c h
  · decide
  · exact digB_slash _ c h
theorem numT_pos (n : Int) (h : 0 ≤ n) : numT n = ⟨(digB 10 n.toNat).toArray⟩ := by
  rw [numT, ← dec_eq]
  obtain ⟨m, rfl⟩ : ∃ m : Nat, n = m := ⟨n.toNat, by omega⟩
  rfl
theorem dec_digM (u : Nat) (m : Int) (h : (u : Int) ≤ m) : decOk (digB 10 u) m = true ∧ decN (digB 10 u) m = u := by
  have h1 : decOk (digB 10 u) m = true := by rw [decOk, plain_dig, decV_dig, decide_eq_true h]; rfl
  exact ⟨h1, by rw [decN, if_pos h1, decV_dig]⟩
theorem slash_list (a b : ByteArray) : (a ++ slash ++ b).data.toList = a.data.toList ++ 47 :: b.data.toList := by
  simp [slash]
theorem pfMk_some (a : Bool × Int × Int) (t : List UInt8) (k : Int) (h1 : decOk t (128 - addOf a) = true) (h2 : decN t (128 - addOf a) = k) (h3 : rightP (adHi a) (adLo a) (k + addOf a) = true) : pfMk (some a) t = some (adHi a, adLo a, k + addOf a) := by
  subst h2
  rw [pfMk]
  simp only [if_pos h1, if_pos h3]
/-- A prefix is read as it is written. -/
theorem pf_back (p : P3) (ho : okP p) (hr : rP p = true) : pfOf (pfT p.1 p.2.1 p.2.2).data.toList = some p := by
  obtain ⟨hi, lo, n⟩ := p
  have hl := rP_len _ hr
  obtain ⟨h0, h1⟩ := ho
  simp only at hl h0 h1 ⊢
  rw [pfT]
  split
  · rename_i hc
    obtain ⟨c1, c2, c3⟩ := hc
    have ha : adOk (false, 0, lo % 4294967296) := ⟨rfl, by omega, by omega⟩
    have hlo : 281470681743360 + lo % 4294967296 = lo := by omega
    obtain ⟨d1, d2⟩ := dec_digM (n - 96).toNat 32 (by omega)
    rw [pfOf, slash_list, cut_chr_word 47 _ _ (by rw [show (adT (false, 0, lo % 4294967296)).data.toList = fourT (lo % 4294967296).toNat from rfl]; exact four_slash _), ad_back _ ha, numT_pos _ (by omega)]
    have e : (((n - 96).toNat : Nat) : Int) + 96 = n := by omega
    rw [pfMk_some (false, 0, lo % 4294967296) _ _ d1 d2 (by show rightP 0 (281470681743360 + lo % 4294967296) _ = true; rw [hlo, show (((n - 96).toNat : Nat) : Int) + addOf (false, 0, lo % 4294967296) = n from e, ← c2]; exact hr)]
    show some (0, 281470681743360 + lo % 4294967296, (((n - 96).toNat : Nat) : Int) + 96) = _
    rw [hlo, e, c2]
  · have ha : adOk (true, hi, lo) := ⟨h0, h1⟩
    obtain ⟨d1, d2⟩ := dec_digM n.toNat 128 (by omega)
    rw [pfOf, slash_list, cut_chr_word 47 _ _ (by rw [show (adT (true, hi, lo)).data.toList = textL6 (piecesOf hi lo) from rfl]; exact six_slash _), ad_back _ ha, numT_pos _ (by omega)]
    have e : ((n.toNat : Nat) : Int) + 0 = n := by omega
    rw [pfMk_some (true, hi, lo) _ _ d1 d2 (by rw [show ((n.toNat : Nat) : Int) + addOf (true, hi, lo) = n from e]; exact hr)]
    show some (hi, lo, ((n.toNat : Nat) : Int) + 0) = _
    rw [e]
end Go.Proofs.YtplehdcnnaamkaaGreatDoor

/- Prefixes, read; walked. -/
namespace Go.Proofs.YtplehdcnnaamkaaGreatDoor
open Go.RowKit Go.Proofs.YtplehdcnnaamkaaGreatDoorW.PrintWords Go.Proofs.YtplehdcnnaamkaaGreatDoorW.PrintMore

theorem ret_pf {a b : Value} {c d : Bool} (h : b = a) (h' : d = c) : Ending.returned (.tuple #[a, .bool c]) = .returned (.tuple #[b, .bool d]) := by rw [h, h']
theorem pfMk_none2 (a : Bool × Int × Int) (t : List UInt8) (h : decOk t (128 - addOf a) = false) : pfMk (some a) t = none := by
  rw [pfMk, h]; rfl
theorem pfMk_none3 (a : Bool × Int × Int) (t : List UInt8) (h1 : decOk t (128 - addOf a) = true) (h3 : rightP (adHi a) (adLo a) (decN t (128 - addOf a) + addOf a) = false) : pfMk (some a) t = none := by
  rw [pfMk]
  simp only [if_pos h1, h3]
  rfl
set_option maxHeartbeats 8000000 in
set_option maxRecDepth 100000 in
theorem PfParse_calls (s : ByteArray) (w : World) (hs : s.size ≤ 900000) (hE : Aside0 (Errs w)) (hM : Aside0 (Mx w)) :
    Calls Tryz.prog 16 #[.string s] w fun e w' => e = .returned (.tuple #[pfV (pfOf s.data.toList), .bool (pfOf s.data.toList).isSome]) ∧ Below w.heap.size w w' := by
  have q4 := mw_4
  have q6 := mw_6
  obtain ⟨W0, hW0⟩ : ∃ W0, W0 = w.alloc (.cells #[.int .u64 0, .int .u64 0, .int .i64 0] 25) := ⟨_, rfl⟩
  obtain ⟨hg, hl, hb⟩ := box3 hW0
  have B0 := Aside0.mk hb
  have HW := Lib.hid hW0
  have HG := Aside0.mk hg
  clear hg hW0 hb
  obtain ⟨mx, hmx⟩ := hM.out
  have HMX := Aside0.mk hmx
  have hcl := cut_le s.data.toList [47]
  rw [show s.data.toList.length = s.size by simp] at hcl
  obtain ⟨r, hr⟩ : ∃ r, r = pfOf s.data.toList := ⟨_, rfl⟩
  rw [← hr]
  have HR := Lib.hid (hr.trans (show pfOf s.data.toList = pfMk (adOf (Lib.cut s.data.toList [47]).1) (Lib.cut s.data.toList [47]).2.1 from rfl))
  clear hr hmx
  go_enter Tryz.func16, Tryz.ntmps16
  go_wp2_with fail
  rw [← HW.out]
  refine (Tryz.strings_Cut s _ mx _ (by omega) (by rw [← HMX.out]; exact B0.out.cell (cell_of_lt HMX.out))).mono ?_
  rintro e w1 ⟨rfl, n1, hw1⟩
  rw [show (ByteArray.mk #[47]).data.toList = [47] from rfl]
  have hb1 : Below W0.heap.size W0 w1 := by rw [hw1]; exact pw_below_drewN (Below.refl _ _) n1
  have HG1 := Aside0.mk ((hb1.block _ hl).trans HG.out)
  have hl1 := Nat.lt_of_lt_of_le hl hb1.size
  have B1 := Aside0.mk (below_then B0.out B0.out.size hb1)
  clear hw1 hb1
  generalize Lib.cut s.data.toList [47] = C at HR hcl ⊢
  obtain ⟨wl, rl, more⟩ := C
  simp only [] at HR hcl ⊢
  obtain ⟨word, hword⟩ : ∃ word : ByteArray, word = ⟨wl.toArray⟩ := ⟨_, rfl⟩
  obtain ⟨rst, hrst⟩ : ∃ rst : ByteArray, rst = ⟨rl.toArray⟩ := ⟨_, rfl⟩
  have hwz : word.size ≤ 900000 := by rw [hword, mk_size]; omega
  have hrz : rst.size ≤ 900000 := by rw [hrst, mk_size]; omega
  have hwl : word.data.toList = wl := by rw [hword]
  have hrl : rst.data.toList = rl := by rw [hrst]
  rw [← hword, ← hrst]
  have HWL := Lib.hid hwl
  have HRL := Lib.hid hrl
  clear hword hrst hwl hrl hcl
  go_wp2_with fail
  refine (AdParse_calls word _ hwz ⟨hE.out.stays B1.out⟩ ⟨hM.out.stays B1.out⟩).mono ?_
  rw [HWL.out]
  have hok := adOf_ok wl
  generalize adOf wl = o at HR hok ⊢
  rintro e w2 ⟨rfl, b2⟩
  have HG2 := Aside0.mk ((b2.block _ hl1).trans HG1.out)
  have hl2 := Nat.lt_of_lt_of_le hl1 b2.size
  have B2 := Aside0.mk (below_then B1.out B1.out.size b2)
  have hg2 := HG2.out
  obtain ⟨k0, f0⟩ := heap_cell (j := 0) hg2 rfl
  obtain ⟨k1, f1⟩ := heap_cell (j := 1) hg2 rfl
  obtain ⟨k2, f2⟩ := heap_cell (j := 2) hg2 rfl
  clear hg2 b2
  rcases o with _ | a
  · simp only [adVo, Option.isSome]
    go_wp2_with fail
    refine bodyPost_ret (results_cell_bool rfl _ _ w.heap.size 25 #[.int .u64 0, .int .u64 0, .int .i64 0] (0, 0) _ rfl (heap_set3 _ _ _ HG2.out) Tryz.underlying25 rfl (by kernel_rfl)) rfl ?_
    exact ⟨ret_pf (by rw [HR.out]; rfl) (by rw [HR.out]; rfl), below_set3 B2.out (Nat.le_refl _) _ _ _⟩
  · have HA := hok a rfl
    have hbd := ad_bd a HA
    clear hok
    have N1 := Aside0.mk (pfMk_none2 a rl)
    have N2 := Aside0.mk (pfMk_none3 a rl)
    have N3 := Aside0.mk (pfMk_some a rl)
    have hdb := dec_bounds rl (128 - addOf a)
    have RI := Aside0.mk (Right_calls (adHi a) (adLo a) (decN rl (128 - addOf a) + addOf a) hbd.1 hbd.2)
    obtain ⟨sx, hi, lo⟩ := a
    cases sx
    · simp only [adVo, adV, Option.isSome]
      have hw : (128 : Int) - addOf (false, hi, lo) = 32 := rfl
      have hadd : addOf (false, hi, lo) = 96 := rfl
      rw [hw] at N1 N2 N3 hdb RI
      rw [hadd] at N2 N3 RI
      clear hw hadd
      simp only [adHi, adLo] at N1 N2 N3 RI
      go_wp2_with fail
      refine (FourA4 lo _).mono ?_
      rintro e w3 ⟨rfl, rfl⟩
      go_wp2_with fail
      refine (Decimal_calls rst (by omega) _ (by omega) _ ⟨hE.out.stays B2.out⟩).mono ?_
      rw [HRL.out]
      rintro e w4 ⟨rfl, b4⟩
      have HG4 := Aside0.mk ((b4.block _ hl2).trans HG2.out)
      have hl4 := Nat.lt_of_lt_of_le hl2 b4.size
      have B4 := Aside0.mk (below_then B2.out B2.out.size b4)
      clear k0 f0 k1 f1 k2 f2
      have hg4 := HG4.out
      obtain ⟨k0, f0⟩ := heap_cell (j := 0) hg4 rfl
      obtain ⟨k1, f1⟩ := heap_cell (j := 1) hg4 rfl
      obtain ⟨k2, f2⟩ := heap_cell (j := 2) hg4 rfl
      clear hg4 b4
      cases hd : decOk rl 32
      · have HN := Lib.hid (N1.out hd)
        generalize decN rl 32 = n
        clear hd hdb
        go_wp2_with fail
        refine bodyPost_ret (results_cell_bool rfl _ _ w.heap.size 25 #[.int .u64 0, .int .u64 0, .int .i64 0] (0, 0) _ rfl (heap_set3 _ _ _ HG4.out) Tryz.underlying25 rfl (by kernel_rfl)) rfl ?_
        exact ⟨ret_pf (by rw [HR.out, HN.out]; rfl) (by rw [HR.out, HN.out]; rfl), below_set3 B4.out (Nat.le_refl _) _ _ _⟩
      · have hn := hdb hd
        have N4 := Aside0.mk (N2.out hd)
        have N5 := Aside0.mk (N3.out (decN rl 32) hd rfl)
        clear N1 N2 N3 hdb hd
        generalize decN rl 32 = n at hn N4 N5 RI
        go_wp2_with fail
        refine (Wide4_calls lo HA.2.1 HA.2.2 _).mono ?_
        rintro e w5 ⟨rfl, b5⟩
        have HG5 := Aside0.mk ((b5.block _ hl4).trans HG4.out)
        have hl5 := Nat.lt_of_lt_of_le hl4 b5.size
        have B5 := Aside0.mk (below_then B4.out B4.out.size b5)
        clear k0 f0 k1 f1 k2 f2 b5
        obtain ⟨W6, hW6⟩ : ∃ W6, W6 = w5.alloc (.cells #[.int .u64 0, .int .u64 (281470681743360 + lo), .int .i64 (n + 96)] 25) := ⟨_, rfl⟩
        obtain ⟨hg6, hl6, hb6⟩ := box3 hW6
        have HW6 := Lib.hid hW6
        have HG6 := Aside0.mk hg6
        have B6 := Aside0.mk (below_then B5.out B5.out.size hb6)
        have HG7 := Aside0.mk ((hb6.block _ hl5).trans HG5.out)
        have hl7 := Nat.lt_of_lt_of_le hl5 hb6.size
        clear hg6 hb6 hW6
        go_wp2_with fail
        try rw [← HW6.out]
        refine (RI.out _).mono ?_
        rintro e w7 ⟨rfl, b7⟩
        have HG8 := Aside0.mk ((b7.block _ hl7).trans HG7.out)
        have HG9 := Aside0.mk ((b7.block _ hl6).trans HG6.out)
        have B7 := Aside0.mk (below_then B6.out B6.out.size b7)
        have hg8 := HG8.out
        have hg9 := HG9.out
        obtain ⟨k0, f0⟩ := heap_cell (j := 0) hg8 rfl
        obtain ⟨k1, f1⟩ := heap_cell (j := 1) hg8 rfl
        obtain ⟨k2, f2⟩ := heap_cell (j := 2) hg8 rfl
        obtain ⟨m0, _⟩ := heap_cell (j := 0) hg9 rfl
        obtain ⟨m1, _⟩ := heap_cell (j := 1) hg9 rfl
        obtain ⟨m2, _⟩ := heap_cell (j := 2) hg9 rfl
        clear hg8 hg9 b7
        cases hr : rightP 0 (281470681743360 + lo) (n + 96)
        · have HN := Lib.hid (N4.out hr)
          clear hr
          go_wp2_with fail
          refine bodyPost_ret (results_cell_bool rfl _ _ w.heap.size 25 #[.int .u64 0, .int .u64 0, .int .i64 0] (0, 0) _ rfl (heap_set3 _ _ _ HG8.out) Tryz.underlying25 rfl (by kernel_rfl)) rfl ?_
          exact ⟨ret_pf (by rw [HR.out, HN.out]; rfl) (by rw [HR.out, HN.out]; rfl), below_set3 B7.out (Nat.le_refl _) _ _ _⟩
        · have HN := Lib.hid (N5.out hr)
          clear hr
          go_wp2_with fail
          refine bodyPost_ret (results_cell_bool rfl _ _ w.heap.size 25 #[.int .u64 0, .int .u64 (281470681743360 + lo), .int .i64 (n + 96)] (0, 0) _ rfl (heap_set3 _ _ _ HG8.out) Tryz.underlying25 rfl (by kernel_rfl)) rfl ?_
          exact ⟨ret_pf (by rw [HR.out, HN.out]; rfl) (by rw [HR.out, HN.out]; rfl), below_set3 B7.out (Nat.le_refl _) _ _ _⟩
    · simp only [adVo, adV, Option.isSome]
      have hw : (128 : Int) - addOf (true, hi, lo) = 128 := rfl
      have hadd : addOf (true, hi, lo) = 0 := rfl
      rw [hw] at N1 N2 N3 hdb RI
      rw [hadd] at N2 N3 RI
      simp only [Int.add_zero] at N2 N3 RI
      clear hw hadd
      simp only [adHi, adLo] at N1 N2 N3 RI
      go_wp2_with fail
      refine (FourA6 hi lo _).mono ?_
      rintro e w3 ⟨rfl, rfl⟩
      go_wp2_with fail
      refine (Decimal_calls rst (by omega) _ (by omega) _ ⟨hE.out.stays B2.out⟩).mono ?_
      rw [HRL.out]
      rintro e w4 ⟨rfl, b4⟩
      have HG4 := Aside0.mk ((b4.block _ hl2).trans HG2.out)
      have hl4 := Nat.lt_of_lt_of_le hl2 b4.size
      have B4 := Aside0.mk (below_then B2.out B2.out.size b4)
      clear k0 f0 k1 f1 k2 f2
      have hg4 := HG4.out
      obtain ⟨k0, f0⟩ := heap_cell (j := 0) hg4 rfl
      obtain ⟨k1, f1⟩ := heap_cell (j := 1) hg4 rfl
      obtain ⟨k2, f2⟩ := heap_cell (j := 2) hg4 rfl
      clear hg4 b4
      cases hd : decOk rl 128
      · have HN := Lib.hid (N1.out hd)
        generalize decN rl 128 = n
        clear hd hdb
        go_wp2_with fail
        refine bodyPost_ret (results_cell_bool rfl _ _ w.heap.size 25 #[.int .u64 0, .int .u64 0, .int .i64 0] (0, 0) _ rfl (heap_set3 _ _ _ HG4.out) Tryz.underlying25 rfl (by kernel_rfl)) rfl ?_
        exact ⟨ret_pf (by rw [HR.out, HN.out]; rfl) (by rw [HR.out, HN.out]; rfl), below_set3 B4.out (Nat.le_refl _) _ _ _⟩
      · have hn := hdb hd
        have N4 := Aside0.mk (N2.out hd)
        have N5 := Aside0.mk (N3.out (decN rl 128) hd rfl)
        clear N1 N2 N3 hdb hd
        generalize decN rl 128 = n at hn N4 N5 RI
        go_wp2_with fail
        refine (Wide6_calls hi lo _).mono ?_
        rintro e w5 ⟨rfl, b5⟩
        have HG5 := Aside0.mk ((b5.block _ hl4).trans HG4.out)
        have hl5 := Nat.lt_of_lt_of_le hl4 b5.size
        have B5 := Aside0.mk (below_then B4.out B4.out.size b5)
        clear k0 f0 k1 f1 k2 f2 b5
        obtain ⟨W6, hW6⟩ : ∃ W6, W6 = w5.alloc (.cells #[.int .u64 hi, .int .u64 lo, .int .i64 n] 25) := ⟨_, rfl⟩
        obtain ⟨hg6, hl6, hb6⟩ := box3 hW6
        have HW6 := Lib.hid hW6
        have HG6 := Aside0.mk hg6
        have B6 := Aside0.mk (below_then B5.out B5.out.size hb6)
        have HG7 := Aside0.mk ((hb6.block _ hl5).trans HG5.out)
        have hl7 := Nat.lt_of_lt_of_le hl5 hb6.size
        clear hg6 hb6 hW6
        go_wp2_with fail
        try rw [← HW6.out]
        refine (RI.out _).mono ?_
        rintro e w7 ⟨rfl, b7⟩
        have HG8 := Aside0.mk ((b7.block _ hl7).trans HG7.out)
        have HG9 := Aside0.mk ((b7.block _ hl6).trans HG6.out)
        have B7 := Aside0.mk (below_then B6.out B6.out.size b7)
        have hg8 := HG8.out
        have hg9 := HG9.out
        obtain ⟨k0, f0⟩ := heap_cell (j := 0) hg8 rfl
        obtain ⟨k1, f1⟩ := heap_cell (j := 1) hg8 rfl
        obtain ⟨k2, f2⟩ := heap_cell (j := 2) hg8 rfl
        obtain ⟨m0, _⟩ := heap_cell (j := 0) hg9 rfl
        obtain ⟨m1, _⟩ := heap_cell (j := 1) hg9 rfl
        obtain ⟨m2, _⟩ := heap_cell (j := 2) hg9 rfl
        clear hg8 hg9 b7
        cases hr : rightP hi lo n
        · have HN := Lib.hid (N4.out hr)
          clear hr
          go_wp2_with fail
          refine bodyPost_ret (results_cell_bool rfl _ _ w.heap.size 25 #[.int .u64 0, .int .u64 0, .int .i64 0] (0, 0) _ rfl (heap_set3 _ _ _ HG8.out) Tryz.underlying25 rfl (by kernel_rfl)) rfl ?_
          exact ⟨ret_pf (by rw [HR.out, HN.out]; rfl) (by rw [HR.out, HN.out]; rfl), below_set3 B7.out (Nat.le_refl _) _ _ _⟩
        · have HN := Lib.hid (N5.out hr)
          clear hr
          go_wp2_with fail
          refine bodyPost_ret (results_cell_bool rfl _ _ w.heap.size 25 #[.int .u64 hi, .int .u64 lo, .int .i64 n] (0, 0) _ rfl (heap_set3 _ _ _ HG8.out) Tryz.underlying25 rfl (by kernel_rfl)) rfl ?_
          exact ⟨ret_pf (by rw [HR.out, HN.out]; rfl) (by rw [HR.out, HN.out]; rfl), below_set3 B7.out (Nat.le_refl _) _ _ _⟩
end Go.Proofs.YtplehdcnnaamkaaGreatDoor

/- Prefixes, written; walked. -/
namespace Go.Proofs.YtplehdcnnaamkaaGreatDoor
open Go.RowKit Go.Proofs.YtplehdcnnaamkaaGreatDoorW.PrintWords Go.Proofs.YtplehdcnnaamkaaGreatDoorW.PrintMore

theorem ItoaZ_calls (n : Int) (h0 : -9223372036854775808 ≤ n) (h1 : n ≤ 9223372036854775807) (w : World) (hP : Pows w) :
    Calls Tryz.prog 71 #[.int .i64 n] w fun e w' => e = .returned (.string (numT n)) ∧ Below w.heap.size w w' := by
  refine (Tryz.strconv_Itoa n h0 h1 w hP).mono ?_
  rintro e w' ⟨rfl, k, os, rfl⟩
  exact ⟨rfl, grow_below _ _ _⟩
theorem numT_size (n : Int) (h0 : -9223372036854775808 ≤ n) (h1 : n ≤ 9223372036854775807) : (numT n).size ≤ 80 := by
  show (Lib.itoa n).toArray.size ≤ 80
  rw [List.size_toArray, Lib.itoa]
  split
  · have := digB_len 10 (by omega) n.natAbs 64 (by omega)
    rw [dec_eq]
    simp only [List.length_cons]
    omega
  · have := digB_len 10 (by omega) n.toNat 64 (by omega)
    rw [dec_eq]
    omega
set_option maxHeartbeats 8000000 in
set_option maxRecDepth 100000 in
theorem PfText_calls (hi lo n : Int) (h0 : 0 ≤ hi ∧ hi < 18446744073709551616) (h1 : 0 ≤ lo ∧ lo < 18446744073709551616) (hn0 : -9223372036854775808 ≤ n) (hn1 : n ≤ 9223372036854775807) (w : World) (hP : Aside0 (Pows w)) (hT : Aside0 (Debr w)) :
    Calls Tryz.prog 23 #[.agg #[.int .u64 hi, .int .u64 lo, .int .i64 n]] w fun e w' => e = .returned (.string (pfT hi lo n)) ∧ Below w.heap.size w w' := by
  obtain ⟨W0, hW0⟩ : ∃ W0, W0 = w.alloc (.cells #[.int .u64 hi, .int .u64 lo, .int .i64 n] 25) := ⟨_, rfl⟩
  obtain ⟨hg, hl, hb⟩ := box3 hW0
  have B0 := Aside0.mk hb
  have HW := Lib.hid hW0
  have hg0 := hg
  clear hg hW0 hb
  obtain ⟨k0, _⟩ := heap_cell (j := 0) hg0 rfl
  obtain ⟨k1, _⟩ := heap_cell (j := 1) hg0 rfl
  obtain ⟨k2, _⟩ := heap_cell (j := 2) hg0 rfl
  clear hg0
  have hP0 := hP.out.stays B0.out
  have hT0 := hT.out.stays B0.out
  have B4 : Aside0 (∀ W, Below W0.heap.size W0 W → Below w.heap.size w W) := ⟨fun W h => below_then B0.out B0.out.size h⟩
  obtain ⟨g, hgs⟩ : ∃ g, g = w.heap.size := ⟨_, rfl⟩
  have HGS := Lib.hid hgs
  rw [← hgs] at k0 k1 k2
  clear hgs
  by_cases hc : 96 ≤ n ∧ hi = 0 ∧ lo / 4294967296 = 65535
  · have E := Lib.hid (show pfT hi lo n = adT (false, 0, lo % 4294967296) ++ slash ++ numT (n - 96) from if_pos hc)
    obtain ⟨c1, rfl, c3⟩ := hc
    have TX : Aside0 (∀ W : World, Below W0.heap.size W0 W ∧ W.cell? ⟨g, 0, none⟩ = some (.int .u64 0) ∧ W.cell? ⟨g, 1, none⟩ = some (.int .u64 lo) ∧ W.cell? ⟨g, 2, none⟩ = some (.int .i64 n) → Calls Tryz.prog 70 #[.int .u32 (lo % 4294967296)] W fun e w' => e = .returned (.string (adT (false, 0, lo % 4294967296))) ∧ Below W.heap.size W w') := ⟨fun W h => TextM4 (lo % 4294967296) (by omega) (by omega) W ⟨hP0.stays h.1⟩⟩
    have IT : Aside0 (∀ W : World, Below W0.heap.size W0 W ∧ W.cell? ⟨g, 0, none⟩ = some (.int .u64 0) ∧ W.cell? ⟨g, 1, none⟩ = some (.int .u64 lo) ∧ W.cell? ⟨g, 2, none⟩ = some (.int .i64 n) → Calls Tryz.prog 71 #[.int .i64 (n - 96)] W fun e w' => e = .returned (.string (numT (n - 96))) ∧ Below W.heap.size W w') := ⟨fun W h => ItoaZ_calls (n - 96) (by omega) (by omega) W (hP0.stays h.1)⟩
    have KS : Aside0 (∀ W W' : World, (Below W0.heap.size W0 W ∧ W.cell? ⟨g, 0, none⟩ = some (.int .u64 0) ∧ W.cell? ⟨g, 1, none⟩ = some (.int .u64 lo) ∧ W.cell? ⟨g, 2, none⟩ = some (.int .i64 n)) → Below W.heap.size W W' → (Below W0.heap.size W0 W' ∧ W'.cell? ⟨g, 0, none⟩ = some (.int .u64 0) ∧ W'.cell? ⟨g, 1, none⟩ = some (.int .u64 lo) ∧ W'.cell? ⟨g, 2, none⟩ = some (.int .i64 n))) := ⟨fun W W' ⟨h, a, b, c⟩ hb => ⟨below_then h h.size hb, (hb.cell (cell_of_lt a)).trans a, (hb.cell (cell_of_lt b)).trans b, (hb.cell (cell_of_lt c)).trans c⟩⟩
    have KS0 : Aside0 (Below W0.heap.size W0 W0.drew ∧ W0.drew.cell? ⟨g, 0, none⟩ = some (.int .u64 0) ∧ W0.drew.cell? ⟨g, 1, none⟩ = some (.int .u64 lo) ∧ W0.drew.cell? ⟨g, 2, none⟩ = some (.int .i64 n)) := ⟨(Below.refl _ _).drew, k0, k1, k2⟩
    have z2 := numT_size (n - 96) (by omega) (by omega)
    have z1 := adT_size (false, 0, lo % 4294967296) ⟨rfl, by omega, by omega⟩
    have c4 : ¬ n < 96 := by omega
    have hwr : IntKind.i64.wrap (n - 96) = n - 96 := IntWalk.i64_in _ (by omega)
    have hr1 : lo.tmod 4294967296 = lo % 4294967296 := Int.tmod_eq_emod_of_nonneg h1.1
    have hr2 : IntKind.u32.wrap (lo % 4294967296) = lo % 4294967296 := by
      rw [show ∀ x, IntKind.u32.wrap x = x % 4294967296 from fun x => by simp [IntKind.wrap, IntKind.signed, IntKind.bits]]
      omega
    generalize adT (false, 0, lo % 4294967296) = tx at E TX z1
    generalize numT (n - 96) = nm at E IT z2
    have hq1 : ¬ 9223372036854775807 < tx.size + 1 := by omega
    have hq2 : ¬ 9223372036854775807 < tx.size + 1 + nm.size := by omega
    clear hP0 hT0 z1 z2
    go_enter Tryz.func23, Tryz.ntmps23
    go_wp2_with fail
    rw [← HW.out]
    rw [← HGS.out]
    go_wp2_with fail
    go_region_held3 (fun W => (Below W0.heap.size W0 W ∧ W.cell? ⟨g, 0, none⟩ = some (.int .u64 0) ∧ W.cell? ⟨g, 1, none⟩ = some (.int .u64 lo) ∧ W.cell? ⟨g, 2, none⟩ = some (.int .i64 n))) (first | exact KS0.out | exact KS.out _ _ (by assumption) (by assumption))
      (first
        | (go_at_call 70; refine (TX.out _ (by assumption)).mono ?_; rintro e w' ⟨rfl, hb⟩)
        | (go_at_call 71; refine (IT.out _ (by assumption)).mono ?_; rintro e w' ⟨rfl, hb⟩))
    all_goals
      go_wp2_with fail
      go_ret
      exact ⟨ret_string (by rw [E.out] <;> rfl), B4.out _ (And.left (by assumption))⟩
  · have E := Lib.hid (show pfT hi lo n = adT (true, hi, lo) ++ slash ++ numT n from if_neg hc)
    have TX : Aside0 (∀ W : World, Below W0.heap.size W0 W ∧ W.cell? ⟨g, 0, none⟩ = some (.int .u64 hi) ∧ W.cell? ⟨g, 1, none⟩ = some (.int .u64 lo) ∧ W.cell? ⟨g, 2, none⟩ = some (.int .i64 n) → Calls Tryz.prog 56 #[.agg #[.int .u64 hi, .int .u64 lo]] W fun e w' => e = .returned (.string (adT (true, hi, lo))) ∧ Below W.heap.size W w') := ⟨fun W h => Text6_calls hi lo h0 h1 W ⟨hP0.stays h.1⟩ ⟨hT0.stays h.1⟩⟩
    have IT : Aside0 (∀ W : World, Below W0.heap.size W0 W ∧ W.cell? ⟨g, 0, none⟩ = some (.int .u64 hi) ∧ W.cell? ⟨g, 1, none⟩ = some (.int .u64 lo) ∧ W.cell? ⟨g, 2, none⟩ = some (.int .i64 n) → Calls Tryz.prog 71 #[.int .i64 n] W fun e w' => e = .returned (.string (numT n)) ∧ Below W.heap.size W w') := ⟨fun W h => ItoaZ_calls n (by omega) (by omega) W (hP0.stays h.1)⟩
    have KS : Aside0 (∀ W W' : World, (Below W0.heap.size W0 W ∧ W.cell? ⟨g, 0, none⟩ = some (.int .u64 hi) ∧ W.cell? ⟨g, 1, none⟩ = some (.int .u64 lo) ∧ W.cell? ⟨g, 2, none⟩ = some (.int .i64 n)) → Below W.heap.size W W' → (Below W0.heap.size W0 W' ∧ W'.cell? ⟨g, 0, none⟩ = some (.int .u64 hi) ∧ W'.cell? ⟨g, 1, none⟩ = some (.int .u64 lo) ∧ W'.cell? ⟨g, 2, none⟩ = some (.int .i64 n))) := ⟨fun W W' ⟨h, a, b, c⟩ hb => ⟨below_then h h.size hb, (hb.cell (cell_of_lt a)).trans a, (hb.cell (cell_of_lt b)).trans b, (hb.cell (cell_of_lt c)).trans c⟩⟩
    have KS0 : Aside0 (Below W0.heap.size W0 W0.drew ∧ W0.drew.cell? ⟨g, 0, none⟩ = some (.int .u64 hi) ∧ W0.drew.cell? ⟨g, 1, none⟩ = some (.int .u64 lo) ∧ W0.drew.cell? ⟨g, 2, none⟩ = some (.int .i64 n)) := ⟨(Below.refl _ _).drew, k0, k1, k2⟩
    have z2 := numT_size n (by omega) (by omega)
    have z1 := adT_size (true, hi, lo) ⟨h0, h1⟩
    generalize adT (true, hi, lo) = tx at E TX z1
    generalize numT n = nm at E IT z2
    have hq1 : ¬ 9223372036854775807 < tx.size + 1 := by omega
    have hq2 : ¬ 9223372036854775807 < tx.size + 1 + nm.size := by omega
    clear hP0 hT0 z1 z2
    have hw : n < 96 ∨ (96 ≤ n ∧ hi ≠ 0) ∨ (96 ≤ n ∧ hi = 0 ∧ lo / 4294967296 ≠ 65535) := by omega
    clear hc
    rcases hw with hw | ⟨hwa, hwb⟩ | ⟨hwa, rfl, hwb⟩
    · go_enter Tryz.func23, Tryz.ntmps23
      go_wp2_with fail
      rw [← HW.out]
      rw [← HGS.out]
      go_wp2_with fail
      go_region_held3 (fun W => (Below W0.heap.size W0 W ∧ W.cell? ⟨g, 0, none⟩ = some (.int .u64 hi) ∧ W.cell? ⟨g, 1, none⟩ = some (.int .u64 lo) ∧ W.cell? ⟨g, 2, none⟩ = some (.int .i64 n))) (first | exact KS0.out | exact KS.out _ _ (by assumption) (by assumption))
        (first
          | (go_at_call 56; refine (TX.out _ (by assumption)).mono ?_; rintro e w' ⟨rfl, hb⟩)
          | (go_at_call 71; refine (IT.out _ (by assumption)).mono ?_; rintro e w' ⟨rfl, hb⟩))
      all_goals
        go_wp2_with fail
        go_ret
        exact ⟨ret_string (by rw [E.out] <;> rfl), B4.out _ (And.left (by assumption))⟩
    · go_enter Tryz.func23, Tryz.ntmps23
      go_wp2_with fail
      rw [← HW.out]
      rw [← HGS.out]
      go_wp2_with fail
      go_region_held3 (fun W => (Below W0.heap.size W0 W ∧ W.cell? ⟨g, 0, none⟩ = some (.int .u64 hi) ∧ W.cell? ⟨g, 1, none⟩ = some (.int .u64 lo) ∧ W.cell? ⟨g, 2, none⟩ = some (.int .i64 n))) (first | exact KS0.out | exact KS.out _ _ (by assumption) (by assumption))
        (first
          | (go_at_call 56; refine (TX.out _ (by assumption)).mono ?_; rintro e w' ⟨rfl, hb⟩)
          | (go_at_call 71; refine (IT.out _ (by assumption)).mono ?_; rintro e w' ⟨rfl, hb⟩))
      all_goals
        go_wp2_with fail
        go_ret
        exact ⟨ret_string (by rw [E.out] <;> rfl), B4.out _ (And.left (by assumption))⟩
    · go_enter Tryz.func23, Tryz.ntmps23
      go_wp2_with fail
      rw [← HW.out]
      rw [← HGS.out]
      go_wp2_with fail
      go_region_held3 (fun W => (Below W0.heap.size W0 W ∧ W.cell? ⟨g, 0, none⟩ = some (.int .u64 0) ∧ W.cell? ⟨g, 1, none⟩ = some (.int .u64 lo) ∧ W.cell? ⟨g, 2, none⟩ = some (.int .i64 n))) (first | exact KS0.out | exact KS.out _ _ (by assumption) (by assumption))
        (first
          | (go_at_call 56; refine (TX.out _ (by assumption)).mono ?_; rintro e w' ⟨rfl, hb⟩)
          | (go_at_call 71; refine (IT.out _ (by assumption)).mono ?_; rintro e w' ⟨rfl, hb⟩))
      all_goals
        go_wp2_with fail
        go_ret
        exact ⟨ret_string (by rw [E.out] <;> rfl), B4.out _ (And.left (by assumption))⟩
end Go.Proofs.YtplehdcnnaamkaaGreatDoor

/- The chapter's examples of layer 5: plain Lean. -/
namespace Go.Proofs.YtplehdcnnaamkaaGreatDoor
open Go.RowKit Go.Proofs.YtplehdcnnaamkaaGreatDoorW.PrintWords

theorem six_x1 : sixL [58, 58, 102, 102, 102, 102, 58, 49, 46, 50, 46, 51, 46, 52] = some [0, 0, 0, 0, 0, 65535, 258, 772] := by decide +kernel
theorem six_x2 : sixL [49, 58, 50, 58, 51, 58, 52, 58, 53, 58, 54, 58, 55] = none := by decide +kernel
theorem text_x1 : textL6 [0, 0, 0, 0, 0, 65535, 258, 772] = [58, 58, 102, 102, 102, 102, 58, 49, 48, 50, 58, 51, 48, 52] := by decide +kernel
theorem text_x2 : textL6 [1, 0, 0, 2, 0, 0, 0, 0] = [49, 58, 48, 58, 48, 58, 50, 58, 58] := by decide +kernel
end Go.Proofs.YtplehdcnnaamkaaGreatDoor

/- The chapter's examples of layer 4, walked. -/
namespace Go.Proofs.YtplehdcnnaamkaaGreatDoor
open Go.RowKit Go.Proofs.YtplehdcnnaamkaaGreatDoorW.PrintWords Go.Proofs.YtplehdcnnaamkaaGreatDoorW.PrintMore

theorem four_x1 : fourN [48, 120, 55, 102, 46, 49] = 2130706433 ∧ fourOk [48, 120, 55, 102, 46, 49] = true := by decide +kernel
theorem four_x2 : fourOk [49, 46, 50, 46, 51, 46, 50, 53, 54] = false := by decide +kernel
theorem four_x3 : fourN [50, 53, 54] = 256 ∧ fourOk [50, 53, 54] = true := by decide +kernel
theorem AwakeL3_calls (w : World) : Calls Tryz.prog 153 #[] w fun e w' => e = .returned (.bool true) ∧ Below w.heap.size w w' := by
  go_enter Tryz.func153, Tryz.ntmps153
  go_wp2_with fail
  refine (awake3_calls _).mono ?_
  rintro e w1 ⟨rfl, hb⟩
  go_wp2
  go_ret
  exact ⟨rfl, hb⟩
set_option maxHeartbeats 1000000 in
theorem awake4_calls (w : World) : Calls Tryz.prog 122 #[] w fun e w' => e = .returned (.bool true) ∧ Below w.heap.size w w' := by
  go_enter Tryz.func122, Tryz.ntmps122
  go_wp2_with fail
  refine (Four_calls _ _ (by decide)).mono ?_
  rintro e w1 ⟨rfl, b1⟩
  rw [show (ByteArray.mk #[48, 120, 55, 102, 46, 49]).data.toList = [48, 120, 55, 102, 46, 49] from rfl, four_x1.1, four_x1.2]
  go_wp2_with fail
  refine (Four_calls _ _ (by decide)).mono ?_
  rintro e w2 ⟨rfl, b2⟩
  rw [show (ByteArray.mk #[49, 46, 50, 46, 51, 46, 50, 53, 54]).data.toList = [49, 46, 50, 46, 51, 46, 50, 53, 54] from rfl, four_x2]
  go_wp2_with fail
  refine (Four_calls _ _ (by decide)).mono ?_
  rintro e w3 ⟨rfl, b3⟩
  rw [show (ByteArray.mk #[50, 53, 54]).data.toList = [50, 53, 54] from rfl, four_x3.1, four_x3.2]
  go_wp2_with fail
  refine (AwakeL3_calls _).mono ?_
  rintro e w4 ⟨rfl, b4⟩
  have B2 := Aside0.mk (below_then b1 b1.size b2)
  have B3 := Aside0.mk (below_then B2.out B2.out.size b3)
  have B4 := Aside0.mk (below_then B3.out B3.out.size b4)
  clear b1 b2 b3 b4
  go_wp2_with fail
  refine (Of_calls 127 0 0 1 (by omega) (by omega) (by omega) (by omega) _).mono ?_
  rintro e w5 ⟨rfl, rfl⟩
  simp only [Int.reduceMul, Int.reduceAdd]
  go_wp2_with fail
  refine (Of_calls 0 0 1 0 (by omega) (by omega) (by omega) (by omega) _).mono ?_
  rintro e w6 ⟨rfl, rfl⟩
  simp only [Int.reduceMul, Int.reduceAdd]
  go_wp2_with fail
  go_ret
  exact ⟨rfl, B4.out⟩
end Go.Proofs.YtplehdcnnaamkaaGreatDoor

/- The chapter's examples of layer 5, walked. -/
namespace Go.Proofs.YtplehdcnnaamkaaGreatDoor
open Go.RowKit Go.Proofs.YtplehdcnnaamkaaGreatDoorW.PrintWords Go.Proofs.YtplehdcnnaamkaaGreatDoorW.PrintMore

theorem six_v1 : sixHi [58, 58, 102, 102, 102, 102, 58, 49, 46, 50, 46, 51, 46, 52] = 0 ∧ sixLo [58, 58, 102, 102, 102, 102, 58, 49, 46, 50, 46, 51, 46, 52] = 281470698652420 ∧ sixOk [58, 58, 102, 102, 102, 102, 58, 49, 46, 50, 46, 51, 46, 52] = true := by
  have h := six_some six_x1
  exact ⟨h.1.trans (by decide), h.2.1.trans (by decide), h.2.2⟩
theorem six_v2 : sixHi [49, 58, 50, 58, 51, 58, 52, 58, 53, 58, 54, 58, 55] = 0 ∧ sixLo [49, 58, 50, 58, 51, 58, 52, 58, 53, 58, 54, 58, 55] = 0 ∧ sixOk [49, 58, 50, 58, 51, 58, 52, 58, 53, 58, 54, 58, 55] = false := six_none six_x2
theorem AwakeL4_calls (w : World) : Calls Tryz.prog 89 #[] w fun e w' => e = .returned (.bool true) ∧ Below w.heap.size w w' := by
  go_enter Tryz.func89, Tryz.ntmps89
  go_wp2_with fail
  refine (awake4_calls _).mono ?_
  rintro e w1 ⟨rfl, hb⟩
  go_wp2
  go_ret
  exact ⟨rfl, hb⟩
theorem half_x : half ((eight [1, 0, 0, 2]).take 4) = 281474976710658 ∧ half ((eight [1, 0, 0, 2]).drop 4) = 0 := by decide
theorem pcs_x1 : piecesOf 0 281470698652420 = [0, 0, 0, 0, 0, 65535, 258, 772] := by decide
theorem pcs_x2 : piecesOf 281474976710658 0 = [1, 0, 0, 2, 0, 0, 0, 0] := by decide

set_option maxHeartbeats 2000000 in
set_option maxRecDepth 100000 in
theorem awake5_calls (w : World) (hE : Aside0 (Errs w)) (hM : Aside0 (Mx w)) (hP : Aside0 (Pows w)) (hT : Aside0 (Debr w)) : Calls Tryz.prog 53 #[] w fun e w' => e = .returned (.bool true) ∧ Below w.heap.size w w' := by
  go_enter Tryz.func53, Tryz.ntmps53
  go_wp2_with fail
  refine (SixParse_calls _ _ (by decide) hE hM).mono ?_
  rintro e w1 ⟨rfl, b1⟩
  rw [show (ByteArray.mk #[58, 58, 102, 102, 102, 102, 58, 49, 46, 50, 46, 51, 46, 52]).data.toList = [58, 58, 102, 102, 102, 102, 58, 49, 46, 50, 46, 51, 46, 52] from rfl, six_v1.1, six_v1.2.1, six_v1.2.2]
  have B1 := Aside0.mk b1
  clear b1
  go_wp2_with fail
  obtain ⟨W1, hW1⟩ : ∃ W1, W1 = w1.alloc (.cells #[.int .u64 0, .int .u64 281470698652420] 34) := ⟨_, rfl⟩
  rw [← hW1]
  have hg : W1.heap[w1.heap.size]? = some (.cells #[.int .u64 0, .int .u64 281470698652420] 34 (0, 0)) := by rw [hW1]; exact heap_alloc_new' _ _ _ rfl
  have hlt : w1.heap.size < W1.heap.size := by rw [hW1]; simp
  have BW1 : Aside0 (Below w.heap.size w W1) := ⟨by rw [hW1]; exact B1.out.alloc B1.out.size _⟩
  have HG := Aside0.mk hg
  clear hW1 hg
  generalize w1.heap.size = g at *
  refine (SixParse_calls _ _ (by decide) ⟨hE.out.stays BW1.out⟩ ⟨hM.out.stays BW1.out⟩).mono ?_
  rintro e w2 ⟨rfl, b2⟩
  rw [show (ByteArray.mk #[49, 58, 50, 58, 51, 58, 52, 58, 53, 58, 54, 58, 55]).data.toList = [49, 58, 50, 58, 51, 58, 52, 58, 53, 58, 54, 58, 55] from rfl, six_v2.1, six_v2.2.1, six_v2.2.2]
  have hg2 := (b2.block g hlt).trans HG.out
  have B2 := Aside0.mk (below_then BW1.out BW1.out.size b2)
  have hlt2 : g < w2.heap.size := Nat.lt_of_lt_of_le hlt b2.size
  clear b2
  go_wp2_with fail
  obtain ⟨W2, hW2⟩ : ∃ W2, W2 = w2.alloc (.cells #[.int .u64 0, .int .u64 0] 34) := ⟨_, rfl⟩
  rw [← hW2]
  have hg3 : W2.heap[g]? = some (.cells #[.int .u64 0, .int .u64 281470698652420] 34 (0, 0)) := by rw [hW2, heap_alloc_old' _ _ _ hlt2]; exact hg2
  have BW2 : Aside0 (Below w.heap.size w W2) := ⟨by rw [hW2]; exact B2.out.alloc B2.out.size _⟩
  have hlt3 : g < W2.heap.size := by rw [hW2]; simp; omega
  have HG3 := Aside0.mk hg3
  clear hW2 hg2 hg3
  refine (AwakeL4_calls _).mono ?_
  rintro e w3 ⟨rfl, b3⟩
  have hg4 := (b3.block g hlt3).trans HG3.out
  have B3 := Aside0.mk (below_then BW2.out BW2.out.size b3)
  obtain ⟨c0, _⟩ := heap_cell (j := 0) hg4 rfl
  obtain ⟨c1, _⟩ := heap_cell (j := 1) hg4 rfl
  clear b3 hg4
  go_wp2_with fail
  refine (Text6_calls 0 281470698652420 (by omega) (by omega) _ ⟨hP.out.stays B3.out⟩ ⟨hT.out.stays B3.out⟩).mono ?_
  rintro e w4 ⟨rfl, b4⟩
  have B4 := Aside0.mk (below_then B3.out B3.out.size b4)
  rw [pcs_x1, text_x1]
  clear b4 c0 c1
  go_wp2_with fail
  have hs := SixOf_calls (some ⟨w4.heap.size, 0, none⟩) 4 [1, 0, 0, 2] (w4.alloc (.cells #[.int .u16 1, .int .u16 0, .int .u16 0, .int .u16 2] 102)) (by decide) (by decide) (fun _ => ⟨_, rfl, fun j v hv => by
    rw [Go.Proofs.YtplehdcnnaamkaaGreatDoorW.PrintWords.add_plain, World.cell?_alloc_new]
    exact (by simpa [u16s] using hv)⟩)
  rw [half_x.1, half_x.2, show ([1, 0, 0, 2] : List Int).length = 4 from rfl] at hs
  refine hs.mono ?_
  rintro e w5 ⟨rfl, b5⟩
  have B5 : Aside0 (Below w.heap.size w w5) := ⟨below_then (B4.out.alloc B4.out.size _) (by have := B4.out.size; simp; omega) b5⟩
  clear b5 hs
  go_wp2_with fail
  refine (Text6_calls 281474976710658 0 (by omega) (by omega) _ ⟨hP.out.stays B5.out⟩ ⟨hT.out.stays B5.out⟩).mono ?_
  rintro e w6 ⟨rfl, b6⟩
  have B6 := Aside0.mk (below_then B5.out B5.out.size b6)
  rw [pcs_x2, text_x2]
  clear b6
  go_wp2_with fail
  go_ret
  exact ⟨by simp, B6.out⟩
end Go.Proofs.YtplehdcnnaamkaaGreatDoor

/- Layer 6 is awake. -/
namespace Go.Proofs.YtplehdcnnaamkaaGreatDoor
open Go.RowKit Go.Proofs.YtplehdcnnaamkaaGreatDoorW.PrintWords Go.Proofs.YtplehdcnnaamkaaGreatDoorW.PrintMore

theorem ad_x1 : adOf [58, 58, 102, 102, 102, 102, 58, 55, 102, 48, 48, 58, 49] = some (true, 0, 281472812449793) := by decide +kernel
theorem ad_x2 : adOf [50, 48, 48, 50, 58, 55, 102, 48, 48, 58, 49, 58, 58] = some (true, 2306545597143908352, 0) := by decide +kernel
theorem in_x1 : inL4 0 281472812449793 = [2130706433] := by decide
theorem in_x2 : inL4 2306545597143908352 0 = [2130706433] := by decide
theorem AwakeL5_calls (w : World) (hE : Aside0 (Errs w)) (hM : Aside0 (Mx w)) (hP : Aside0 (Pows w)) (hT : Aside0 (Debr w)) : Calls Tryz.prog 139 #[] w fun e w' => e = .returned (.bool true) ∧ Below w.heap.size w w' := by
  go_enter Tryz.func139, Tryz.ntmps139
  go_wp2_with fail
  refine (awake5_calls _ hE hM hP hT).mono ?_
  rintro e w1 ⟨rfl, b1⟩
  go_wp2_with fail
  go_ret
  exact ⟨rfl, b1⟩
set_option maxHeartbeats 4000000 in
set_option maxRecDepth 100000 in
theorem awake6_calls (w : World) (hE : Aside0 (Errs w)) (hM : Aside0 (Mx w)) (hP : Aside0 (Pows w)) (hT : Aside0 (Debr w)) : Calls Tryz.prog 107 #[] w fun e w' => e = .returned (.bool true) ∧ Below w.heap.size w w' := by
  go_enter Tryz.func107, Tryz.ntmps107
  go_wp2_with fail
  refine (AdParse_calls _ _ (by decide) hE hM).mono ?_
  rw [show (ByteArray.mk #[58, 58, 102, 102, 102, 102, 58, 55, 102, 48, 48, 58, 49]).data.toList = [58, 58, 102, 102, 102, 102, 58, 55, 102, 48, 48, 58, 49] from rfl, ad_x1]
  simp only [adVo, adV, Option.isSome]
  rintro e w1 ⟨rfl, b1⟩
  have B1 := Aside0.mk b1
  clear b1
  go_wp2_with fail
  refine (AdParse_calls _ _ (by decide) ⟨hE.out.stays B1.out⟩ ⟨hM.out.stays B1.out⟩).mono ?_
  rw [show (ByteArray.mk #[50, 48, 48, 50, 58, 55, 102, 48, 48, 58, 49, 58, 58]).data.toList = [50, 48, 48, 50, 58, 55, 102, 48, 48, 58, 49, 58, 58] from rfl, ad_x2]
  simp only [adVo, adV, Option.isSome]
  rintro e w2 ⟨rfl, b2⟩
  have B2 := Aside0.mk (below_then B1.out B1.out.size b2)
  clear b2
  go_wp2_with fail
  refine (AwakeL5_calls _ ⟨hE.out.stays B2.out⟩ ⟨hM.out.stays B2.out⟩ ⟨hP.out.stays B2.out⟩ ⟨hT.out.stays B2.out⟩).mono ?_
  rintro e w3 ⟨rfl, b3⟩
  have B3 := Aside0.mk (below_then B2.out B2.out.size b3)
  clear b3
  go_wp2_with fail
  refine (Inner6_calls 0 281472812449793 (by omega) (by omega) _).mono ?_
  rw [in_x1]
  rintro e w4 ⟨v, rfl, hR, b4⟩
  have B4 := Aside0.mk (below_then B3.out B3.out.size b4)
  obtain ⟨A, c, rfl, hcap, hC⟩ := Kd.R_reads hR
  simp only [List.length_cons, List.length_nil, Nat.zero_add]
  have HC := Aside0.mk hC
  clear hR hC b4
  go_wp2_with fail
  refine (EqualF_calls [2130706433] [2130706433] 1 1 rfl rfl A (some ⟨w4.heap.size, 0, none⟩) c 1 _ (by omega) (fun j hj => C_kget (Kd.C_alloc HC.out _) j hj) (fun j hj => C_kget (C_new .u32 w4 [2130706433] _ (by decide)) j hj)).mono ?_
  rw [show decide (([2130706433] : List Int) = [2130706433]) = true from rfl]
  rintro e w5 ⟨rfl, b5⟩
  have B5 : Aside0 (Below w.heap.size w w5) := ⟨below_then (B4.out.alloc B4.out.size _) (by have := B4.out.size; simp; omega) b5⟩
  clear b5 HC hcap
  go_wp2_with fail
  refine (Inner6_calls 2306545597143908352 0 (by omega) (by omega) _).mono ?_
  rw [in_x2]
  rintro e w6 ⟨v, rfl, hR, b6⟩
  have B6 := Aside0.mk (below_then B5.out B5.out.size b6)
  obtain ⟨A2, c2, rfl, hcap, hC⟩ := Kd.R_reads hR
  simp only [List.length_cons, List.length_nil, Nat.zero_add]
  have HC := Aside0.mk hC
  clear hR hC b6
  go_wp2_with fail
  refine (EqualF_calls [2130706433] [2130706433] 1 1 rfl rfl A2 (some ⟨w6.heap.size, 0, none⟩) c2 1 _ (by omega) (fun j hj => C_kget (Kd.C_alloc HC.out _) j hj) (fun j hj => C_kget (C_new .u32 w6 [2130706433] _ (by decide)) j hj)).mono ?_
  rw [show decide (([2130706433] : List Int) = [2130706433]) = true from rfl]
  rintro e w7 ⟨rfl, b7⟩
  have B7 : Aside0 (Below w.heap.size w w7) := ⟨below_then (B6.out.alloc B6.out.size _) (by have := B6.out.size; simp; omega) b7⟩
  clear b7
  go_wp2_with fail
  go_ret
  exact ⟨rfl, B7.out⟩
end Go.Proofs.YtplehdcnnaamkaaGreatDoor

/- Layer 7 is awake. -/
namespace Go.Proofs.YtplehdcnnaamkaaGreatDoor
open Go.RowKit Go.Proofs.YtplehdcnnaamkaaGreatDoorW.PrintWords Go.Proofs.YtplehdcnnaamkaaGreatDoorW.PrintMore

theorem pf_x1 : pfOf [49, 48, 46, 48, 46, 48, 46, 48, 47, 56] = some (0, 281470849515520, 104) := by decide +kernel
theorem ad_x3 : adOf [49, 48, 46, 49, 46, 50, 46, 51] = some (false, 0, 167838211) := by decide +kernel
theorem ad_x4 : adOf [58, 58, 102, 102, 102, 102, 58, 49, 48, 46, 49, 46, 50, 46, 51] = some (true, 0, 281470849581571) := by decide +kernel
theorem ad_x5 : adOf [49, 49, 46, 49, 46, 50, 46, 51] = some (false, 0, 184615427) := by decide +kernel
theorem has_x1 : hasO 0 281470849515520 104 (some (false, 0, 167838211)) = true := by decide +kernel
theorem has_x2 : hasO 0 281470849515520 104 (some (true, 0, 281470849581571)) = true := by decide +kernel
theorem has_x3 : hasO 0 281470849515520 104 (some (false, 0, 184615427)) = false := by decide +kernel
theorem AwakeL6_calls (w : World) (hE : Aside0 (Errs w)) (hM : Aside0 (Mx w)) (hP : Aside0 (Pows w)) (hT : Aside0 (Debr w)) : Calls Tryz.prog 62 #[] w fun e w' => e = .returned (.bool true) ∧ Below w.heap.size w w' := by
  go_enter Tryz.func62, Tryz.ntmps62
  go_wp2_with fail
  refine (awake6_calls _ hE hM hP hT).mono ?_
  rintro e w1 ⟨rfl, b1⟩
  go_wp2_with fail
  go_ret
  exact ⟨rfl, b1⟩
theorem ok_some (a : Bool × Int × Int) (h : adOk a) : ∀ b, some a = some b → adOk b := fun b e => by rw [← Option.some.inj e]; exact h
set_option maxHeartbeats 4000000 in
set_option maxRecDepth 100000 in
theorem awake7_calls (w : World) (hE : Aside0 (Errs w)) (hM : Aside0 (Mx w)) (hP : Aside0 (Pows w)) (hT : Aside0 (Debr w)) : Calls Tryz.prog 15 #[] w fun e w' => e = .returned (.bool true) ∧ Below w.heap.size w w' := by
  go_enter Tryz.func15, Tryz.ntmps15
  go_wp2_with fail
  refine (PfParse_calls _ _ (by decide) hE hM).mono ?_
  rw [show (ByteArray.mk #[49, 48, 46, 48, 46, 48, 46, 48, 47, 56]).data.toList = [49, 48, 46, 48, 46, 48, 46, 48, 47, 56] from rfl, pf_x1]
  simp only [pfV, Option.isSome]
  rintro e w1 ⟨rfl, b1⟩
  obtain ⟨W1, hW1⟩ : ∃ W1, W1 = w1.alloc (.cells #[.int .u64 0, .int .u64 281470849515520, .int .i64 104] 25) := ⟨_, rfl⟩
  obtain ⟨hg1, hl1, hb1⟩ := box3 hW1
  have HW1 := Lib.hid hW1
  have HG1 := Aside0.mk hg1
  have B1 := Aside0.mk (below_then b1 b1.size hb1)
  clear hW1 hg1 b1 hb1
  go_wp2_with fail
  rw [← HW1.out]
  refine (AdParse_calls _ _ (by decide) ⟨hE.out.stays B1.out⟩ ⟨hM.out.stays B1.out⟩).mono ?_
  rw [show (ByteArray.mk #[49, 48, 46, 49, 46, 50, 46, 51]).data.toList = [49, 48, 46, 49, 46, 50, 46, 51] from rfl, ad_x3]
  simp only [adVo, adV, Option.isSome]
  rintro e w2 ⟨rfl, b2⟩
  have HG2 := Aside0.mk ((b2.block _ hl1).trans HG1.out)
  have hl2 := Nat.lt_of_lt_of_le hl1 b2.size
  have B2 := Aside0.mk (below_then B1.out B1.out.size b2)
  clear b2
  go_wp2_with fail
  refine (AdParse_calls _ _ (by decide) ⟨hE.out.stays B2.out⟩ ⟨hM.out.stays B2.out⟩).mono ?_
  rw [show (ByteArray.mk #[58, 58, 102, 102, 102, 102, 58, 49, 48, 46, 49, 46, 50, 46, 51]).data.toList = [58, 58, 102, 102, 102, 102, 58, 49, 48, 46, 49, 46, 50, 46, 51] from rfl, ad_x4]
  simp only [adVo, adV, Option.isSome]
  rintro e w3 ⟨rfl, b3⟩
  have HG3 := Aside0.mk ((b3.block _ hl2).trans HG2.out)
  have hl3 := Nat.lt_of_lt_of_le hl2 b3.size
  have B3 := Aside0.mk (below_then B2.out B2.out.size b3)
  clear b3
  go_wp2_with fail
  refine (AdParse_calls _ _ (by decide) ⟨hE.out.stays B3.out⟩ ⟨hM.out.stays B3.out⟩).mono ?_
  rw [show (ByteArray.mk #[49, 49, 46, 49, 46, 50, 46, 51]).data.toList = [49, 49, 46, 49, 46, 50, 46, 51] from rfl, ad_x5]
  simp only [adVo, adV, Option.isSome]
  rintro e w4 ⟨rfl, b4⟩
  have HG4 := Aside0.mk ((b4.block _ hl3).trans HG3.out)
  have hl4 := Nat.lt_of_lt_of_le hl3 b4.size
  have B4 := Aside0.mk (below_then B3.out B3.out.size b4)
  clear b4
  go_wp2_with fail
  refine (AwakeL6_calls _ ⟨hE.out.stays B4.out⟩ ⟨hM.out.stays B4.out⟩ ⟨hP.out.stays B4.out⟩ ⟨hT.out.stays B4.out⟩).mono ?_
  rintro e w5 ⟨rfl, b5⟩
  have HG5 := Aside0.mk ((b5.block _ hl4).trans HG4.out)
  have hl5 := Nat.lt_of_lt_of_le hl4 b5.size
  have B5 := Aside0.mk (below_then B4.out B4.out.size b5)
  have hg5 := HG5.out
  obtain ⟨k0, _⟩ := heap_cell (j := 0) hg5 rfl
  obtain ⟨k1, _⟩ := heap_cell (j := 1) hg5 rfl
  obtain ⟨k2, _⟩ := heap_cell (j := 2) hg5 rfl
  clear b5 hg5
  go_wp2_with fail
  refine (PfHas_calls 0 281470849515520 104 (some (false, 0, 167838211)) (ok_some _ ⟨rfl, by omega, by omega⟩) (by omega) (by omega) _).mono ?_
  rw [has_x1]
  rintro e w6 ⟨rfl, b6⟩
  have HG6 := Aside0.mk ((b6.block _ hl5).trans HG5.out)
  have hl6 := Nat.lt_of_lt_of_le hl5 b6.size
  have B6 := Aside0.mk (below_then B5.out B5.out.size b6)
  have hg6 := HG6.out
  clear k0 k1 k2
  obtain ⟨k0, _⟩ := heap_cell (j := 0) hg6 rfl
  obtain ⟨k1, _⟩ := heap_cell (j := 1) hg6 rfl
  obtain ⟨k2, _⟩ := heap_cell (j := 2) hg6 rfl
  clear b6 hg6
  go_wp2_with fail
  refine (PfHas_calls 0 281470849515520 104 (some (true, 0, 281470849581571)) (ok_some _ ⟨by omega, by omega⟩) (by omega) (by omega) _).mono ?_
  rw [has_x2]
  rintro e w7 ⟨rfl, b7⟩
  have HG7 := Aside0.mk ((b7.block _ hl6).trans HG6.out)
  have B7 := Aside0.mk (below_then B6.out B6.out.size b7)
  have hg7 := HG7.out
  clear k0 k1 k2
  obtain ⟨k0, _⟩ := heap_cell (j := 0) hg7 rfl
  obtain ⟨k1, _⟩ := heap_cell (j := 1) hg7 rfl
  obtain ⟨k2, _⟩ := heap_cell (j := 2) hg7 rfl
  clear b7 hg7
  go_wp2_with fail
  refine (PfHas_calls 0 281470849515520 104 (some (false, 0, 184615427)) (ok_some _ ⟨rfl, by omega, by omega⟩) (by omega) (by omega) _).mono ?_
  rw [has_x3]
  rintro e w8 ⟨rfl, b8⟩
  have B8 := Aside0.mk (below_then B7.out B7.out.size b8)
  clear b8
  go_wp2_with fail
  go_ret
  exact ⟨rfl, B8.out⟩
end Go.Proofs.YtplehdcnnaamkaaGreatDoor

/- The law PrefixNests, walked. -/
namespace Go.Proofs.YtplehdcnnaamkaaGreatDoor
open Go.RowKit Go.Proofs.YtplehdcnnaamkaaGreatDoorW.PrintWords Go.Proofs.YtplehdcnnaamkaaGreatDoorW.PrintMore

theorem pfT_size (hi lo n : Int) (h0 : 0 ≤ hi ∧ hi < 18446744073709551616) (h1 : 0 ≤ lo ∧ lo < 18446744073709551616) (hn : 0 ≤ n ∧ n ≤ 128) : (pfT hi lo n).size ≤ 900 := by
  have z1 := numT_size n (by omega) (by omega)
  have z2 := numT_size (n - 96) (by omega) (by omega)
  have z3 := adT_size (true, hi, lo) ⟨h0, h1⟩
  have z4 := adT_size (false, 0, lo % 4294967296) ⟨rfl, by omega, by omega⟩
  have z5 : slash.size = 1 := rfl
  rw [pfT]
  split <;> rw [ByteArray.size_append, ByteArray.size_append] <;> omega
theorem ofP_some (a : Bool × Int × Int) (n : Nat) (h : n ≤ 128) : ofP (some a) n = .agg #[.int .u64 (mHi (adHi a) n), .int .u64 (mLo (adLo a) n), .int .i64 n] ∧ ofPok (some a) n = true := by
  refine ⟨?_, decide_eq_true (by omega)⟩
  rw [ofP, ofV, if_pos (by omega), Int.toNat_natCast]
set_option maxHeartbeats 16000000 in
set_option maxRecDepth 100000 in
theorem PrefixNests_law (hi lo other low : Int) (n m : Nat) (hn : n < 256) (hm : m < 256) (h0 : 0 ≤ hi ∧ hi < 18446744073709551616) (h1 : 0 ≤ lo ∧ lo < 18446744073709551616) (h2 : 0 ≤ other ∧ other < 18446744073709551616) (h3 : 0 ≤ low ∧ low < 18446744073709551616)
    (w : World) (hP : Aside0 (Pows w)) (hT : Aside0 (Debr w)) (hE : Aside0 (Errs w)) (hM : Aside0 (Mx w)) :
    Calls Tryz.prog 5 #[.int .u64 hi, .int .u64 lo, .int .u64 other, .int .u64 low, .int .u8 n, .int .u8 m] w fun e w' => e = .returned (.bool true) ∧ Below w.heap.size w w' := by
  obtain ⟨i, hi_⟩ : ∃ i : Nat, i = n % 129 := ⟨_, rfl⟩
  obtain ⟨k, hk_⟩ : ∃ k : Nat, k = m % 129 := ⟨_, rfl⟩
  have hi8 : i ≤ 128 := by omega
  have hk8 : k ≤ 128 := by omega
  have t1 : (n : Int).tmod 129 = (i : Int) := by rw [Int.tmod_eq_emod_of_nonneg (by omega)]; omega
  have t2 : (m : Int).tmod 129 = (k : Int) := by rw [Int.tmod_eq_emod_of_nonneg (by omega)]; omega
  have t3 : (n : Int) % 129 = (i : Int) := by omega
  have t4 : (m : Int) % 129 = (k : Int) := by omega
  clear hi_ hk_
  have OA := Aside0.mk (PfOf_calls (some (true, hi, lo)) (ok_some _ ⟨h0, h1⟩) i)
  have OB := Aside0.mk (PfOf_calls (some (true, other, low)) (ok_some _ ⟨h2, h3⟩) k)
  have OR := Aside0.mk (PfOf_calls (some (true, hi, lo)) (ok_some _ ⟨h0, h1⟩) k)
  rw [(ofP_some _ i hi8).1, (ofP_some _ i hi8).2] at OA
  rw [(ofP_some _ k hk8).1, (ofP_some _ k hk8).2] at OB OR
  simp only [adVo, adV, adHi, adLo] at OA OB OR
  have bp0 := mHi_bd hi i h0
  have bp1 := mLo_bd lo i h1
  have bq0 := mHi_bd other k h2
  have bq1 := mLo_bd low k h3
  have br0 := mHi_bd hi k h0
  have br1 := mLo_bd lo k h1
  have RP := Aside0.mk (Right_calls (mHi hi i) (mLo lo i) i bp0 bp1)
  have HPA := Aside0.mk (PfHas_calls (mHi hi i) (mLo lo i) i (some (true, hi, lo)) (ok_some _ ⟨h0, h1⟩) bp0 bp1)
  have HPB := Aside0.mk (PfHas_calls (mHi hi i) (mLo lo i) i (some (true, other, low)) (ok_some _ ⟨h2, h3⟩) bp0 bp1)
  have HQB := Aside0.mk (PfHas_calls (mHi other k) (mLo low k) k (some (true, other, low)) (ok_some _ ⟨h2, h3⟩) bq0 bq1)
  have HQA := Aside0.mk (PfHas_calls (mHi other k) (mLo low k) k (some (true, hi, lo)) (ok_some _ ⟨h0, h1⟩) bq0 bq1)
  have CPR := Aside0.mk (PfCovers_calls (mHi hi i) (mLo lo i) i (mHi hi k) (mLo lo k) k bp0 bp1 br0 br1)
  have CPQ := Aside0.mk (PfCovers_calls (mHi hi i) (mLo lo i) i (mHi other k) (mLo low k) k bp0 bp1 bq0 bq1)
  have CQP := Aside0.mk (PfCovers_calls (mHi other k) (mLo low k) k (mHi hi i) (mLo lo i) i bq0 bq1 bp0 bp1)
  have NE := Aside0.mk (nest_of hi lo other low i k hi8 hk8 h0 h1 h2 h3)
  have TX := Aside0.mk (PfText_calls (mHi hi i) (mLo lo i) i bp0 bp1 (by omega) (by omega))
  have BK := Aside0.mk (pf_back (mHi hi i, mLo lo i, (i : Int)) ⟨bp0, bp1⟩ (right_mask hi lo i hi8 h0 h1))
  have SZ := pfT_size (mHi hi i) (mLo lo i) i bp0 bp1 (by omega)
  rw [right_mask hi lo i hi8 h0 h1] at RP
  simp only [hasO, adVo, adV, adHi, adLo] at HPA HPB HQB HQA
  rw [has_self hi lo i hi8 h0 h1] at HPA
  rw [has_self other low k hk8 h2 h3] at HQB
  rw [covers_of hi lo hi lo i k hi8 hk8 h0 h1 h0 h1, has_self hi lo i hi8 h0 h1, Bool.and_true] at CPR
  rw [covers_of hi lo other low i k hi8 hk8 h0 h1 h2 h3] at CPQ
  rw [covers_of other low hi lo k i hk8 hi8 h2 h3 h0 h1] at CQP
  simp only [] at BK
  clear bp0 bp1 bq0 bq1 br0 br1
  generalize mHi hi i = p0 at OA RP HPA HPB CPR CPQ CQP NE TX BK SZ
  generalize mLo lo i = p1 at OA RP HPA HPB CPR CPQ CQP NE TX BK SZ
  generalize mHi other k = q0 at OB HQB HQA CPQ CQP NE
  generalize mLo low k = q1 at OB HQB HQA CPQ CQP NE
  generalize mHi hi k = r0 at OR CPR
  generalize mLo lo k = r1 at OR CPR
  generalize hasP p0 p1 i other low = hb at HPB CPQ NE
  generalize hasP q0 q1 k hi lo = hq at HQA CQP NE
  generalize pfT p0 p1 i = tx at TX BK SZ
  have q1_ := ep_25
  have q2_ := eg_25
  have B0 := Aside0.mk (Below.refl w.heap.size w)
  go_enter Tryz.func5, Tryz.ntmps5
  go_wp2_with fail
  refine (awake7_calls _ hE hM hP hT).mono ?_
  rintro e w_1 ⟨rfl, hb_1⟩
  have BB_2 := Aside0.mk (below_then B0.out B0.out.size hb_1)
  clear hb_1
  obtain ⟨W_3, hW_3⟩ : ∃ W_3, W_3 = w_1.alloc (.cells #[.int .u64 hi, .int .u64 lo] 34) := ⟨_, rfl⟩
  obtain ⟨hg_3, hl_3, hb_3⟩ := boxN hW_3
  obtain ⟨ga, hgg_3⟩ : ∃ ga, ga = w_1.heap.size := ⟨_, rfl⟩
  rw [← hgg_3] at hg_3 hl_3
  have HAa := Aside0.mk hg_3
  have LAa := hl_3
  have HGG_3 := Lib.hid hgg_3
  have HWW_3 := Lib.hid hW_3
  clear hW_3 hgg_3 hg_3 hl_3
  have BB_4 := Aside0.mk (below_then BB_2.out BB_2.out.size hb_3)
  clear BB_2 hb_3
  obtain ⟨W_5, hW_5⟩ : ∃ W_5, W_5 = W_3.alloc (.cells #[.int .u64 other, .int .u64 low] 34) := ⟨_, rfl⟩
  obtain ⟨hg_5, hl_5, hb_5⟩ := boxN hW_5
  obtain ⟨gb, hgg_5⟩ : ∃ gb, gb = w_1.heap.size + 1 := ⟨_, rfl⟩
  rw [show W_3.heap.size = w_1.heap.size + 1 by rw [HWW_3.out]; simp] at hg_5 hl_5
  rw [← hgg_5] at hg_5 hl_5
  have HAb := Aside0.mk hg_5
  have LAb := hl_5
  have HGG_5 := Lib.hid hgg_5
  have HWW_5 := Lib.hid hW_5
  clear hW_5 hgg_5 hg_5 hl_5
  have Ha_6 := Aside0.mk ((hb_5.block _ LAa).trans HAa.out)
  have la_6 := Nat.lt_of_lt_of_le LAa hb_5.size
  have BB_6 := Aside0.mk (below_then BB_4.out BB_4.out.size hb_5)
  clear HAa LAa BB_4 hb_5
  have hxa := Ha_6.out
  obtain ⟨ka0, fa0⟩ := heap_cell (j := 0) hxa rfl
  obtain ⟨ka1, fa1⟩ := heap_cell (j := 1) hxa rfl
  clear hxa
  have hxb := HAb.out
  obtain ⟨kb0, fb0⟩ := heap_cell (j := 0) hxb rfl
  obtain ⟨kb1, fb1⟩ := heap_cell (j := 1) hxb rfl
  clear hxb
  rw [HWW_5.out, HWW_3.out] at ka0 fa0 ka1 fa1 kb0 fb0 kb1 fb1
  go_wp2_with fail
  try rw [← HWW_3.out]
  try rw [← HWW_5.out]
  try rw [← HGG_5.out]
  try rw [← HGG_3.out]
  clear ka0 fa0 ka1 fa1 kb0 fb0 kb1 fb1
  refine (OA.out _).mono ?_
  rintro e w_7 ⟨rfl, hb_7⟩
  have Ha_8 := Aside0.mk ((hb_7.block _ la_6).trans Ha_6.out)
  have la_8 := Nat.lt_of_lt_of_le la_6 hb_7.size
  have Hb_8 := Aside0.mk ((hb_7.block _ LAb).trans HAb.out)
  have lb_8 := Nat.lt_of_lt_of_le LAb hb_7.size
  have BB_8 := Aside0.mk (below_then BB_6.out BB_6.out.size hb_7)
  clear Ha_6 la_6 HAb LAb BB_6 hb_7
  obtain ⟨W_9, hW_9⟩ : ∃ W_9, W_9 = w_7.alloc (.cells #[.int .u64 p0, .int .u64 p1, .int .i64 i] 25) := ⟨_, rfl⟩
  obtain ⟨hg_9, hl_9, hb_9⟩ := boxN hW_9
  obtain ⟨gp, hgg_9⟩ : ∃ gp, gp = w_7.heap.size := ⟨_, rfl⟩
  rw [← hgg_9] at hg_9 hl_9
  have HAp := Aside0.mk hg_9
  have LAp := hl_9
  have HGG_9 := Lib.hid hgg_9
  have HWW_9 := Lib.hid hW_9
  clear hW_9 hgg_9 hg_9 hl_9
  have Ha_10 := Aside0.mk ((hb_9.block _ la_8).trans Ha_8.out)
  have la_10 := Nat.lt_of_lt_of_le la_8 hb_9.size
  have Hb_10 := Aside0.mk ((hb_9.block _ lb_8).trans Hb_8.out)
  have lb_10 := Nat.lt_of_lt_of_le lb_8 hb_9.size
  have BB_10 := Aside0.mk (below_then BB_8.out BB_8.out.size hb_9)
  clear Ha_8 la_8 Hb_8 lb_8 BB_8 hb_9
  have hxb := Hb_10.out
  obtain ⟨kb0, fb0⟩ := heap_cell (j := 0) hxb rfl
  obtain ⟨kb1, fb1⟩ := heap_cell (j := 1) hxb rfl
  clear hxb
  rw [HWW_9.out] at kb0 fb0 kb1 fb1
  go_wp2_with fail
  try rw [← HWW_9.out]
  try rw [← HGG_9.out]
  clear kb0 fb0 kb1 fb1
  refine (OB.out _).mono ?_
  rintro e w_11 ⟨rfl, hb_11⟩
  have Ha_12 := Aside0.mk ((hb_11.block _ la_10).trans Ha_10.out)
  have la_12 := Nat.lt_of_lt_of_le la_10 hb_11.size
  have Hb_12 := Aside0.mk ((hb_11.block _ lb_10).trans Hb_10.out)
  have lb_12 := Nat.lt_of_lt_of_le lb_10 hb_11.size
  have Hp_12 := Aside0.mk ((hb_11.block _ LAp).trans HAp.out)
  have lp_12 := Nat.lt_of_lt_of_le LAp hb_11.size
  have BB_12 := Aside0.mk (below_then BB_10.out BB_10.out.size hb_11)
  clear Ha_10 la_10 Hb_10 lb_10 HAp LAp BB_10 hb_11
  obtain ⟨W_13, hW_13⟩ : ∃ W_13, W_13 = w_11.alloc (.cells #[.int .u64 q0, .int .u64 q1, .int .i64 k] 25) := ⟨_, rfl⟩
  obtain ⟨hg_13, hl_13, hb_13⟩ := boxN hW_13
  obtain ⟨gq, hgg_13⟩ : ∃ gq, gq = w_11.heap.size := ⟨_, rfl⟩
  rw [← hgg_13] at hg_13 hl_13
  have HAq := Aside0.mk hg_13
  have LAq := hl_13
  have HGG_13 := Lib.hid hgg_13
  have HWW_13 := Lib.hid hW_13
  clear hW_13 hgg_13 hg_13 hl_13
  have Ha_14 := Aside0.mk ((hb_13.block _ la_12).trans Ha_12.out)
  have la_14 := Nat.lt_of_lt_of_le la_12 hb_13.size
  have Hb_14 := Aside0.mk ((hb_13.block _ lb_12).trans Hb_12.out)
  have lb_14 := Nat.lt_of_lt_of_le lb_12 hb_13.size
  have Hp_14 := Aside0.mk ((hb_13.block _ lp_12).trans Hp_12.out)
  have lp_14 := Nat.lt_of_lt_of_le lp_12 hb_13.size
  have BB_14 := Aside0.mk (below_then BB_12.out BB_12.out.size hb_13)
  clear Ha_12 la_12 Hb_12 lb_12 Hp_12 lp_12 BB_12 hb_13
  have hxa := Ha_14.out
  obtain ⟨ka0, fa0⟩ := heap_cell (j := 0) hxa rfl
  obtain ⟨ka1, fa1⟩ := heap_cell (j := 1) hxa rfl
  clear hxa
  rw [HWW_13.out] at ka0 fa0 ka1 fa1
  go_wp2_with fail
  try rw [← HWW_13.out]
  try rw [← HGG_13.out]
  clear ka0 fa0 ka1 fa1
  refine (OR.out _).mono ?_
  rintro e w_15 ⟨rfl, hb_15⟩
  have Ha_16 := Aside0.mk ((hb_15.block _ la_14).trans Ha_14.out)
  have la_16 := Nat.lt_of_lt_of_le la_14 hb_15.size
  have Hb_16 := Aside0.mk ((hb_15.block _ lb_14).trans Hb_14.out)
  have lb_16 := Nat.lt_of_lt_of_le lb_14 hb_15.size
  have Hp_16 := Aside0.mk ((hb_15.block _ lp_14).trans Hp_14.out)
  have lp_16 := Nat.lt_of_lt_of_le lp_14 hb_15.size
  have Hq_16 := Aside0.mk ((hb_15.block _ LAq).trans HAq.out)
  have lq_16 := Nat.lt_of_lt_of_le LAq hb_15.size
  have BB_16 := Aside0.mk (below_then BB_14.out BB_14.out.size hb_15)
  clear Ha_14 la_14 Hb_14 lb_14 Hp_14 lp_14 HAq LAq BB_14 hb_15
  obtain ⟨W_17, hW_17⟩ : ∃ W_17, W_17 = w_15.alloc (.cells #[.int .u64 r0, .int .u64 r1, .int .i64 k] 25) := ⟨_, rfl⟩
  obtain ⟨hg_17, hl_17, hb_17⟩ := boxN hW_17
  obtain ⟨gr, hgg_17⟩ : ∃ gr, gr = w_15.heap.size := ⟨_, rfl⟩
  rw [← hgg_17] at hg_17 hl_17
  have HAr := Aside0.mk hg_17
  have LAr := hl_17
  have HGG_17 := Lib.hid hgg_17
  have HWW_17 := Lib.hid hW_17
  clear hW_17 hgg_17 hg_17 hl_17
  have Ha_18 := Aside0.mk ((hb_17.block _ la_16).trans Ha_16.out)
  have la_18 := Nat.lt_of_lt_of_le la_16 hb_17.size
  have Hb_18 := Aside0.mk ((hb_17.block _ lb_16).trans Hb_16.out)
  have lb_18 := Nat.lt_of_lt_of_le lb_16 hb_17.size
  have Hp_18 := Aside0.mk ((hb_17.block _ lp_16).trans Hp_16.out)
  have lp_18 := Nat.lt_of_lt_of_le lp_16 hb_17.size
  have Hq_18 := Aside0.mk ((hb_17.block _ lq_16).trans Hq_16.out)
  have lq_18 := Nat.lt_of_lt_of_le lq_16 hb_17.size
  have BB_18 := Aside0.mk (below_then BB_16.out BB_16.out.size hb_17)
  clear Ha_16 la_16 Hb_16 lb_16 Hp_16 lp_16 Hq_16 lq_16 BB_16 hb_17
  have hxp := Hp_18.out
  obtain ⟨kp0, fp0⟩ := heap_cell (j := 0) hxp rfl
  obtain ⟨kp1, fp1⟩ := heap_cell (j := 1) hxp rfl
  obtain ⟨kp2, fp2⟩ := heap_cell (j := 2) hxp rfl
  clear hxp
  rw [HWW_17.out] at kp0 fp0 kp1 fp1 kp2 fp2
  go_wp2_with fail
  try rw [← HWW_17.out]
  try rw [← HGG_17.out]
  clear kp0 fp0 kp1 fp1 kp2 fp2
  refine (RP.out _).mono ?_
  rintro e w_19 ⟨rfl, hb_19⟩
  have Ha_20 := Aside0.mk ((hb_19.block _ la_18).trans Ha_18.out)
  have la_20 := Nat.lt_of_lt_of_le la_18 hb_19.size
  have Hb_20 := Aside0.mk ((hb_19.block _ lb_18).trans Hb_18.out)
  have lb_20 := Nat.lt_of_lt_of_le lb_18 hb_19.size
  have Hp_20 := Aside0.mk ((hb_19.block _ lp_18).trans Hp_18.out)
  have lp_20 := Nat.lt_of_lt_of_le lp_18 hb_19.size
  have Hq_20 := Aside0.mk ((hb_19.block _ lq_18).trans Hq_18.out)
  have lq_20 := Nat.lt_of_lt_of_le lq_18 hb_19.size
  have Hr_20 := Aside0.mk ((hb_19.block _ LAr).trans HAr.out)
  have lr_20 := Nat.lt_of_lt_of_le LAr hb_19.size
  have BB_20 := Aside0.mk (below_then BB_18.out BB_18.out.size hb_19)
  clear Ha_18 la_18 Hb_18 lb_18 Hp_18 lp_18 Hq_18 lq_18 HAr LAr BB_18 hb_19
  have hxp := Hp_20.out
  obtain ⟨kp0, fp0⟩ := heap_cell (j := 0) hxp rfl
  obtain ⟨kp1, fp1⟩ := heap_cell (j := 1) hxp rfl
  obtain ⟨kp2, fp2⟩ := heap_cell (j := 2) hxp rfl
  clear hxp
  have hxa := Ha_20.out
  obtain ⟨ka0, fa0⟩ := heap_cell (j := 0) hxa rfl
  obtain ⟨ka1, fa1⟩ := heap_cell (j := 1) hxa rfl
  clear hxa
  go_wp2_with fail
  clear kp0 fp0 kp1 fp1 kp2 fp2 ka0 fa0 ka1 fa1
  refine (HPA.out _).mono ?_
  rintro e w_21 ⟨rfl, hb_21⟩
  have Ha_22 := Aside0.mk ((hb_21.block _ la_20).trans Ha_20.out)
  have la_22 := Nat.lt_of_lt_of_le la_20 hb_21.size
  have Hb_22 := Aside0.mk ((hb_21.block _ lb_20).trans Hb_20.out)
  have lb_22 := Nat.lt_of_lt_of_le lb_20 hb_21.size
  have Hp_22 := Aside0.mk ((hb_21.block _ lp_20).trans Hp_20.out)
  have lp_22 := Nat.lt_of_lt_of_le lp_20 hb_21.size
  have Hq_22 := Aside0.mk ((hb_21.block _ lq_20).trans Hq_20.out)
  have lq_22 := Nat.lt_of_lt_of_le lq_20 hb_21.size
  have Hr_22 := Aside0.mk ((hb_21.block _ lr_20).trans Hr_20.out)
  have lr_22 := Nat.lt_of_lt_of_le lr_20 hb_21.size
  have BB_22 := Aside0.mk (below_then BB_20.out BB_20.out.size hb_21)
  clear Ha_20 la_20 Hb_20 lb_20 Hp_20 lp_20 Hq_20 lq_20 Hr_20 lr_20 BB_20 hb_21
  have hxq := Hq_22.out
  obtain ⟨kq0, fq0⟩ := heap_cell (j := 0) hxq rfl
  obtain ⟨kq1, fq1⟩ := heap_cell (j := 1) hxq rfl
  obtain ⟨kq2, fq2⟩ := heap_cell (j := 2) hxq rfl
  clear hxq
  have hxb := Hb_22.out
  obtain ⟨kb0, fb0⟩ := heap_cell (j := 0) hxb rfl
  obtain ⟨kb1, fb1⟩ := heap_cell (j := 1) hxb rfl
  clear hxb
  go_wp2_with fail
  clear kq0 fq0 kq1 fq1 kq2 fq2 kb0 fb0 kb1 fb1
  refine (HQB.out _).mono ?_
  rintro e w_23 ⟨rfl, hb_23⟩
  have Ha_24 := Aside0.mk ((hb_23.block _ la_22).trans Ha_22.out)
  have la_24 := Nat.lt_of_lt_of_le la_22 hb_23.size
  have Hb_24 := Aside0.mk ((hb_23.block _ lb_22).trans Hb_22.out)
  have lb_24 := Nat.lt_of_lt_of_le lb_22 hb_23.size
  have Hp_24 := Aside0.mk ((hb_23.block _ lp_22).trans Hp_22.out)
  have lp_24 := Nat.lt_of_lt_of_le lp_22 hb_23.size
  have Hq_24 := Aside0.mk ((hb_23.block _ lq_22).trans Hq_22.out)
  have lq_24 := Nat.lt_of_lt_of_le lq_22 hb_23.size
  have Hr_24 := Aside0.mk ((hb_23.block _ lr_22).trans Hr_22.out)
  have lr_24 := Nat.lt_of_lt_of_le lr_22 hb_23.size
  have BB_24 := Aside0.mk (below_then BB_22.out BB_22.out.size hb_23)
  clear Ha_22 la_22 Hb_22 lb_22 Hp_22 lp_22 Hq_22 lq_22 Hr_22 lr_22 BB_22 hb_23
  have hxp := Hp_24.out
  obtain ⟨kp0, fp0⟩ := heap_cell (j := 0) hxp rfl
  obtain ⟨kp1, fp1⟩ := heap_cell (j := 1) hxp rfl
  obtain ⟨kp2, fp2⟩ := heap_cell (j := 2) hxp rfl
  clear hxp
  have hxr := Hr_24.out
  obtain ⟨kr0, fr0⟩ := heap_cell (j := 0) hxr rfl
  obtain ⟨kr1, fr1⟩ := heap_cell (j := 1) hxr rfl
  obtain ⟨kr2, fr2⟩ := heap_cell (j := 2) hxr rfl
  clear hxr
  go_wp2_with fail
  clear kp0 fp0 kp1 fp1 kp2 fp2 kr0 fr0 kr1 fr1 kr2 fr2
  refine (CPR.out _).mono ?_
  rintro e w_25 ⟨rfl, hb_25⟩
  have Ha_26 := Aside0.mk ((hb_25.block _ la_24).trans Ha_24.out)
  have la_26 := Nat.lt_of_lt_of_le la_24 hb_25.size
  have Hb_26 := Aside0.mk ((hb_25.block _ lb_24).trans Hb_24.out)
  have lb_26 := Nat.lt_of_lt_of_le lb_24 hb_25.size
  have Hp_26 := Aside0.mk ((hb_25.block _ lp_24).trans Hp_24.out)
  have lp_26 := Nat.lt_of_lt_of_le lp_24 hb_25.size
  have Hq_26 := Aside0.mk ((hb_25.block _ lq_24).trans Hq_24.out)
  have lq_26 := Nat.lt_of_lt_of_le lq_24 hb_25.size
  have Hr_26 := Aside0.mk ((hb_25.block _ lr_24).trans Hr_24.out)
  have lr_26 := Nat.lt_of_lt_of_le lr_24 hb_25.size
  have BB_26 := Aside0.mk (below_then BB_24.out BB_24.out.size hb_25)
  clear Ha_24 la_24 Hb_24 lb_24 Hp_24 lp_24 Hq_24 lq_24 Hr_24 lr_24 BB_24 hb_25
  have hxp := Hp_26.out
  obtain ⟨kp0, fp0⟩ := heap_cell (j := 0) hxp rfl
  obtain ⟨kp1, fp1⟩ := heap_cell (j := 1) hxp rfl
  obtain ⟨kp2, fp2⟩ := heap_cell (j := 2) hxp rfl
  clear hxp
  have hxq := Hq_26.out
  obtain ⟨kq0, fq0⟩ := heap_cell (j := 0) hxq rfl
  obtain ⟨kq1, fq1⟩ := heap_cell (j := 1) hxq rfl
  obtain ⟨kq2, fq2⟩ := heap_cell (j := 2) hxq rfl
  clear hxq
  cases hle : decide ((i : Int) ≤ k)
  · rw [hle] at CPR CPQ NE
    simp only [Bool.false_and, Bool.false_eq_true, false_or] at CPQ NE
    have hle' : ¬ (i : Int) ≤ k := of_decide_eq_false hle
    clear hle
    go_wp2_with fail
    clear kp0 fp0 kp1 fp1 kp2 fp2 kq0 fq0 kq1 fq1 kq2 fq2
    refine (CPQ.out _).mono ?_
    rintro e w_27 ⟨rfl, hb_27⟩
    have Ha_28 := Aside0.mk ((hb_27.block _ la_26).trans Ha_26.out)
    have la_28 := Nat.lt_of_lt_of_le la_26 hb_27.size
    have Hb_28 := Aside0.mk ((hb_27.block _ lb_26).trans Hb_26.out)
    have lb_28 := Nat.lt_of_lt_of_le lb_26 hb_27.size
    have Hp_28 := Aside0.mk ((hb_27.block _ lp_26).trans Hp_26.out)
    have lp_28 := Nat.lt_of_lt_of_le lp_26 hb_27.size
    have Hq_28 := Aside0.mk ((hb_27.block _ lq_26).trans Hq_26.out)
    have lq_28 := Nat.lt_of_lt_of_le lq_26 hb_27.size
    have Hr_28 := Aside0.mk ((hb_27.block _ lr_26).trans Hr_26.out)
    have lr_28 := Nat.lt_of_lt_of_le lr_26 hb_27.size
    have BB_28 := Aside0.mk (below_then BB_26.out BB_26.out.size hb_27)
    clear Ha_26 la_26 Hb_26 lb_26 Hp_26 lp_26 Hq_26 lq_26 Hr_26 lr_26 BB_26 hb_27
    have hxq := Hq_28.out
    obtain ⟨kq0, fq0⟩ := heap_cell (j := 0) hxq rfl
    obtain ⟨kq1, fq1⟩ := heap_cell (j := 1) hxq rfl
    obtain ⟨kq2, fq2⟩ := heap_cell (j := 2) hxq rfl
    clear hxq
    have hxa := Ha_28.out
    obtain ⟨ka0, fa0⟩ := heap_cell (j := 0) hxa rfl
    obtain ⟨ka1, fa1⟩ := heap_cell (j := 1) hxa rfl
    clear hxa
    go_wp2_with fail
    clear kq0 fq0 kq1 fq1 kq2 fq2 ka0 fa0 ka1 fa1
    refine (HQA.out _).mono ?_
    rintro e w_29 ⟨rfl, hb_29⟩
    have Ha_30 := Aside0.mk ((hb_29.block _ la_28).trans Ha_28.out)
    have la_30 := Nat.lt_of_lt_of_le la_28 hb_29.size
    have Hb_30 := Aside0.mk ((hb_29.block _ lb_28).trans Hb_28.out)
    have lb_30 := Nat.lt_of_lt_of_le lb_28 hb_29.size
    have Hp_30 := Aside0.mk ((hb_29.block _ lp_28).trans Hp_28.out)
    have lp_30 := Nat.lt_of_lt_of_le lp_28 hb_29.size
    have Hq_30 := Aside0.mk ((hb_29.block _ lq_28).trans Hq_28.out)
    have lq_30 := Nat.lt_of_lt_of_le lq_28 hb_29.size
    have Hr_30 := Aside0.mk ((hb_29.block _ lr_28).trans Hr_28.out)
    have lr_30 := Nat.lt_of_lt_of_le lr_28 hb_29.size
    have BB_30 := Aside0.mk (below_then BB_28.out BB_28.out.size hb_29)
    clear Ha_28 la_28 Hb_28 lb_28 Hp_28 lp_28 Hq_28 lq_28 Hr_28 lr_28 BB_28 hb_29
    have hxq := Hq_30.out
    obtain ⟨kq0, fq0⟩ := heap_cell (j := 0) hxq rfl
    obtain ⟨kq1, fq1⟩ := heap_cell (j := 1) hxq rfl
    obtain ⟨kq2, fq2⟩ := heap_cell (j := 2) hxq rfl
    clear hxq
    have hxp := Hp_30.out
    obtain ⟨kp0, fp0⟩ := heap_cell (j := 0) hxp rfl
    obtain ⟨kp1, fp1⟩ := heap_cell (j := 1) hxp rfl
    obtain ⟨kp2, fp2⟩ := heap_cell (j := 2) hxp rfl
    clear hxp
    cases hq
    · go_wp2_with fail
      clear kq0 fq0 kq1 fq1 kq2 fq2 kp0 fp0 kp1 fp1 kp2 fp2
      refine (TX.out _ ⟨hP.out.stays BB_30.out⟩ ⟨hT.out.stays BB_30.out⟩).mono ?_
      rintro e w_31 ⟨rfl, hb_31⟩
      have Ha_32 := Aside0.mk ((hb_31.block _ la_30).trans Ha_30.out)
      have la_32 := Nat.lt_of_lt_of_le la_30 hb_31.size
      have Hb_32 := Aside0.mk ((hb_31.block _ lb_30).trans Hb_30.out)
      have lb_32 := Nat.lt_of_lt_of_le lb_30 hb_31.size
      have Hp_32 := Aside0.mk ((hb_31.block _ lp_30).trans Hp_30.out)
      have lp_32 := Nat.lt_of_lt_of_le lp_30 hb_31.size
      have Hq_32 := Aside0.mk ((hb_31.block _ lq_30).trans Hq_30.out)
      have lq_32 := Nat.lt_of_lt_of_le lq_30 hb_31.size
      have Hr_32 := Aside0.mk ((hb_31.block _ lr_30).trans Hr_30.out)
      have lr_32 := Nat.lt_of_lt_of_le lr_30 hb_31.size
      have BB_32 := Aside0.mk (below_then BB_30.out BB_30.out.size hb_31)
      clear Ha_30 la_30 Hb_30 lb_30 Hp_30 lp_30 Hq_30 lq_30 Hr_30 lr_30 BB_30 hb_31
      go_wp2_with fail
      refine (PfParse_calls tx _ (by omega) ⟨hE.out.stays BB_32.out⟩ ⟨hM.out.stays BB_32.out⟩).mono ?_
      rw [BK.out]
      simp only [pfV, Option.isSome]
      rintro e w_33 ⟨rfl, hb_33⟩
      have Ha_34 := Aside0.mk ((hb_33.block _ la_32).trans Ha_32.out)
      have la_34 := Nat.lt_of_lt_of_le la_32 hb_33.size
      have Hb_34 := Aside0.mk ((hb_33.block _ lb_32).trans Hb_32.out)
      have lb_34 := Nat.lt_of_lt_of_le lb_32 hb_33.size
      have Hp_34 := Aside0.mk ((hb_33.block _ lp_32).trans Hp_32.out)
      have lp_34 := Nat.lt_of_lt_of_le lp_32 hb_33.size
      have Hq_34 := Aside0.mk ((hb_33.block _ lq_32).trans Hq_32.out)
      have lq_34 := Nat.lt_of_lt_of_le lq_32 hb_33.size
      have Hr_34 := Aside0.mk ((hb_33.block _ lr_32).trans Hr_32.out)
      have lr_34 := Nat.lt_of_lt_of_le lr_32 hb_33.size
      have BB_34 := Aside0.mk (below_then BB_32.out BB_32.out.size hb_33)
      clear Ha_32 la_32 Hb_32 lb_32 Hp_32 lp_32 Hq_32 lq_32 Hr_32 lr_32 BB_32 hb_33
      obtain ⟨W_35, hW_35⟩ : ∃ W_35, W_35 = w_33.alloc (.cells #[.int .u64 p0, .int .u64 p1, .int .i64 i] 25) := ⟨_, rfl⟩
      obtain ⟨hg_35, hl_35, hb_35⟩ := boxN hW_35
      obtain ⟨gz, hgg_35⟩ : ∃ gz, gz = w_33.heap.size := ⟨_, rfl⟩
      rw [← hgg_35] at hg_35 hl_35
      have HAz := Aside0.mk hg_35
      have LAz := hl_35
      have HGG_35 := Lib.hid hgg_35
      have HWW_35 := Lib.hid hW_35
      clear hW_35 hgg_35 hg_35 hl_35
      have Ha_36 := Aside0.mk ((hb_35.block _ la_34).trans Ha_34.out)
      have la_36 := Nat.lt_of_lt_of_le la_34 hb_35.size
      have Hb_36 := Aside0.mk ((hb_35.block _ lb_34).trans Hb_34.out)
      have lb_36 := Nat.lt_of_lt_of_le lb_34 hb_35.size
      have Hp_36 := Aside0.mk ((hb_35.block _ lp_34).trans Hp_34.out)
      have lp_36 := Nat.lt_of_lt_of_le lp_34 hb_35.size
      have Hq_36 := Aside0.mk ((hb_35.block _ lq_34).trans Hq_34.out)
      have lq_36 := Nat.lt_of_lt_of_le lq_34 hb_35.size
      have Hr_36 := Aside0.mk ((hb_35.block _ lr_34).trans Hr_34.out)
      have lr_36 := Nat.lt_of_lt_of_le lr_34 hb_35.size
      have BB_36 := Aside0.mk (below_then BB_34.out BB_34.out.size hb_35)
      clear Ha_34 la_34 Hb_34 lb_34 Hp_34 lp_34 Hq_34 lq_34 Hr_34 lr_34 BB_34 hb_35
      have hxp := Hp_36.out
      obtain ⟨kp0, fp0⟩ := heap_cell (j := 0) hxp rfl
      obtain ⟨kp1, fp1⟩ := heap_cell (j := 1) hxp rfl
      obtain ⟨kp2, fp2⟩ := heap_cell (j := 2) hxp rfl
      clear hxp
      have hxz := HAz.out
      obtain ⟨kz0, fz0⟩ := heap_cell (j := 0) hxz rfl
      obtain ⟨kz1, fz1⟩ := heap_cell (j := 1) hxz rfl
      obtain ⟨kz2, fz2⟩ := heap_cell (j := 2) hxz rfl
      clear hxz
      rw [HWW_35.out] at kp0 fp0 kp1 fp1 kp2 fp2 kz0 fz0 kz1 fz1 kz2 fz2
      go_wp2_with fail
      try rw [← HWW_35.out]
      try rw [← HGG_35.out]
      clear kp0 fp0 kp1 fp1 kp2 fp2 kz0 fz0 kz1 fz1 kz2 fz2
      go_ret
      exact ⟨ret_bool (by simp), BB_36.out⟩
    · have hqp := NE.out rfl
      rw [hqp] at CQP
      clear hqp
      go_wp2_with fail
      clear kq0 fq0 kq1 fq1 kq2 fq2 kp0 fp0 kp1 fp1 kp2 fp2
      refine (CPQ.out _).mono ?_
      rintro e w_31 ⟨rfl, hb_31⟩
      have Ha_32 := Aside0.mk ((hb_31.block _ la_30).trans Ha_30.out)
      have la_32 := Nat.lt_of_lt_of_le la_30 hb_31.size
      have Hb_32 := Aside0.mk ((hb_31.block _ lb_30).trans Hb_30.out)
      have lb_32 := Nat.lt_of_lt_of_le lb_30 hb_31.size
      have Hp_32 := Aside0.mk ((hb_31.block _ lp_30).trans Hp_30.out)
      have lp_32 := Nat.lt_of_lt_of_le lp_30 hb_31.size
      have Hq_32 := Aside0.mk ((hb_31.block _ lq_30).trans Hq_30.out)
      have lq_32 := Nat.lt_of_lt_of_le lq_30 hb_31.size
      have Hr_32 := Aside0.mk ((hb_31.block _ lr_30).trans Hr_30.out)
      have lr_32 := Nat.lt_of_lt_of_le lr_30 hb_31.size
      have BB_32 := Aside0.mk (below_then BB_30.out BB_30.out.size hb_31)
      clear Ha_30 la_30 Hb_30 lb_30 Hp_30 lp_30 Hq_30 lq_30 Hr_30 lr_30 BB_30 hb_31
      have hxq := Hq_32.out
      obtain ⟨kq0, fq0⟩ := heap_cell (j := 0) hxq rfl
      obtain ⟨kq1, fq1⟩ := heap_cell (j := 1) hxq rfl
      obtain ⟨kq2, fq2⟩ := heap_cell (j := 2) hxq rfl
      clear hxq
      have hxp := Hp_32.out
      obtain ⟨kp0, fp0⟩ := heap_cell (j := 0) hxp rfl
      obtain ⟨kp1, fp1⟩ := heap_cell (j := 1) hxp rfl
      obtain ⟨kp2, fp2⟩ := heap_cell (j := 2) hxp rfl
      clear hxp
      go_wp2_with fail
      clear kq0 fq0 kq1 fq1 kq2 fq2 kp0 fp0 kp1 fp1 kp2 fp2
      refine (CQP.out _).mono ?_
      rintro e w_33 ⟨rfl, hb_33⟩
      have Ha_34 := Aside0.mk ((hb_33.block _ la_32).trans Ha_32.out)
      have la_34 := Nat.lt_of_lt_of_le la_32 hb_33.size
      have Hb_34 := Aside0.mk ((hb_33.block _ lb_32).trans Hb_32.out)
      have lb_34 := Nat.lt_of_lt_of_le lb_32 hb_33.size
      have Hp_34 := Aside0.mk ((hb_33.block _ lp_32).trans Hp_32.out)
      have lp_34 := Nat.lt_of_lt_of_le lp_32 hb_33.size
      have Hq_34 := Aside0.mk ((hb_33.block _ lq_32).trans Hq_32.out)
      have lq_34 := Nat.lt_of_lt_of_le lq_32 hb_33.size
      have Hr_34 := Aside0.mk ((hb_33.block _ lr_32).trans Hr_32.out)
      have lr_34 := Nat.lt_of_lt_of_le lr_32 hb_33.size
      have BB_34 := Aside0.mk (below_then BB_32.out BB_32.out.size hb_33)
      clear Ha_32 la_32 Hb_32 lb_32 Hp_32 lp_32 Hq_32 lq_32 Hr_32 lr_32 BB_32 hb_33
      have hxp := Hp_34.out
      obtain ⟨kp0, fp0⟩ := heap_cell (j := 0) hxp rfl
      obtain ⟨kp1, fp1⟩ := heap_cell (j := 1) hxp rfl
      obtain ⟨kp2, fp2⟩ := heap_cell (j := 2) hxp rfl
      clear hxp
      go_wp2_with fail
      clear kp0 fp0 kp1 fp1 kp2 fp2
      refine (TX.out _ ⟨hP.out.stays BB_34.out⟩ ⟨hT.out.stays BB_34.out⟩).mono ?_
      rintro e w_35 ⟨rfl, hb_35⟩
      have Ha_36 := Aside0.mk ((hb_35.block _ la_34).trans Ha_34.out)
      have la_36 := Nat.lt_of_lt_of_le la_34 hb_35.size
      have Hb_36 := Aside0.mk ((hb_35.block _ lb_34).trans Hb_34.out)
      have lb_36 := Nat.lt_of_lt_of_le lb_34 hb_35.size
      have Hp_36 := Aside0.mk ((hb_35.block _ lp_34).trans Hp_34.out)
      have lp_36 := Nat.lt_of_lt_of_le lp_34 hb_35.size
      have Hq_36 := Aside0.mk ((hb_35.block _ lq_34).trans Hq_34.out)
      have lq_36 := Nat.lt_of_lt_of_le lq_34 hb_35.size
      have Hr_36 := Aside0.mk ((hb_35.block _ lr_34).trans Hr_34.out)
      have lr_36 := Nat.lt_of_lt_of_le lr_34 hb_35.size
      have BB_36 := Aside0.mk (below_then BB_34.out BB_34.out.size hb_35)
      clear Ha_34 la_34 Hb_34 lb_34 Hp_34 lp_34 Hq_34 lq_34 Hr_34 lr_34 BB_34 hb_35
      go_wp2_with fail
      refine (PfParse_calls tx _ (by omega) ⟨hE.out.stays BB_36.out⟩ ⟨hM.out.stays BB_36.out⟩).mono ?_
      rw [BK.out]
      simp only [pfV, Option.isSome]
      rintro e w_37 ⟨rfl, hb_37⟩
      have Ha_38 := Aside0.mk ((hb_37.block _ la_36).trans Ha_36.out)
      have la_38 := Nat.lt_of_lt_of_le la_36 hb_37.size
      have Hb_38 := Aside0.mk ((hb_37.block _ lb_36).trans Hb_36.out)
      have lb_38 := Nat.lt_of_lt_of_le lb_36 hb_37.size
      have Hp_38 := Aside0.mk ((hb_37.block _ lp_36).trans Hp_36.out)
      have lp_38 := Nat.lt_of_lt_of_le lp_36 hb_37.size
      have Hq_38 := Aside0.mk ((hb_37.block _ lq_36).trans Hq_36.out)
      have lq_38 := Nat.lt_of_lt_of_le lq_36 hb_37.size
      have Hr_38 := Aside0.mk ((hb_37.block _ lr_36).trans Hr_36.out)
      have lr_38 := Nat.lt_of_lt_of_le lr_36 hb_37.size
      have BB_38 := Aside0.mk (below_then BB_36.out BB_36.out.size hb_37)
      clear Ha_36 la_36 Hb_36 lb_36 Hp_36 lp_36 Hq_36 lq_36 Hr_36 lr_36 BB_36 hb_37
      obtain ⟨W_39, hW_39⟩ : ∃ W_39, W_39 = w_37.alloc (.cells #[.int .u64 p0, .int .u64 p1, .int .i64 i] 25) := ⟨_, rfl⟩
      obtain ⟨hg_39, hl_39, hb_39⟩ := boxN hW_39
      obtain ⟨gz, hgg_39⟩ : ∃ gz, gz = w_37.heap.size := ⟨_, rfl⟩
      rw [← hgg_39] at hg_39 hl_39
      have HAz := Aside0.mk hg_39
      have LAz := hl_39
      have HGG_39 := Lib.hid hgg_39
      have HWW_39 := Lib.hid hW_39
      clear hW_39 hgg_39 hg_39 hl_39
      have Ha_40 := Aside0.mk ((hb_39.block _ la_38).trans Ha_38.out)
      have la_40 := Nat.lt_of_lt_of_le la_38 hb_39.size
      have Hb_40 := Aside0.mk ((hb_39.block _ lb_38).trans Hb_38.out)
      have lb_40 := Nat.lt_of_lt_of_le lb_38 hb_39.size
      have Hp_40 := Aside0.mk ((hb_39.block _ lp_38).trans Hp_38.out)
      have lp_40 := Nat.lt_of_lt_of_le lp_38 hb_39.size
      have Hq_40 := Aside0.mk ((hb_39.block _ lq_38).trans Hq_38.out)
      have lq_40 := Nat.lt_of_lt_of_le lq_38 hb_39.size
      have Hr_40 := Aside0.mk ((hb_39.block _ lr_38).trans Hr_38.out)
      have lr_40 := Nat.lt_of_lt_of_le lr_38 hb_39.size
      have BB_40 := Aside0.mk (below_then BB_38.out BB_38.out.size hb_39)
      clear Ha_38 la_38 Hb_38 lb_38 Hp_38 lp_38 Hq_38 lq_38 Hr_38 lr_38 BB_38 hb_39
      have hxp := Hp_40.out
      obtain ⟨kp0, fp0⟩ := heap_cell (j := 0) hxp rfl
      obtain ⟨kp1, fp1⟩ := heap_cell (j := 1) hxp rfl
      obtain ⟨kp2, fp2⟩ := heap_cell (j := 2) hxp rfl
      clear hxp
      have hxz := HAz.out
      obtain ⟨kz0, fz0⟩ := heap_cell (j := 0) hxz rfl
      obtain ⟨kz1, fz1⟩ := heap_cell (j := 1) hxz rfl
      obtain ⟨kz2, fz2⟩ := heap_cell (j := 2) hxz rfl
      clear hxz
      rw [HWW_39.out] at kp0 fp0 kp1 fp1 kp2 fp2 kz0 fz0 kz1 fz1 kz2 fz2
      go_wp2_with fail
      try rw [← HWW_39.out]
      try rw [← HGG_39.out]
      clear kp0 fp0 kp1 fp1 kp2 fp2 kz0 fz0 kz1 fz1 kz2 fz2
      go_ret
      exact ⟨ret_bool (by simp), BB_40.out⟩
  · rw [hle] at CPR CPQ NE
    simp only [Bool.true_and] at CPQ NE
    have hle' : (i : Int) ≤ k := of_decide_eq_true hle
    clear hle
    go_wp2_with fail
    clear kp0 fp0 kp1 fp1 kp2 fp2 kq0 fq0 kq1 fq1 kq2 fq2
    refine (CPQ.out _).mono ?_
    rintro e w_27 ⟨rfl, hb_27⟩
    have Ha_28 := Aside0.mk ((hb_27.block _ la_26).trans Ha_26.out)
    have la_28 := Nat.lt_of_lt_of_le la_26 hb_27.size
    have Hb_28 := Aside0.mk ((hb_27.block _ lb_26).trans Hb_26.out)
    have lb_28 := Nat.lt_of_lt_of_le lb_26 hb_27.size
    have Hp_28 := Aside0.mk ((hb_27.block _ lp_26).trans Hp_26.out)
    have lp_28 := Nat.lt_of_lt_of_le lp_26 hb_27.size
    have Hq_28 := Aside0.mk ((hb_27.block _ lq_26).trans Hq_26.out)
    have lq_28 := Nat.lt_of_lt_of_le lq_26 hb_27.size
    have Hr_28 := Aside0.mk ((hb_27.block _ lr_26).trans Hr_26.out)
    have lr_28 := Nat.lt_of_lt_of_le lr_26 hb_27.size
    have BB_28 := Aside0.mk (below_then BB_26.out BB_26.out.size hb_27)
    clear Ha_26 la_26 Hb_26 lb_26 Hp_26 lp_26 Hq_26 lq_26 Hr_26 lr_26 BB_26 hb_27
    have hxp := Hp_28.out
    obtain ⟨kp0, fp0⟩ := heap_cell (j := 0) hxp rfl
    obtain ⟨kp1, fp1⟩ := heap_cell (j := 1) hxp rfl
    obtain ⟨kp2, fp2⟩ := heap_cell (j := 2) hxp rfl
    clear hxp
    have hxb := Hb_28.out
    obtain ⟨kb0, fb0⟩ := heap_cell (j := 0) hxb rfl
    obtain ⟨kb1, fb1⟩ := heap_cell (j := 1) hxb rfl
    clear hxb
    go_wp2_with fail
    clear kp0 fp0 kp1 fp1 kp2 fp2 kb0 fb0 kb1 fb1
    refine (HPB.out _).mono ?_
    rintro e w_29 ⟨rfl, hb_29⟩
    have Ha_30 := Aside0.mk ((hb_29.block _ la_28).trans Ha_28.out)
    have la_30 := Nat.lt_of_lt_of_le la_28 hb_29.size
    have Hb_30 := Aside0.mk ((hb_29.block _ lb_28).trans Hb_28.out)
    have lb_30 := Nat.lt_of_lt_of_le lb_28 hb_29.size
    have Hp_30 := Aside0.mk ((hb_29.block _ lp_28).trans Hp_28.out)
    have lp_30 := Nat.lt_of_lt_of_le lp_28 hb_29.size
    have Hq_30 := Aside0.mk ((hb_29.block _ lq_28).trans Hq_28.out)
    have lq_30 := Nat.lt_of_lt_of_le lq_28 hb_29.size
    have Hr_30 := Aside0.mk ((hb_29.block _ lr_28).trans Hr_28.out)
    have lr_30 := Nat.lt_of_lt_of_le lr_28 hb_29.size
    have BB_30 := Aside0.mk (below_then BB_28.out BB_28.out.size hb_29)
    clear Ha_28 la_28 Hb_28 lb_28 Hp_28 lp_28 Hq_28 lq_28 Hr_28 lr_28 BB_28 hb_29
    have hxq := Hq_30.out
    obtain ⟨kq0, fq0⟩ := heap_cell (j := 0) hxq rfl
    obtain ⟨kq1, fq1⟩ := heap_cell (j := 1) hxq rfl
    obtain ⟨kq2, fq2⟩ := heap_cell (j := 2) hxq rfl
    clear hxq
    have hxa := Ha_30.out
    obtain ⟨ka0, fa0⟩ := heap_cell (j := 0) hxa rfl
    obtain ⟨ka1, fa1⟩ := heap_cell (j := 1) hxa rfl
    clear hxa
    cases hb
    · go_wp2_with fail
      clear kq0 fq0 kq1 fq1 kq2 fq2 ka0 fa0 ka1 fa1
      refine (HQA.out _).mono ?_
      rintro e w_31 ⟨rfl, hb_31⟩
      have Ha_32 := Aside0.mk ((hb_31.block _ la_30).trans Ha_30.out)
      have la_32 := Nat.lt_of_lt_of_le la_30 hb_31.size
      have Hb_32 := Aside0.mk ((hb_31.block _ lb_30).trans Hb_30.out)
      have lb_32 := Nat.lt_of_lt_of_le lb_30 hb_31.size
      have Hp_32 := Aside0.mk ((hb_31.block _ lp_30).trans Hp_30.out)
      have lp_32 := Nat.lt_of_lt_of_le lp_30 hb_31.size
      have Hq_32 := Aside0.mk ((hb_31.block _ lq_30).trans Hq_30.out)
      have lq_32 := Nat.lt_of_lt_of_le lq_30 hb_31.size
      have Hr_32 := Aside0.mk ((hb_31.block _ lr_30).trans Hr_30.out)
      have lr_32 := Nat.lt_of_lt_of_le lr_30 hb_31.size
      have BB_32 := Aside0.mk (below_then BB_30.out BB_30.out.size hb_31)
      clear Ha_30 la_30 Hb_30 lb_30 Hp_30 lp_30 Hq_30 lq_30 Hr_30 lr_30 BB_30 hb_31
      have hxq := Hq_32.out
      obtain ⟨kq0, fq0⟩ := heap_cell (j := 0) hxq rfl
      obtain ⟨kq1, fq1⟩ := heap_cell (j := 1) hxq rfl
      obtain ⟨kq2, fq2⟩ := heap_cell (j := 2) hxq rfl
      clear hxq
      have hxp := Hp_32.out
      obtain ⟨kp0, fp0⟩ := heap_cell (j := 0) hxp rfl
      obtain ⟨kp1, fp1⟩ := heap_cell (j := 1) hxp rfl
      obtain ⟨kp2, fp2⟩ := heap_cell (j := 2) hxp rfl
      clear hxp
      cases hq
      · go_wp2_with fail
        clear kq0 fq0 kq1 fq1 kq2 fq2 kp0 fp0 kp1 fp1 kp2 fp2
        refine (TX.out _ ⟨hP.out.stays BB_32.out⟩ ⟨hT.out.stays BB_32.out⟩).mono ?_
        rintro e w_33 ⟨rfl, hb_33⟩
        have Ha_34 := Aside0.mk ((hb_33.block _ la_32).trans Ha_32.out)
        have la_34 := Nat.lt_of_lt_of_le la_32 hb_33.size
        have Hb_34 := Aside0.mk ((hb_33.block _ lb_32).trans Hb_32.out)
        have lb_34 := Nat.lt_of_lt_of_le lb_32 hb_33.size
        have Hp_34 := Aside0.mk ((hb_33.block _ lp_32).trans Hp_32.out)
        have lp_34 := Nat.lt_of_lt_of_le lp_32 hb_33.size
        have Hq_34 := Aside0.mk ((hb_33.block _ lq_32).trans Hq_32.out)
        have lq_34 := Nat.lt_of_lt_of_le lq_32 hb_33.size
        have Hr_34 := Aside0.mk ((hb_33.block _ lr_32).trans Hr_32.out)
        have lr_34 := Nat.lt_of_lt_of_le lr_32 hb_33.size
        have BB_34 := Aside0.mk (below_then BB_32.out BB_32.out.size hb_33)
        clear Ha_32 la_32 Hb_32 lb_32 Hp_32 lp_32 Hq_32 lq_32 Hr_32 lr_32 BB_32 hb_33
        go_wp2_with fail
        refine (PfParse_calls tx _ (by omega) ⟨hE.out.stays BB_34.out⟩ ⟨hM.out.stays BB_34.out⟩).mono ?_
        rw [BK.out]
        simp only [pfV, Option.isSome]
        rintro e w_35 ⟨rfl, hb_35⟩
        have Ha_36 := Aside0.mk ((hb_35.block _ la_34).trans Ha_34.out)
        have la_36 := Nat.lt_of_lt_of_le la_34 hb_35.size
        have Hb_36 := Aside0.mk ((hb_35.block _ lb_34).trans Hb_34.out)
        have lb_36 := Nat.lt_of_lt_of_le lb_34 hb_35.size
        have Hp_36 := Aside0.mk ((hb_35.block _ lp_34).trans Hp_34.out)
        have lp_36 := Nat.lt_of_lt_of_le lp_34 hb_35.size
        have Hq_36 := Aside0.mk ((hb_35.block _ lq_34).trans Hq_34.out)
        have lq_36 := Nat.lt_of_lt_of_le lq_34 hb_35.size
        have Hr_36 := Aside0.mk ((hb_35.block _ lr_34).trans Hr_34.out)
        have lr_36 := Nat.lt_of_lt_of_le lr_34 hb_35.size
        have BB_36 := Aside0.mk (below_then BB_34.out BB_34.out.size hb_35)
        clear Ha_34 la_34 Hb_34 lb_34 Hp_34 lp_34 Hq_34 lq_34 Hr_34 lr_34 BB_34 hb_35
        obtain ⟨W_37, hW_37⟩ : ∃ W_37, W_37 = w_35.alloc (.cells #[.int .u64 p0, .int .u64 p1, .int .i64 i] 25) := ⟨_, rfl⟩
        obtain ⟨hg_37, hl_37, hb_37⟩ := boxN hW_37
        obtain ⟨gz, hgg_37⟩ : ∃ gz, gz = w_35.heap.size := ⟨_, rfl⟩
        rw [← hgg_37] at hg_37 hl_37
        have HAz := Aside0.mk hg_37
        have LAz := hl_37
        have HGG_37 := Lib.hid hgg_37
        have HWW_37 := Lib.hid hW_37
        clear hW_37 hgg_37 hg_37 hl_37
        have Ha_38 := Aside0.mk ((hb_37.block _ la_36).trans Ha_36.out)
        have la_38 := Nat.lt_of_lt_of_le la_36 hb_37.size
        have Hb_38 := Aside0.mk ((hb_37.block _ lb_36).trans Hb_36.out)
        have lb_38 := Nat.lt_of_lt_of_le lb_36 hb_37.size
        have Hp_38 := Aside0.mk ((hb_37.block _ lp_36).trans Hp_36.out)
        have lp_38 := Nat.lt_of_lt_of_le lp_36 hb_37.size
        have Hq_38 := Aside0.mk ((hb_37.block _ lq_36).trans Hq_36.out)
        have lq_38 := Nat.lt_of_lt_of_le lq_36 hb_37.size
        have Hr_38 := Aside0.mk ((hb_37.block _ lr_36).trans Hr_36.out)
        have lr_38 := Nat.lt_of_lt_of_le lr_36 hb_37.size
        have BB_38 := Aside0.mk (below_then BB_36.out BB_36.out.size hb_37)
        clear Ha_36 la_36 Hb_36 lb_36 Hp_36 lp_36 Hq_36 lq_36 Hr_36 lr_36 BB_36 hb_37
        have hxp := Hp_38.out
        obtain ⟨kp0, fp0⟩ := heap_cell (j := 0) hxp rfl
        obtain ⟨kp1, fp1⟩ := heap_cell (j := 1) hxp rfl
        obtain ⟨kp2, fp2⟩ := heap_cell (j := 2) hxp rfl
        clear hxp
        have hxz := HAz.out
        obtain ⟨kz0, fz0⟩ := heap_cell (j := 0) hxz rfl
        obtain ⟨kz1, fz1⟩ := heap_cell (j := 1) hxz rfl
        obtain ⟨kz2, fz2⟩ := heap_cell (j := 2) hxz rfl
        clear hxz
        rw [HWW_37.out] at kp0 fp0 kp1 fp1 kp2 fp2 kz0 fz0 kz1 fz1 kz2 fz2
        go_wp2_with fail
        try rw [← HWW_37.out]
        try rw [← HGG_37.out]
        clear kp0 fp0 kp1 fp1 kp2 fp2 kz0 fz0 kz1 fz1 kz2 fz2
        go_ret
        exact ⟨ret_bool (by simp), BB_38.out⟩
      · have hqp := (NE.out rfl).resolve_left Bool.false_ne_true
        rw [hqp] at CQP
        clear hqp
        go_wp2_with fail
        clear kq0 fq0 kq1 fq1 kq2 fq2 kp0 fp0 kp1 fp1 kp2 fp2
        refine (CPQ.out _).mono ?_
        rintro e w_33 ⟨rfl, hb_33⟩
        have Ha_34 := Aside0.mk ((hb_33.block _ la_32).trans Ha_32.out)
        have la_34 := Nat.lt_of_lt_of_le la_32 hb_33.size
        have Hb_34 := Aside0.mk ((hb_33.block _ lb_32).trans Hb_32.out)
        have lb_34 := Nat.lt_of_lt_of_le lb_32 hb_33.size
        have Hp_34 := Aside0.mk ((hb_33.block _ lp_32).trans Hp_32.out)
        have lp_34 := Nat.lt_of_lt_of_le lp_32 hb_33.size
        have Hq_34 := Aside0.mk ((hb_33.block _ lq_32).trans Hq_32.out)
        have lq_34 := Nat.lt_of_lt_of_le lq_32 hb_33.size
        have Hr_34 := Aside0.mk ((hb_33.block _ lr_32).trans Hr_32.out)
        have lr_34 := Nat.lt_of_lt_of_le lr_32 hb_33.size
        have BB_34 := Aside0.mk (below_then BB_32.out BB_32.out.size hb_33)
        clear Ha_32 la_32 Hb_32 lb_32 Hp_32 lp_32 Hq_32 lq_32 Hr_32 lr_32 BB_32 hb_33
        have hxq := Hq_34.out
        obtain ⟨kq0, fq0⟩ := heap_cell (j := 0) hxq rfl
        obtain ⟨kq1, fq1⟩ := heap_cell (j := 1) hxq rfl
        obtain ⟨kq2, fq2⟩ := heap_cell (j := 2) hxq rfl
        clear hxq
        have hxp := Hp_34.out
        obtain ⟨kp0, fp0⟩ := heap_cell (j := 0) hxp rfl
        obtain ⟨kp1, fp1⟩ := heap_cell (j := 1) hxp rfl
        obtain ⟨kp2, fp2⟩ := heap_cell (j := 2) hxp rfl
        clear hxp
        go_wp2_with fail
        clear kq0 fq0 kq1 fq1 kq2 fq2 kp0 fp0 kp1 fp1 kp2 fp2
        refine (CQP.out _).mono ?_
        rintro e w_35 ⟨rfl, hb_35⟩
        have Ha_36 := Aside0.mk ((hb_35.block _ la_34).trans Ha_34.out)
        have la_36 := Nat.lt_of_lt_of_le la_34 hb_35.size
        have Hb_36 := Aside0.mk ((hb_35.block _ lb_34).trans Hb_34.out)
        have lb_36 := Nat.lt_of_lt_of_le lb_34 hb_35.size
        have Hp_36 := Aside0.mk ((hb_35.block _ lp_34).trans Hp_34.out)
        have lp_36 := Nat.lt_of_lt_of_le lp_34 hb_35.size
        have Hq_36 := Aside0.mk ((hb_35.block _ lq_34).trans Hq_34.out)
        have lq_36 := Nat.lt_of_lt_of_le lq_34 hb_35.size
        have Hr_36 := Aside0.mk ((hb_35.block _ lr_34).trans Hr_34.out)
        have lr_36 := Nat.lt_of_lt_of_le lr_34 hb_35.size
        have BB_36 := Aside0.mk (below_then BB_34.out BB_34.out.size hb_35)
        clear Ha_34 la_34 Hb_34 lb_34 Hp_34 lp_34 Hq_34 lq_34 Hr_34 lr_34 BB_34 hb_35
        have hxp := Hp_36.out
        obtain ⟨kp0, fp0⟩ := heap_cell (j := 0) hxp rfl
        obtain ⟨kp1, fp1⟩ := heap_cell (j := 1) hxp rfl
        obtain ⟨kp2, fp2⟩ := heap_cell (j := 2) hxp rfl
        clear hxp
        go_wp2_with fail
        clear kp0 fp0 kp1 fp1 kp2 fp2
        refine (TX.out _ ⟨hP.out.stays BB_36.out⟩ ⟨hT.out.stays BB_36.out⟩).mono ?_
        rintro e w_37 ⟨rfl, hb_37⟩
        have Ha_38 := Aside0.mk ((hb_37.block _ la_36).trans Ha_36.out)
        have la_38 := Nat.lt_of_lt_of_le la_36 hb_37.size
        have Hb_38 := Aside0.mk ((hb_37.block _ lb_36).trans Hb_36.out)
        have lb_38 := Nat.lt_of_lt_of_le lb_36 hb_37.size
        have Hp_38 := Aside0.mk ((hb_37.block _ lp_36).trans Hp_36.out)
        have lp_38 := Nat.lt_of_lt_of_le lp_36 hb_37.size
        have Hq_38 := Aside0.mk ((hb_37.block _ lq_36).trans Hq_36.out)
        have lq_38 := Nat.lt_of_lt_of_le lq_36 hb_37.size
        have Hr_38 := Aside0.mk ((hb_37.block _ lr_36).trans Hr_36.out)
        have lr_38 := Nat.lt_of_lt_of_le lr_36 hb_37.size
        have BB_38 := Aside0.mk (below_then BB_36.out BB_36.out.size hb_37)
        clear Ha_36 la_36 Hb_36 lb_36 Hp_36 lp_36 Hq_36 lq_36 Hr_36 lr_36 BB_36 hb_37
        go_wp2_with fail
        refine (PfParse_calls tx _ (by omega) ⟨hE.out.stays BB_38.out⟩ ⟨hM.out.stays BB_38.out⟩).mono ?_
        rw [BK.out]
        simp only [pfV, Option.isSome]
        rintro e w_39 ⟨rfl, hb_39⟩
        have Ha_40 := Aside0.mk ((hb_39.block _ la_38).trans Ha_38.out)
        have la_40 := Nat.lt_of_lt_of_le la_38 hb_39.size
        have Hb_40 := Aside0.mk ((hb_39.block _ lb_38).trans Hb_38.out)
        have lb_40 := Nat.lt_of_lt_of_le lb_38 hb_39.size
        have Hp_40 := Aside0.mk ((hb_39.block _ lp_38).trans Hp_38.out)
        have lp_40 := Nat.lt_of_lt_of_le lp_38 hb_39.size
        have Hq_40 := Aside0.mk ((hb_39.block _ lq_38).trans Hq_38.out)
        have lq_40 := Nat.lt_of_lt_of_le lq_38 hb_39.size
        have Hr_40 := Aside0.mk ((hb_39.block _ lr_38).trans Hr_38.out)
        have lr_40 := Nat.lt_of_lt_of_le lr_38 hb_39.size
        have BB_40 := Aside0.mk (below_then BB_38.out BB_38.out.size hb_39)
        clear Ha_38 la_38 Hb_38 lb_38 Hp_38 lp_38 Hq_38 lq_38 Hr_38 lr_38 BB_38 hb_39
        obtain ⟨W_41, hW_41⟩ : ∃ W_41, W_41 = w_39.alloc (.cells #[.int .u64 p0, .int .u64 p1, .int .i64 i] 25) := ⟨_, rfl⟩
        obtain ⟨hg_41, hl_41, hb_41⟩ := boxN hW_41
        obtain ⟨gz, hgg_41⟩ : ∃ gz, gz = w_39.heap.size := ⟨_, rfl⟩
        rw [← hgg_41] at hg_41 hl_41
        have HAz := Aside0.mk hg_41
        have LAz := hl_41
        have HGG_41 := Lib.hid hgg_41
        have HWW_41 := Lib.hid hW_41
        clear hW_41 hgg_41 hg_41 hl_41
        have Ha_42 := Aside0.mk ((hb_41.block _ la_40).trans Ha_40.out)
        have la_42 := Nat.lt_of_lt_of_le la_40 hb_41.size
        have Hb_42 := Aside0.mk ((hb_41.block _ lb_40).trans Hb_40.out)
        have lb_42 := Nat.lt_of_lt_of_le lb_40 hb_41.size
        have Hp_42 := Aside0.mk ((hb_41.block _ lp_40).trans Hp_40.out)
        have lp_42 := Nat.lt_of_lt_of_le lp_40 hb_41.size
        have Hq_42 := Aside0.mk ((hb_41.block _ lq_40).trans Hq_40.out)
        have lq_42 := Nat.lt_of_lt_of_le lq_40 hb_41.size
        have Hr_42 := Aside0.mk ((hb_41.block _ lr_40).trans Hr_40.out)
        have lr_42 := Nat.lt_of_lt_of_le lr_40 hb_41.size
        have BB_42 := Aside0.mk (below_then BB_40.out BB_40.out.size hb_41)
        clear Ha_40 la_40 Hb_40 lb_40 Hp_40 lp_40 Hq_40 lq_40 Hr_40 lr_40 BB_40 hb_41
        have hxp := Hp_42.out
        obtain ⟨kp0, fp0⟩ := heap_cell (j := 0) hxp rfl
        obtain ⟨kp1, fp1⟩ := heap_cell (j := 1) hxp rfl
        obtain ⟨kp2, fp2⟩ := heap_cell (j := 2) hxp rfl
        clear hxp
        have hxz := HAz.out
        obtain ⟨kz0, fz0⟩ := heap_cell (j := 0) hxz rfl
        obtain ⟨kz1, fz1⟩ := heap_cell (j := 1) hxz rfl
        obtain ⟨kz2, fz2⟩ := heap_cell (j := 2) hxz rfl
        clear hxz
        rw [HWW_41.out] at kp0 fp0 kp1 fp1 kp2 fp2 kz0 fz0 kz1 fz1 kz2 fz2
        go_wp2_with fail
        try rw [← HWW_41.out]
        try rw [← HGG_41.out]
        clear kp0 fp0 kp1 fp1 kp2 fp2 kz0 fz0 kz1 fz1 kz2 fz2
        go_ret
        exact ⟨ret_bool (by simp), BB_42.out⟩
    · go_wp2_with fail
      clear kq0 fq0 kq1 fq1 kq2 fq2 ka0 fa0 ka1 fa1
      refine (HQA.out _).mono ?_
      rintro e w_31 ⟨rfl, hb_31⟩
      have Ha_32 := Aside0.mk ((hb_31.block _ la_30).trans Ha_30.out)
      have la_32 := Nat.lt_of_lt_of_le la_30 hb_31.size
      have Hb_32 := Aside0.mk ((hb_31.block _ lb_30).trans Hb_30.out)
      have lb_32 := Nat.lt_of_lt_of_le lb_30 hb_31.size
      have Hp_32 := Aside0.mk ((hb_31.block _ lp_30).trans Hp_30.out)
      have lp_32 := Nat.lt_of_lt_of_le lp_30 hb_31.size
      have Hq_32 := Aside0.mk ((hb_31.block _ lq_30).trans Hq_30.out)
      have lq_32 := Nat.lt_of_lt_of_le lq_30 hb_31.size
      have Hr_32 := Aside0.mk ((hb_31.block _ lr_30).trans Hr_30.out)
      have lr_32 := Nat.lt_of_lt_of_le lr_30 hb_31.size
      have BB_32 := Aside0.mk (below_then BB_30.out BB_30.out.size hb_31)
      clear Ha_30 la_30 Hb_30 lb_30 Hp_30 lp_30 Hq_30 lq_30 Hr_30 lr_30 BB_30 hb_31
      have hxq := Hq_32.out
      obtain ⟨kq0, fq0⟩ := heap_cell (j := 0) hxq rfl
      obtain ⟨kq1, fq1⟩ := heap_cell (j := 1) hxq rfl
      obtain ⟨kq2, fq2⟩ := heap_cell (j := 2) hxq rfl
      clear hxq
      have hxp := Hp_32.out
      obtain ⟨kp0, fp0⟩ := heap_cell (j := 0) hxp rfl
      obtain ⟨kp1, fp1⟩ := heap_cell (j := 1) hxp rfl
      obtain ⟨kp2, fp2⟩ := heap_cell (j := 2) hxp rfl
      clear hxp
      cases hq
      · go_wp2_with fail
        clear kq0 fq0 kq1 fq1 kq2 fq2 kp0 fp0 kp1 fp1 kp2 fp2
        refine (TX.out _ ⟨hP.out.stays BB_32.out⟩ ⟨hT.out.stays BB_32.out⟩).mono ?_
        rintro e w_33 ⟨rfl, hb_33⟩
        have Ha_34 := Aside0.mk ((hb_33.block _ la_32).trans Ha_32.out)
        have la_34 := Nat.lt_of_lt_of_le la_32 hb_33.size
        have Hb_34 := Aside0.mk ((hb_33.block _ lb_32).trans Hb_32.out)
        have lb_34 := Nat.lt_of_lt_of_le lb_32 hb_33.size
        have Hp_34 := Aside0.mk ((hb_33.block _ lp_32).trans Hp_32.out)
        have lp_34 := Nat.lt_of_lt_of_le lp_32 hb_33.size
        have Hq_34 := Aside0.mk ((hb_33.block _ lq_32).trans Hq_32.out)
        have lq_34 := Nat.lt_of_lt_of_le lq_32 hb_33.size
        have Hr_34 := Aside0.mk ((hb_33.block _ lr_32).trans Hr_32.out)
        have lr_34 := Nat.lt_of_lt_of_le lr_32 hb_33.size
        have BB_34 := Aside0.mk (below_then BB_32.out BB_32.out.size hb_33)
        clear Ha_32 la_32 Hb_32 lb_32 Hp_32 lp_32 Hq_32 lq_32 Hr_32 lr_32 BB_32 hb_33
        go_wp2_with fail
        refine (PfParse_calls tx _ (by omega) ⟨hE.out.stays BB_34.out⟩ ⟨hM.out.stays BB_34.out⟩).mono ?_
        rw [BK.out]
        simp only [pfV, Option.isSome]
        rintro e w_35 ⟨rfl, hb_35⟩
        have Ha_36 := Aside0.mk ((hb_35.block _ la_34).trans Ha_34.out)
        have la_36 := Nat.lt_of_lt_of_le la_34 hb_35.size
        have Hb_36 := Aside0.mk ((hb_35.block _ lb_34).trans Hb_34.out)
        have lb_36 := Nat.lt_of_lt_of_le lb_34 hb_35.size
        have Hp_36 := Aside0.mk ((hb_35.block _ lp_34).trans Hp_34.out)
        have lp_36 := Nat.lt_of_lt_of_le lp_34 hb_35.size
        have Hq_36 := Aside0.mk ((hb_35.block _ lq_34).trans Hq_34.out)
        have lq_36 := Nat.lt_of_lt_of_le lq_34 hb_35.size
        have Hr_36 := Aside0.mk ((hb_35.block _ lr_34).trans Hr_34.out)
        have lr_36 := Nat.lt_of_lt_of_le lr_34 hb_35.size
        have BB_36 := Aside0.mk (below_then BB_34.out BB_34.out.size hb_35)
        clear Ha_34 la_34 Hb_34 lb_34 Hp_34 lp_34 Hq_34 lq_34 Hr_34 lr_34 BB_34 hb_35
        obtain ⟨W_37, hW_37⟩ : ∃ W_37, W_37 = w_35.alloc (.cells #[.int .u64 p0, .int .u64 p1, .int .i64 i] 25) := ⟨_, rfl⟩
        obtain ⟨hg_37, hl_37, hb_37⟩ := boxN hW_37
        obtain ⟨gz, hgg_37⟩ : ∃ gz, gz = w_35.heap.size := ⟨_, rfl⟩
        rw [← hgg_37] at hg_37 hl_37
        have HAz := Aside0.mk hg_37
        have LAz := hl_37
        have HGG_37 := Lib.hid hgg_37
        have HWW_37 := Lib.hid hW_37
        clear hW_37 hgg_37 hg_37 hl_37
        have Ha_38 := Aside0.mk ((hb_37.block _ la_36).trans Ha_36.out)
        have la_38 := Nat.lt_of_lt_of_le la_36 hb_37.size
        have Hb_38 := Aside0.mk ((hb_37.block _ lb_36).trans Hb_36.out)
        have lb_38 := Nat.lt_of_lt_of_le lb_36 hb_37.size
        have Hp_38 := Aside0.mk ((hb_37.block _ lp_36).trans Hp_36.out)
        have lp_38 := Nat.lt_of_lt_of_le lp_36 hb_37.size
        have Hq_38 := Aside0.mk ((hb_37.block _ lq_36).trans Hq_36.out)
        have lq_38 := Nat.lt_of_lt_of_le lq_36 hb_37.size
        have Hr_38 := Aside0.mk ((hb_37.block _ lr_36).trans Hr_36.out)
        have lr_38 := Nat.lt_of_lt_of_le lr_36 hb_37.size
        have BB_38 := Aside0.mk (below_then BB_36.out BB_36.out.size hb_37)
        clear Ha_36 la_36 Hb_36 lb_36 Hp_36 lp_36 Hq_36 lq_36 Hr_36 lr_36 BB_36 hb_37
        have hxp := Hp_38.out
        obtain ⟨kp0, fp0⟩ := heap_cell (j := 0) hxp rfl
        obtain ⟨kp1, fp1⟩ := heap_cell (j := 1) hxp rfl
        obtain ⟨kp2, fp2⟩ := heap_cell (j := 2) hxp rfl
        clear hxp
        have hxz := HAz.out
        obtain ⟨kz0, fz0⟩ := heap_cell (j := 0) hxz rfl
        obtain ⟨kz1, fz1⟩ := heap_cell (j := 1) hxz rfl
        obtain ⟨kz2, fz2⟩ := heap_cell (j := 2) hxz rfl
        clear hxz
        rw [HWW_37.out] at kp0 fp0 kp1 fp1 kp2 fp2 kz0 fz0 kz1 fz1 kz2 fz2
        go_wp2_with fail
        try rw [← HWW_37.out]
        try rw [← HGG_37.out]
        clear kp0 fp0 kp1 fp1 kp2 fp2 kz0 fz0 kz1 fz1 kz2 fz2
        go_ret
        exact ⟨ret_bool (by simp), BB_38.out⟩
      · go_wp2_with fail
        clear kq0 fq0 kq1 fq1 kq2 fq2 kp0 fp0 kp1 fp1 kp2 fp2
        refine (CPQ.out _).mono ?_
        rintro e w_33 ⟨rfl, hb_33⟩
        have Ha_34 := Aside0.mk ((hb_33.block _ la_32).trans Ha_32.out)
        have la_34 := Nat.lt_of_lt_of_le la_32 hb_33.size
        have Hb_34 := Aside0.mk ((hb_33.block _ lb_32).trans Hb_32.out)
        have lb_34 := Nat.lt_of_lt_of_le lb_32 hb_33.size
        have Hp_34 := Aside0.mk ((hb_33.block _ lp_32).trans Hp_32.out)
        have lp_34 := Nat.lt_of_lt_of_le lp_32 hb_33.size
        have Hq_34 := Aside0.mk ((hb_33.block _ lq_32).trans Hq_32.out)
        have lq_34 := Nat.lt_of_lt_of_le lq_32 hb_33.size
        have Hr_34 := Aside0.mk ((hb_33.block _ lr_32).trans Hr_32.out)
        have lr_34 := Nat.lt_of_lt_of_le lr_32 hb_33.size
        have BB_34 := Aside0.mk (below_then BB_32.out BB_32.out.size hb_33)
        clear Ha_32 la_32 Hb_32 lb_32 Hp_32 lp_32 Hq_32 lq_32 Hr_32 lr_32 BB_32 hb_33
        have hxp := Hp_34.out
        obtain ⟨kp0, fp0⟩ := heap_cell (j := 0) hxp rfl
        obtain ⟨kp1, fp1⟩ := heap_cell (j := 1) hxp rfl
        obtain ⟨kp2, fp2⟩ := heap_cell (j := 2) hxp rfl
        clear hxp
        go_wp2_with fail
        clear kp0 fp0 kp1 fp1 kp2 fp2
        refine (TX.out _ ⟨hP.out.stays BB_34.out⟩ ⟨hT.out.stays BB_34.out⟩).mono ?_
        rintro e w_35 ⟨rfl, hb_35⟩
        have Ha_36 := Aside0.mk ((hb_35.block _ la_34).trans Ha_34.out)
        have la_36 := Nat.lt_of_lt_of_le la_34 hb_35.size
        have Hb_36 := Aside0.mk ((hb_35.block _ lb_34).trans Hb_34.out)
        have lb_36 := Nat.lt_of_lt_of_le lb_34 hb_35.size
        have Hp_36 := Aside0.mk ((hb_35.block _ lp_34).trans Hp_34.out)
        have lp_36 := Nat.lt_of_lt_of_le lp_34 hb_35.size
        have Hq_36 := Aside0.mk ((hb_35.block _ lq_34).trans Hq_34.out)
        have lq_36 := Nat.lt_of_lt_of_le lq_34 hb_35.size
        have Hr_36 := Aside0.mk ((hb_35.block _ lr_34).trans Hr_34.out)
        have lr_36 := Nat.lt_of_lt_of_le lr_34 hb_35.size
        have BB_36 := Aside0.mk (below_then BB_34.out BB_34.out.size hb_35)
        clear Ha_34 la_34 Hb_34 lb_34 Hp_34 lp_34 Hq_34 lq_34 Hr_34 lr_34 BB_34 hb_35
        go_wp2_with fail
        refine (PfParse_calls tx _ (by omega) ⟨hE.out.stays BB_36.out⟩ ⟨hM.out.stays BB_36.out⟩).mono ?_
        rw [BK.out]
        simp only [pfV, Option.isSome]
        rintro e w_37 ⟨rfl, hb_37⟩
        have Ha_38 := Aside0.mk ((hb_37.block _ la_36).trans Ha_36.out)
        have la_38 := Nat.lt_of_lt_of_le la_36 hb_37.size
        have Hb_38 := Aside0.mk ((hb_37.block _ lb_36).trans Hb_36.out)
        have lb_38 := Nat.lt_of_lt_of_le lb_36 hb_37.size
        have Hp_38 := Aside0.mk ((hb_37.block _ lp_36).trans Hp_36.out)
        have lp_38 := Nat.lt_of_lt_of_le lp_36 hb_37.size
        have Hq_38 := Aside0.mk ((hb_37.block _ lq_36).trans Hq_36.out)
        have lq_38 := Nat.lt_of_lt_of_le lq_36 hb_37.size
        have Hr_38 := Aside0.mk ((hb_37.block _ lr_36).trans Hr_36.out)
        have lr_38 := Nat.lt_of_lt_of_le lr_36 hb_37.size
        have BB_38 := Aside0.mk (below_then BB_36.out BB_36.out.size hb_37)
        clear Ha_36 la_36 Hb_36 lb_36 Hp_36 lp_36 Hq_36 lq_36 Hr_36 lr_36 BB_36 hb_37
        obtain ⟨W_39, hW_39⟩ : ∃ W_39, W_39 = w_37.alloc (.cells #[.int .u64 p0, .int .u64 p1, .int .i64 i] 25) := ⟨_, rfl⟩
        obtain ⟨hg_39, hl_39, hb_39⟩ := boxN hW_39
        obtain ⟨gz, hgg_39⟩ : ∃ gz, gz = w_37.heap.size := ⟨_, rfl⟩
        rw [← hgg_39] at hg_39 hl_39
        have HAz := Aside0.mk hg_39
        have LAz := hl_39
        have HGG_39 := Lib.hid hgg_39
        have HWW_39 := Lib.hid hW_39
        clear hW_39 hgg_39 hg_39 hl_39
        have Ha_40 := Aside0.mk ((hb_39.block _ la_38).trans Ha_38.out)
        have la_40 := Nat.lt_of_lt_of_le la_38 hb_39.size
        have Hb_40 := Aside0.mk ((hb_39.block _ lb_38).trans Hb_38.out)
        have lb_40 := Nat.lt_of_lt_of_le lb_38 hb_39.size
        have Hp_40 := Aside0.mk ((hb_39.block _ lp_38).trans Hp_38.out)
        have lp_40 := Nat.lt_of_lt_of_le lp_38 hb_39.size
        have Hq_40 := Aside0.mk ((hb_39.block _ lq_38).trans Hq_38.out)
        have lq_40 := Nat.lt_of_lt_of_le lq_38 hb_39.size
        have Hr_40 := Aside0.mk ((hb_39.block _ lr_38).trans Hr_38.out)
        have lr_40 := Nat.lt_of_lt_of_le lr_38 hb_39.size
        have BB_40 := Aside0.mk (below_then BB_38.out BB_38.out.size hb_39)
        clear Ha_38 la_38 Hb_38 lb_38 Hp_38 lp_38 Hq_38 lq_38 Hr_38 lr_38 BB_38 hb_39
        have hxp := Hp_40.out
        obtain ⟨kp0, fp0⟩ := heap_cell (j := 0) hxp rfl
        obtain ⟨kp1, fp1⟩ := heap_cell (j := 1) hxp rfl
        obtain ⟨kp2, fp2⟩ := heap_cell (j := 2) hxp rfl
        clear hxp
        have hxz := HAz.out
        obtain ⟨kz0, fz0⟩ := heap_cell (j := 0) hxz rfl
        obtain ⟨kz1, fz1⟩ := heap_cell (j := 1) hxz rfl
        obtain ⟨kz2, fz2⟩ := heap_cell (j := 2) hxz rfl
        clear hxz
        rw [HWW_39.out] at kp0 fp0 kp1 fp1 kp2 fp2 kz0 fz0 kz1 fz1 kz2 fz2
        go_wp2_with fail
        try rw [← HWW_39.out]
        try rw [← HGG_39.out]
        clear kp0 fp0 kp1 fp1 kp2 fp2 kz0 fz0 kz1 fz1 kz2 fz2
        go_ret
        exact ⟨ret_bool (by simp), BB_40.out⟩
theorem PrefixNests_row (hi lo other low n m : Int) (w : World) (w0 : (Lit.int .u64 hi).wf = true) (w1 : (Lit.int .u64 lo).wf = true) (w2 : (Lit.int .u64 other).wf = true) (w3 : (Lit.int .u64 low).wf = true) (w4 : (Lit.int .u8 n).wf = true) (w5 : (Lit.int .u8 m).wf = true)
    (hP : Aside0 (Pows w)) (hT : Aside0 (Debr w)) (hE : Aside0 (Errs w)) (hM : Aside0 (Mx w)) :
    Calls Tryz.prog 5 #[.int .u64 hi, .int .u64 lo, .int .u64 other, .int .u64 low, .int .u8 n, .int .u8 m] w fun e w' => e = .returned (.bool true) ∧ Below w.heap.size w w' := by
  have a0 := wf_u64 w0
  have a1 := wf_u64 w1
  have a2 := wf_u64 w2
  have a3 := wf_u64 w3
  have a4 := wf_u8 w4
  have a5 := wf_u8 w5
  obtain ⟨n', rfl⟩ : ∃ n' : Nat, n = n' := ⟨n.toNat, by omega⟩
  obtain ⟨m', rfl⟩ : ∃ m' : Nat, m = m' := ⟨m.toNat, by omega⟩
  exact PrefixNests_law hi lo other low n' m' (by omega) (by omega) (by omega) (by omega) (by omega) (by omega) w hP hT hE hM
end Go.Proofs.YtplehdcnnaamkaaGreatDoor

