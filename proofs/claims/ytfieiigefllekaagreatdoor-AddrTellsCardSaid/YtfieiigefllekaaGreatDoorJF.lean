/- Bytes put together by shifts: plain Lean. -/
import Derived.Laws.Bits64b
import Derived.Test.YtfieiigefllekaaGreatDoorProg
import Derived.Test.YtfieiigefllekaaGreatDoorJB
import Derived.Test.YtfieiigefllekaaGreatDoorJD
import Derived.Test.YtfieiigefllekaaGreatDoorJE
import Derived.Test.YtfieiigefllekaaGreatDoorJC
namespace Go.Proofs.YtfieiigefllekaaGreatDoor

theorem bits_or_u32_nat (a b : Nat) (ha : a < 4294967296) (hb : b < 4294967296) :
    bits .or .u32 (a : Int) (b : Int) = ((a ||| b : Nat) : Int) := by
  have hx : a ||| b < 2 ^ 32 := Nat.or_lt_two_pow (by omega) (by omega)
  have h1 : (BitVec.ofInt 32 (a : Int)).toNat = a := by
    rw [BitVec.ofInt_natCast, BitVec.toNat_ofNat]; exact Nat.mod_eq_of_lt (by omega)
  have h2 : (BitVec.ofInt 32 (b : Int)).toNat = b := by
    rw [BitVec.ofInt_natCast, BitVec.toNat_ofNat]; exact Nat.mod_eq_of_lt (by omega)
  show IntKind.u32.wrap ((BitVec.ofInt 32 (a : Int) ||| BitVec.ofInt 32 (b : Int)).toNat : Int) = _
  rw [BitVec.toNat_or, h1, h2, show ∀ n, IntKind.u32.wrap n = n % 4294967296 from fun n => by simp [IntKind.wrap, IntKind.signed, IntKind.bits]]
  omega
theorem or_mul (k x y : Nat) (h : y < 2 ^ k) : x * 2 ^ k ||| y = x * 2 ^ k + y := by
  rw [Nat.mul_comm, Nat.two_pow_add_eq_or_of_lt h]
/-- A number and another below it, put together. -/
theorem or_u32 (k : Nat) (x y : Int) (hx : 0 ≤ x) (hy : 0 ≤ y) (hk : y < 2 ^ k) (hb : x * 2 ^ k < 4294967296) (hyb : y < 4294967296) : bits .or .u32 (x * 2 ^ k) y = x * 2 ^ k + y := by
  obtain ⟨a, rfl⟩ : ∃ a : Nat, x = a := ⟨x.toNat, by omega⟩
  obtain ⟨b, rfl⟩ : ∃ b : Nat, y = b := ⟨y.toNat, by omega⟩
  have hk' : b < 2 ^ k := by
    rw [show (2 : Int) ^ k = ((2 ^ k : Nat) : Int) by simp] at hk
    omega
  have e : (a : Int) * 2 ^ k = ((a * 2 ^ k : Nat) : Int) := by simp only [Int.natCast_mul, Int.natCast_pow]; rfl
  rw [e] at hb
  have hb' : a * 2 ^ k < 4294967296 := by omega
  rw [e, bits_or_u32_nat _ _ hb' (by omega), or_mul k a b hk']
  rw [Int.natCast_add]
theorem or_u64 (k : Nat) (x y : Int) (hx : 0 ≤ x) (hy : 0 ≤ y) (hk : y < 2 ^ k) (hb : x * 2 ^ k < 18446744073709551616) (hyb : y < 18446744073709551616) : bits .or .u64 (x * 2 ^ k) y = x * 2 ^ k + y := by
  obtain ⟨a, rfl⟩ : ∃ a : Nat, x = a := ⟨x.toNat, by omega⟩
  obtain ⟨b, rfl⟩ : ∃ b : Nat, y = b := ⟨y.toNat, by omega⟩
  have hk' : b < 2 ^ k := by
    rw [show (2 : Int) ^ k = ((2 ^ k : Nat) : Int) by simp] at hk
    omega
  have e : (a : Int) * 2 ^ k = ((a * 2 ^ k : Nat) : Int) := by simp only [Int.natCast_mul, Int.natCast_pow]; rfl
  rw [e] at hb
  have hb' : a * 2 ^ k < 18446744073709551616 := by omega
  rw [e, bits_or_u64_nat _ _ hb' (by omega), or_mul k a b hk']
  rw [Int.natCast_add]
end Go.Proofs.YtfieiigefllekaaGreatDoor

/- Addresses of four bytes, as they are read: plain Lean. -/
namespace Go.Proofs.YtfieiigefllekaaGreatDoor
open Go.RowKit Go.Proofs.YtfieiigefllekaaGreatDoorW.PrintWords

/-- The parts of an address: an empty one behind the last point is left out. -/
def partsF (P : List (List UInt8)) : List (List UInt8) := if 1 < P.length ∧ P.getD (P.length - 1) [] = [] then P.take (P.length - 1) else P
/-- The parts from place j on, added up. -/
def sumF (n : Nat) : Nat → Int → List (List UInt8) → Option Int
  | _, s, [] => some (s % 4294967296)
  | j, s, p :: ps => match parseL p with
    | none => none
    | some x => if j + 1 = n then (if (256 : Int) ^ (5 - n) ≤ x then none else sumF n (j + 1) (s + x) ps) else if 256 ≤ x then none else sumF n (j + 1) (s + x * (256 : Int) ^ (3 - j)) ps
def fourP (Q : List (List UInt8)) : Option Int := if 4 < Q.length then none else sumF Q.length 0 0 Q
def fourL (l : List UInt8) : Option Int := fourP (partsF (splitL (isAt ⟨#[46]⟩) l))
def fourN (l : List UInt8) : Int := (fourL l).getD 0
def fourOk (l : List UInt8) : Bool := (fourL l).isSome
theorem partsF_ne (P : List (List UInt8)) (h : P ≠ []) : partsF P ≠ [] := by
  unfold partsF
  split
  · rename_i hc
    intro he
    have := congrArg List.length he
    rw [List.length_take] at this
    simp at this
    omega
  · exact h
theorem partsF_get (P : List (List UInt8)) (j : Nat) (h : j < (partsF P).length) : (partsF P).getD j [] = P.getD j [] ∧ j < P.length := by
  unfold partsF at h ⊢
  split
  · rename_i hc
    rw [if_pos hc, List.length_take] at h
    refine ⟨?_, by omega⟩
    rw [List.getD_eq_getElem?_getD, List.getD_eq_getElem?_getD, List.getElem?_take, if_pos (by omega)]
  · rename_i hc
    rw [if_neg hc] at h
    exact ⟨rfl, h⟩
theorem drop_getD (Q : List (List UInt8)) (j : Nat) (h : j < Q.length) : Q.drop j = Q.getD j [] :: Q.drop (j + 1) := by
  rw [List.drop_eq_getElem_cons h, List.getD_eq_getElem?_getD, List.getElem?_eq_getElem h]
  rfl
theorem sumF_step (n j : Nat) (s : Int) (Q : List (List UInt8)) (h : j < Q.length) : sumF n j s (Q.drop j) = match parseL (Q.getD j []) with
    | none => none
    | some x => if j + 1 = n then (if (256 : Int) ^ (5 - n) ≤ x then none else sumF n (j + 1) (s + x) (Q.drop (j + 1))) else if 256 ≤ x then none else sumF n (j + 1) (s + x * (256 : Int) ^ (3 - j)) (Q.drop (j + 1)) := by
  rw [drop_getD Q j h, sumF]
theorem parse_val (p : List UInt8) : (parseL p = none ∧ parseOk p = false ∧ parseN p = 0) ∨ ∃ x, parseL p = some x ∧ parseOk p = true ∧ parseN p = x ∧ 0 ≤ x ∧ x ≤ 1099511627776 := by
  rcases h : parseL p with _ | x
  · left
    exact ⟨rfl, by rw [parseOk, h]; rfl, by rw [parseN, h]; rfl⟩
  · right
    have hb : 0 ≤ x ∧ x ≤ 1099511627776 := by
      unfold parseL at h
      split at h
      · cases h
      · exact accN_bd _ (by have := baseL_bd p; omega) _ 0 x (by omega) (by omega) h
    exact ⟨x, rfl, by rw [parseOk, h]; rfl, by rw [parseN, h]; rfl, hb⟩
end Go.Proofs.YtfieiigefllekaaGreatDoor

/- four.Parse, walked. -/
namespace Go.Proofs.YtfieiigefllekaaGreatDoor
open Go.RowKit Go.Proofs.YtfieiigefllekaaGreatDoorW.PrintWords Go.Proofs.YtfieiigefllekaaGreatDoorW.PrintMore

theorem ret_four {a b : Int} {c d : Bool} (h : a = b) (h' : c = d) : Ending.returned (.tuple #[.int .u32 a, .bool c]) = .returned (.tuple #[.int .u32 b, .bool d]) := by rw [h, h']
theorem cell_blk {w : World} {a : Addr} {v : Value} (h : w.cell? a = some v) : a.block < w.heap.size := by
  unfold World.cell? at h
  split at h
  · rename_i hh
    exact (Array.getElem?_eq_some_iff.1 hh).1
  · cases h
theorem four_none {l : List UInt8} {Q : List (List UInt8)} (hQ : Q = partsF (splitL (isAt ⟨#[46]⟩) l)) (h : fourP Q = none) : fourN l = 0 ∧ fourOk l = false := by
  have : fourL l = none := by rw [fourL, ← hQ, h]
  exact ⟨by rw [fourN, this]; rfl, by rw [fourOk, this]; rfl⟩
theorem four_some {l : List UInt8} {Q : List (List UInt8)} {x : Int} (hQ : Q = partsF (splitL (isAt ⟨#[46]⟩) l)) (h : fourP Q = some x) : fourN l = x ∧ fourOk l = true := by
  have : fourL l = some x := by rw [fourL, ← hQ, h]
  exact ⟨by rw [fourN, this]; rfl, by rw [fourOk, this]; rfl⟩

set_option maxHeartbeats 4000000 in
set_option maxRecDepth 100000 in
theorem Four_calls (s : ByteArray) (w : World) (hs : s.size ≤ 900000) :
    Calls Tryz.prog 109 #[.string s] w fun e w' => e = .returned (.tuple #[.int .u32 (fourN s.data.toList), .bool (fourOk s.data.toList)]) ∧ Below w.heap.size w w' := by
  go_enter Tryz.func109, Tryz.ntmps109
  go_wp2_with fail
  refine (Split_calls s _ _ (by omega)).mono ?_
  rintro e w1 ⟨v, rfl, hv, hb⟩
  obtain ⟨A, c, rfl, hcap, hC⟩ := Kd.R_reads hv
  have hpart := splitL_part (isAt ⟨#[46]⟩) s.data.toList
  have hne := splitL_ne (isAt ⟨#[46]⟩) s.data.toList
  have hln := splitL_size (isAt ⟨#[46]⟩) s.data.toList
  rw [show s.data.toList.length = s.size by simp] at hln hpart
  have HN : Aside0 (∀ Q, Q = partsF (splitL (isAt ⟨#[46]⟩) s.data.toList) → fourP Q = none → fourN s.data.toList = 0 ∧ fourOk s.data.toList = false) := ⟨fun Q h h' => four_none h h'⟩
  have HS : Aside0 (∀ Q x, Q = partsF (splitL (isAt ⟨#[46]⟩) s.data.toList) → fourP Q = some x → fourN s.data.toList = x ∧ fourOk s.data.toList = true) := ⟨fun Q x h h' => four_some h h'⟩
  generalize splitL (isAt ⟨#[46]⟩) s.data.toList = P at hv hcap hC hpart hne hln HN HS ⊢
  have hlen := strs_length P
  have hpos : 0 < (strs P).length := by
    rw [hlen]
    exact List.length_pos_iff.2 hne
  obtain ⟨ad, rfl⟩ := C_some hC hpos
  have hcell : ∀ j, j < P.length → w1.cell? (ad.add j) = some (.string ⟨(P.getD j []).toArray⟩) := fun j hj => by
    rw [C_str_at hC j (by omega), strs_get P j (by omega)]
  have hsize : ∀ j, (P.getD j []).length ≤ 900000 := fun j => by have := getD_len P s.size j hpart; omega
  have HB := Aside0.mk hb
  have HCell := Aside0.mk hcell
  have HSz := Aside0.mk hsize
  have hcap' : (strs P).length ≤ c := hcap
  obtain ⟨m, hm⟩ : ∃ m, P.length = m + 1 := ⟨P.length - 1, by have := List.length_pos_iff.2 hne; omega⟩
  have clast := hcell m (by omega)
  have hmb : m ≤ 900000 := by omega
  obtain ⟨q, hq⟩ : ∃ q : ByteArray, q = ⟨(P.getD m []).toArray⟩ := ⟨_, rfl⟩
  rw [← hq] at clast
  have hql : q.data.toList = P.getD m [] := by rw [hq]
  rw [hlen, hm] at hcap' ⊢
  have HPm := Lib.hid hm
  have hway : ∃ (n : Nat) (Q : List (List UInt8)), Q = partsF P ∧ Q.length = n ∧ 1 ≤ n ∧ ((1 ≤ m ∧ n = m ∧ q.toList.isEmpty = true) ∨ (1 ≤ m ∧ n = m + 1 ∧ q.toList.isEmpty = false) ∨ (m = 0 ∧ n = 1)) := by
    refine ⟨_, _, rfl, rfl, List.length_pos_iff.2 (partsF_ne P (by intro h; rw [h] at hm; simp at hm)), ?_⟩
    rw [toList_eq, hql]
    by_cases h1 : 1 ≤ m
    · by_cases h2 : P.getD m [] = []
      · left
        refine ⟨h1, ?_, by rw [h2]; rfl⟩
        rw [partsF, if_pos ⟨by omega, by rw [hm]; exact h2⟩, List.length_take]
        omega
      · right; left
        refine ⟨h1, ?_, by simpa using h2⟩
        rw [partsF, if_neg (by rw [hm]; exact fun h => h2 h.2), hm]
    · right; right
      refine ⟨by omega, ?_⟩
      rw [partsF, if_neg (by omega)]
      omega
  obtain ⟨n, Q, hQ, hQn, hn1, hway⟩ := hway
  have HQ : Aside0 (∀ j, j < n → w1.cell? (ad.add j) = some (.string ⟨(Q.getD j []).toArray⟩)) := ⟨fun j hj => by
    have := partsF_get P j (by rw [← hQ, hQn]; exact hj)
    rw [hQ, this.1]
    exact HCell.out j this.2⟩
  have HSQ : Aside0 (∀ j, j < n → (Q.getD j []).length ≤ 900000) := ⟨fun j hj => by
    have := partsF_get P j (by rw [← hQ, hQn]; exact hj)
    rw [hQ, this.1]
    exact HSz.out j⟩
  have HN' : Aside0 (fourP Q = none → fourN s.data.toList = 0 ∧ fourOk s.data.toList = false) := ⟨HN.out Q hQ⟩
  have HS' : Aside0 (∀ x, fourP Q = some x → fourN s.data.toList = x ∧ fourOk s.data.toList = true) := ⟨fun x => HS.out Q x hQ⟩
  have HQn := Lib.hid hQn
  have hbl := cell_blk (HCell.out 0 (by omega))
  have hblk : ad.block < w1.heap.size := by simpa [Addr.add] using hbl
  clear hv hC hb hpart hlen hpos hcell hsize hcap hne hq hql hQ hQn HN HS HCell HSz hm hbl
  rcases hway with ⟨h1, hnm, e0⟩ | ⟨h1, hnm, e0⟩ | ⟨hnm, h1⟩
  all_goals
    by_cases h4 : 4 < n
    · first
      | (exfalso; omega; done)
      | (have HR := Lib.hid (HN'.out (by rw [fourP, if_pos (by rw [HQn.out]; exact h4)]))
         go_wp2_with fail
         go_ret2
         exact ⟨ret_four HR.out.1.symm HR.out.2.symm, HB.out⟩)
    · have HF := Lib.hid (show fourP Q = sumF Q.length 0 0 Q by rw [fourP, if_neg (by rw [HQn.out]; exact h4)])
      have hql := HQn.out
      have hnm8 : (n = 1 ∧ m = 0) ∨ (n = 1 ∧ m = 1) ∨ (n = 2 ∧ m = 1) ∨ (n = 2 ∧ m = 2) ∨ (n = 3 ∧ m = 2) ∨ (n = 3 ∧ m = 3) ∨ (n = 4 ∧ m = 3) ∨ (n = 4 ∧ m = 4) := by omega
      rcases hnm8 with ⟨rfl, rfl⟩ | ⟨rfl, rfl⟩ | ⟨rfl, rfl⟩ | ⟨rfl, rfl⟩ | ⟨rfl, rfl⟩ | ⟨rfl, rfl⟩ | ⟨rfl, rfl⟩ | ⟨rfl, rfl⟩
      all_goals try (exfalso; omega)
      all_goals
        simp only [Addr.add, Nat.reduceEqDiff, ↓reduceIte] at clast
        go_wp2_with fail
        go_loopw [5, 35] (fun sm i wr => ∃ (j : Nat) (x : Int), i = .int .i64 j ∧ sm = .int .u64 x ∧ j ≤ Q.length ∧ 0 ≤ x ∧ x ≤ j * 4294967296 ∧ Aside0 (sumF Q.length j x (Q.drop j) = fourP Q) ∧ Aside0 (Below w1.heap.size w1 wr)) (fun _ i _ => Q.length - (intOf i).toNat)
        case atStart => exact ⟨0, 0, rfl, rfl, by omega, by omega, by omega, ⟨HF.out.symm⟩, ⟨Below.refl _ _⟩⟩
        case round =>
          obtain ⟨j, x, rfl, rfl, hj, hx0, hx1, hr, hbw⟩ := hrel
          by_cases hlt : j < Q.length
          · have hcj : wr.cell? (ad.add j) = some (.string ⟨(Q.getD j []).toArray⟩) := (hbw.out.cell (by unfold Addr.add; split <;> exact hblk)).trans (HQ.out j (by omega))
            have Hst0 := sumF_step Q.length j x Q hlt
            have HX0 := hr.out
            rw [hql] at Hst0 HX0
            have Hst := Lib.hid Hst0
            have HX := Lib.hid HX0
            clear Hst0 HX0
            have hysz := HSQ.out j (by omega)
            rw [← mk_size] at hysz
            have Hy := Lib.hid (show (ByteArray.mk (Q.getD j []).toArray).data.toList = Q.getD j [] by simp)
            generalize (ByteArray.mk (Q.getD j []).toArray) = y at hcj hysz Hy
            go_wp2_with fail
            refine (Parse_calls y (by omega) _).mono ?_
            rintro e w2 ⟨rfl, b2⟩
            have B2 := Aside0.mk (below_then hbw.out hbw.out.size b2)
            have hpv := parse_val y.data.toList
            clear b2 hcj
            obtain ⟨j1, HJ⟩ : ∃ j1, Aside0 (j1 = j + 1) := ⟨_, ⟨rfl⟩⟩
            have hj4 : j = 0 ∨ j = 1 ∨ j = 2 ∨ j = 3 := by omega
            rcases hj4 with rfl | rfl | rfl | rfl
            all_goals try (exfalso; omega)
            all_goals
              rcases hpv with ⟨hp, ho, hv⟩ | ⟨v, hp, ho, hv, hv0, hv1⟩
              · have HR := Lib.hid (HN'.out (by rw [← HX.out, Hst.out, ← Hy.out, hp]))
                rw [ho, hv]
                clear ho hv hp
                go_wp2_with fail
                go_ret2
                exact ⟨ret_four HR.out.1.symm HR.out.2.symm, below_then HB.out HB.out.size B2.out⟩
              · rw [ho, hv]
                have HY := Hst.out
                rw [← Hy.out, hp] at HY
                simp only [Nat.reduceAdd, Nat.reduceEqDiff, if_true, if_false, Nat.reduceSub, Int.reducePow] at HY
                have HZ := Lib.hid HY
                clear ho hv hp HY
                go_wp2_with fail
                · have HR := HN'.out (by rw [← HX.out, HZ.out, if_pos (by assumption)])
                  go_ret2
                  exact ⟨ret_four HR.1.symm HR.2.symm, below_then HB.out HB.out.size B2.out⟩
                · go_roundw
                  case rel =>
                    have hj1 := HJ.out
                    exact ⟨j1, _, by rw [hj1]; first | rfl | go_num, rfl, by omega, by omega, by omega, ⟨by rw [hql, hj1, ← HX.out, HZ.out, if_neg (by first | assumption | omega)]⟩, B2⟩
                  case measure => simp [intOf]; omega
          · have he := hr.out
            rw [List.drop_of_length_le (by omega), sumF] at he
            have HR := Lib.hid (HS'.out _ he.symm)
            clear he
            go_wp2_with fail
            go_ret2
            exact ⟨ret_four (by first | (rw [HR.out.1]; done) | (rw [HR.out.1]; rfl)) HR.out.2.symm, below_then HB.out HB.out.size hbw.out⟩
end Go.Proofs.YtfieiigefllekaaGreatDoor

/- Addresses of four bytes, as they are written and read again: plain Lean. -/
namespace Go.Proofs.YtfieiigefllekaaGreatDoor
open Go.RowKit Go.Proofs.YtfieiigefllekaaGreatDoorW.PrintWords

/-- The parts, each a decimal number of at most 255. -/
def sumS : Int → List (List UInt8) → Option Int
  | a, [] => some a
  | a, p :: ps => if decOk p 255 = true then sumS (a * 256 + decN p 255) ps else none
def strictP (P : List (List UInt8)) : Option Int := if P.length = 4 then sumS 0 P else none
def strictL (l : List UInt8) : Option Int := strictP (splitL (isAt ⟨#[46]⟩) l)
def strictN (l : List UInt8) : Int := (strictL l).getD 0
def strictOk (l : List UInt8) : Bool := (strictL l).isSome
/-- An address, written. -/
def fourT (n : Nat) : List UInt8 := digB 10 (n / 16777216) ++ 46 :: (digB 10 (n / 65536 % 256) ++ 46 :: (digB 10 (n / 256 % 256) ++ 46 :: digB 10 (n % 256)))

theorem split_join (a r : List UInt8) (h : ∀ c ∈ a, c ≠ 46) : splitL (isAt ⟨#[46]⟩) (a ++ 46 :: r) = a :: splitL (isAt ⟨#[46]⟩) r := by
  rw [splitL_append _ 46 r (by rw [dot_at]; rfl) a, split_none a h]
  rfl
theorem dig_dot (u : Nat) : ∀ c ∈ digB 10 u, c ≠ 46 := digB_dot 10 (by omega) (by omega) u
theorem split_text (n : Nat) : splitL (isAt ⟨#[46]⟩) (fourT n) = [digB 10 (n / 16777216), digB 10 (n / 65536 % 256), digB 10 (n / 256 % 256), digB 10 (n % 256)] := by
  rw [fourT, split_join _ _ (dig_dot _), split_join _ _ (dig_dot _), split_join _ _ (dig_dot _), split_none _ (dig_dot _)]
theorem dec_dig (u : Nat) (h : u ≤ 255) : decOk (digB 10 u) 255 = true ∧ decN (digB 10 u) 255 = u := by
  have h1 : decOk (digB 10 u) 255 = true := by
    rw [decOk, plain_dig, decV_dig, Bool.true_and, decide_eq_true_eq]
    omega
  exact ⟨h1, by rw [decN, if_pos h1, decV_dig]⟩
theorem strict_text (n : Nat) (hn : n < 4294967296) : strictL (fourT n) = some (n : Int) := by
  have d1 := dec_dig (n / 16777216) (by omega)
  have d2 := dec_dig (n / 65536 % 256) (by omega)
  have d3 := dec_dig (n / 256 % 256) (by omega)
  have d4 := dec_dig (n % 256) (by omega)
  rw [strictL, split_text, strictP, if_pos (by rfl), sumS, if_pos d1.1, d1.2, sumS, if_pos d2.1, d2.2, sumS, if_pos d3.1, d3.2, sumS, if_pos d4.1, d4.2, sumS]
  congr 1
  omega
theorem parse_small (u : Nat) (h : u ≤ 1099511627776) : parseL (digB 10 u) = some (u : Int) := by
  rw [parse_dec]
  congr 1
  omega
theorem partsF_last (P : List (List UInt8)) (h : P.getD (P.length - 1) [] ≠ []) : partsF P = P := by
  rw [partsF, if_neg (fun h' => h h'.2)]
theorem partsF_snoc (P : List (List UInt8)) (h : P ≠ []) : partsF (P ++ [[]]) = P := by
  have e : (P ++ [([] : List UInt8)]).length - 1 = P.length := by simp
  have := List.length_pos_iff.2 h
  rw [partsF, e, getD_snoc, if_pos ⟨by simp; omega, rfl⟩]
  simp
theorem four_text (n : Nat) (hn : n < 4294967296) : fourL (fourT n) = some (n : Int) := by
  rw [fourL, split_text, partsF_last [digB 10 (n / 16777216), digB 10 (n / 65536 % 256), digB 10 (n / 256 % 256), digB 10 (n % 256)] (digB_ne 10 (n % 256)), fourP, if_neg (by simp)]
  show sumF 4 0 0 _ = _
  rw [sumF, parse_small _ (by omega)]
  simp only [Nat.reduceAdd, Nat.reduceEqDiff, if_false]
  rw [if_neg (by omega), sumF, parse_small _ (by omega)]
  simp only [Nat.reduceAdd, Nat.reduceEqDiff, if_false]
  rw [if_neg (by omega), sumF, parse_small _ (by omega)]
  simp only [Nat.reduceAdd, Nat.reduceEqDiff, if_false]
  rw [if_neg (by omega), sumF, parse_small _ (by omega)]
  simp only [Nat.reduceAdd, if_true]
  rw [if_neg (by omega), sumF]
  simp only [Nat.reduceSub, Int.reducePow]
  congr 1
  omega

/-! ### What is read strictly is what is written -/
def joinL : List (List UInt8) → List UInt8
  | [] => []
  | [x] => x
  | x :: y :: t => x ++ 46 :: joinL (y :: t)
theorem joinL_cons (x : List UInt8) (L : List (List UInt8)) (h : L ≠ []) : joinL (x :: L) = x ++ 46 :: joinL L := by
  rcases L with _ | ⟨y, t⟩
  · exact absurd rfl h
  · rfl
theorem join_split : ∀ l : List UInt8, joinL (splitL (isAt ⟨#[46]⟩) l) = l
  | [] => rfl
  | c :: r => by
    have ih := join_split r
    rw [splitL]
    split
    · rename_i hc
      rw [joinL_cons _ _ (splitL_ne _ r), ih]
      rw [dot_at] at hc
      rw [show c = 46 by simpa using hc]
      rfl
    · rcases hs : splitL (isAt ⟨#[46]⟩) r with _ | ⟨x, t⟩
      · exact absurd hs (splitL_ne _ r)
      · rw [hs] at ih
        show joinL ((c :: x) :: t) = _
        rcases t with _ | ⟨y, t⟩
        · show c :: x = _
          rw [← ih]
          rfl
        · rw [joinL_cons _ _ (by simp)]
          rw [joinL_cons _ _ (by simp)] at ih
          rw [List.cons_append, ih]
theorem decV_snoc (q : List UInt8) (c : UInt8) : decV (q ++ [c]) = 10 * decV q + ((c.toNat : Int) - 48) := by
  rw [decV, intsOf_append, accD_append]
  rfl
theorem hexCh_dig (c : UInt8) (h0 : 48 ≤ c.toNat) (h1 : c.toNat ≤ 57) : hexCh (c.toNat - 48) = c := by
  rw [hexCh, if_pos (by omega)]
  apply UInt8.toNat_inj.1
  rw [UInt8.toNat_ofNat']
  omega
theorem all_dig_snoc (q : List UInt8) (c : UInt8) (h : (intsOf (q ++ [c])).all isDig = true) : (intsOf q).all isDig = true ∧ 48 ≤ c.toNat ∧ c.toNat ≤ 57 := by
  rw [intsOf_append, List.all_append, Bool.and_eq_true] at h
  have h2 := h.2
  rw [show intsOf [c] = [(c.toNat : Int)] from rfl, List.all_cons, Bool.and_eq_true] at h2
  have := (isDig_iff _).1 h2.1
  exact ⟨h.1, by omega, by omega⟩
/-- Digits without a nought ahead. -/
theorem dig_lead : ∀ (k : Nat) (q : List UInt8), q.length = k → q ≠ [] → (intsOf q).all isDig = true → q.head? ≠ some 48 → ∃ u : Nat, 1 ≤ u ∧ decV q = u ∧ digB 10 u = q
  | 0, q, hk, hq, _, _ => absurd (List.eq_nil_of_length_eq_zero hk) hq
  | k + 1, q, hk, hq, hd, hh => by
    obtain ⟨r, c, rfl⟩ : ∃ r c, q = r ++ [c] := ⟨q.dropLast, q.getLast hq, (List.dropLast_concat_getLast hq).symm⟩
    have ⟨hr, h0, h1⟩ := all_dig_snoc r c hd
    rcases Classical.em (r = []) with rfl | hne
    · have hc : c ≠ 48 := fun h => hh (by rw [h]; rfl)
      have hc' : c.toNat ≠ 48 := fun h => hc (UInt8.toNat_inj.1 h)
      refine ⟨c.toNat - 48, by omega, ?_, ?_⟩
      · rw [List.nil_append, decV, show intsOf [c] = [(c.toNat : Int)] from rfl, accD, accD]
        omega
      · rw [digB_small (by omega), hexCh_dig c h0 h1]
        rfl
    · obtain ⟨u, hu, hv, hg⟩ := dig_lead k r (by simp at hk; exact hk) hne hr (by
        rcases r with _ | ⟨x, r⟩
        · exact absurd rfl hne
        · simpa using hh)
      refine ⟨10 * u + (c.toNat - 48), by omega, ?_, ?_⟩
      · rw [decV_snoc, hv]
        omega
      · rw [digB_big (by omega) (by omega), show (10 * u + (c.toNat - 48)) / 10 = u by omega, show (10 * u + (c.toNat - 48)) % 10 = c.toNat - 48 by omega, hg, hexCh_dig c h0 h1]
theorem plain_inv (p : List UInt8) (h : plainD p = true) : ∃ u : Nat, decV p = u ∧ digB 10 u = p := by
  rw [plainD, digitsL, Bool.and_eq_true, Bool.and_eq_true, Bool.not_eq_true', Bool.not_eq_true'] at h
  obtain ⟨⟨hne, hd⟩, hl⟩ := h
  have hne' : p ≠ [] := by simpa using hne
  by_cases hh : p.head? = some 48
  · rw [hh] at hl
    obtain ⟨c, r, rfl⟩ : ∃ c r, p = c :: r := by
      rcases p with _ | ⟨c, r⟩
      · exact absurd rfl hne'
      · exact ⟨c, r, rfl⟩
    have hr : r = [] := by
      simp at hl
      exact hl
    obtain rfl : c = 48 := by simpa using hh
    subst hr
    exact ⟨0, rfl, by rw [digB_small (by omega)]; rfl⟩
  · obtain ⟨u, _, h1, h2⟩ := dig_lead p.length p rfl hne' hd hh
    exact ⟨u, h1, h2⟩
theorem dec_inv (p : List UInt8) (h : decOk p 255 = true) : ∃ u : Nat, u ≤ 255 ∧ decN p 255 = u ∧ digB 10 u = p := by
  have h' := h
  rw [decOk, Bool.and_eq_true, decide_eq_true_eq] at h
  obtain ⟨u, h1, h2⟩ := plain_inv p h.1
  exact ⟨u, by omega, by rw [decN, if_pos h', h1], h2⟩
theorem sumS_inv (a x : Int) (p : List UInt8) (ps : List (List UInt8)) (h : sumS a (p :: ps) = some x) : ∃ u : Nat, u ≤ 255 ∧ digB 10 u = p ∧ sumS (a * 256 + u) ps = some x := by
  rw [sumS] at h
  split at h
  · rename_i hp
    obtain ⟨u, h1, h2, h3⟩ := dec_inv p hp
    exact ⟨u, h1, h3, by rw [← h2]; exact h⟩
  · cases h
theorem strict_inv (l : List UInt8) (x : Int) (h : strictL l = some x) : ∃ n : Nat, n < 4294967296 ∧ x = n ∧ l = fourT n := by
  have hj := join_split l
  rw [strictL, strictP] at h
  split at h
  · rename_i h4
    rcases hs : splitL (isAt ⟨#[46]⟩) l with _ | ⟨a, _ | ⟨b, _ | ⟨c, _ | ⟨d, _ | ⟨e, t⟩⟩⟩⟩⟩
    all_goals rw [hs] at h4 h hj
    · cases h4
    · cases h4
    · cases h4
    · cases h4
    · obtain ⟨u1, b1, g1, h⟩ := sumS_inv _ _ _ _ h
      obtain ⟨u2, b2, g2, h⟩ := sumS_inv _ _ _ _ h
      obtain ⟨u3, b3, g3, h⟩ := sumS_inv _ _ _ _ h
      obtain ⟨u4, b4, g4, h⟩ := sumS_inv _ _ _ _ h
      rw [sumS] at h
      have hx := Option.some.inj h
      refine ⟨((u1 * 256 + u2) * 256 + u3) * 256 + u4, by omega, by omega, ?_⟩
      rw [fourT, show (((u1 * 256 + u2) * 256 + u3) * 256 + u4) / 16777216 = u1 by omega, show (((u1 * 256 + u2) * 256 + u3) * 256 + u4) / 65536 % 256 = u2 by omega, show (((u1 * 256 + u2) * 256 + u3) * 256 + u4) / 256 % 256 = u3 by omega, show (((u1 * 256 + u2) * 256 + u3) * 256 + u4) % 256 = u4 by omega, g1, g2, g3, g4, ← hj]
      rfl
    · simp at h4
  · cases h
theorem strict_point (n : Nat) : strictL (fourT n ++ [46]) = none := by
  rw [strictL, splitL_append _ 46 [] (by rw [dot_at]; rfl), split_text, strictP, if_neg (by simp [splitL])]
theorem strict_nought (n : Nat) : strictL (48 :: fourT n) = none := by
  have e : splitL (isAt ⟨#[46]⟩) (48 :: fourT n) = [48 :: digB 10 (n / 16777216), digB 10 (n / 65536 % 256), digB 10 (n / 256 % 256), digB 10 (n % 256)] := by
    rw [splitL, if_neg (by rw [dot_at]; decide), split_text]
  rw [strictL, e, strictP, if_pos (by rfl), sumS, if_neg]
  rw [decOk, plain_nought]
  simp
theorem strict_val (l : List UInt8) : (strictL l = none ∧ strictOk l = false ∧ strictN l = 0) ∨ ∃ n : Nat, n < 4294967296 ∧ strictL l = some (n : Int) ∧ strictOk l = true ∧ strictN l = n ∧ l = fourT n := by
  rcases h : strictL l with _ | x
  · exact .inl ⟨rfl, by rw [strictOk, h]; rfl, by rw [strictN, h]; rfl⟩
  · obtain ⟨n, hn, rfl, hl⟩ := strict_inv l x h
    exact .inr ⟨n, hn, rfl, by rw [strictOk, h]; rfl, by rw [strictN, h]; rfl, hl⟩
end Go.Proofs.YtfieiigefllekaaGreatDoor

/- four.Strict and the document's Strict, walked. -/
namespace Go.Proofs.YtfieiigefllekaaGreatDoor
open Go.RowKit Go.Proofs.YtfieiigefllekaaGreatDoorW.PrintWords Go.Proofs.YtfieiigefllekaaGreatDoorW.PrintMore

theorem strict_none (l : List UInt8) (h : strictP (splitL (isAt ⟨#[46]⟩) l) = none) : strictN l = 0 ∧ strictOk l = false := by
  have : strictL l = none := h
  exact ⟨by rw [strictN, this]; rfl, by rw [strictOk, this]; rfl⟩
theorem strict_some (l : List UInt8) (x : Int) (h : strictP (splitL (isAt ⟨#[46]⟩) l) = some x) : strictN l = x ∧ strictOk l = true := by
  have : strictL l = some x := h
  exact ⟨by rw [strictN, this]; rfl, by rw [strictOk, this]; rfl⟩
theorem sumS_step (j : Nat) (x : Int) (P : List (List UInt8)) (h : j < P.length) : sumS x (P.drop j) = if decOk (P.getD j []) 255 = true then sumS (x * 256 + decN (P.getD j []) 255) (P.drop (j + 1)) else none := by
  rw [drop_getD P j h, sumS]
theorem dec_bd (l : List UInt8) (h : decOk l 255 = true) : 0 ≤ decN l 255 ∧ decN l 255 ≤ 255 := by
  obtain ⟨u, h1, h2, _⟩ := dec_inv l h
  omega

set_option maxHeartbeats 4000000 in
set_option maxRecDepth 100000 in
theorem Strict_calls (s : ByteArray) (w : World) (hs : s.size ≤ 900000) (hE : Aside0 (Errs w)) :
    Calls Tryz.prog 69 #[.string s] w fun e w' => e = .returned (.tuple #[.int .u32 (strictN s.data.toList), .bool (strictOk s.data.toList)]) ∧ Below w.heap.size w w' := by
  go_enter Tryz.func69, Tryz.ntmps69
  go_wp2_with fail
  refine (Split_calls s _ _ (by omega)).mono ?_
  rintro e w1 ⟨v, rfl, hv, hb⟩
  obtain ⟨A, c, rfl, hcap, hC⟩ := Kd.R_reads hv
  have hpart := splitL_part (isAt ⟨#[46]⟩) s.data.toList
  have hne := splitL_ne (isAt ⟨#[46]⟩) s.data.toList
  have hln := splitL_size (isAt ⟨#[46]⟩) s.data.toList
  rw [show s.data.toList.length = s.size by simp] at hln hpart
  have HN : Aside0 (strictP (splitL (isAt ⟨#[46]⟩) s.data.toList) = none → strictN s.data.toList = 0 ∧ strictOk s.data.toList = false) := ⟨strict_none s.data.toList⟩
  have HS : Aside0 (∀ x, strictP (splitL (isAt ⟨#[46]⟩) s.data.toList) = some x → strictN s.data.toList = x ∧ strictOk s.data.toList = true) := ⟨strict_some s.data.toList⟩
  generalize splitL (isAt ⟨#[46]⟩) s.data.toList = P at hv hcap hC hpart hne hln HN HS ⊢
  have hlen := strs_length P
  have hpos : 0 < (strs P).length := by
    rw [hlen]
    exact List.length_pos_iff.2 hne
  obtain ⟨ad, rfl⟩ := C_some hC hpos
  have hcell : ∀ j, j < P.length → w1.cell? (ad.add j) = some (.string ⟨(P.getD j []).toArray⟩) := fun j hj => by
    rw [C_str_at hC j (by omega), strs_get P j (by omega)]
  have hsize : ∀ j, (P.getD j []).length ≤ 900000 := fun j => by have := getD_len P s.size j hpart; omega
  have HB := Aside0.mk hb
  have HCell := Aside0.mk hcell
  have HSz := Aside0.mk hsize
  have hcap' : (strs P).length ≤ c := hcap
  rw [hlen] at hcap' ⊢
  have hbl := cell_blk (HCell.out 0 (by omega))
  have hblk : ad.block < w1.heap.size := by simpa [Addr.add] using hbl
  clear hv hC hb hpart hlen hpos hcell hsize hcap hne hbl
  by_cases h4 : P.length = 4
  · have HF := Lib.hid (show strictP P = sumS 0 P by rw [strictP, if_pos h4])
    have H4 := Lib.hid h4
    rw [h4] at hcap' hln ⊢
    clear h4
    go_wp2_with fail
    go_loopw [5, 17] (fun aa i wr => ∃ (j : Nat) (x : Int), i = .int .i64 j ∧ aa = .int .u32 x ∧ j ≤ 4 ∧ 0 ≤ x ∧ Aside0 (x < (256 : Int) ^ j) ∧ Aside0 (sumS x (P.drop j) = strictP P) ∧ Aside0 (Below w1.heap.size w1 wr)) (fun _ i _ => 4 - (intOf i).toNat)
    case atStart => exact ⟨0, 0, rfl, rfl, by omega, by omega, ⟨by decide⟩, ⟨HF.out.symm⟩, ⟨Below.refl _ _⟩⟩
    case round =>
      obtain ⟨j, x, rfl, rfl, hj, hx0, hx1, hr, hbw⟩ := hrel
      by_cases hlt : j < 4
      · have hcj : wr.cell? (ad.add j) = some (.string ⟨(P.getD j []).toArray⟩) := (hbw.out.cell (by unfold Addr.add; split <;> exact hblk)).trans (HCell.out j (by rw [H4.out]; exact hlt))
        have Hst := Lib.hid (sumS_step j x P (by rw [H4.out]; exact hlt))
        have hysz := HSz.out j
        rw [← mk_size] at hysz
        have Hy := Lib.hid (show (ByteArray.mk (P.getD j []).toArray).data.toList = P.getD j [] by simp)
        generalize (ByteArray.mk (P.getD j []).toArray) = y at hcj hysz Hy
        go_wp2_with fail
        refine (Decimal_calls y (by omega) 255 (by omega) _ ⟨hE.out.stays (below_then HB.out HB.out.size hbw.out)⟩).mono ?_
        rintro e w2 ⟨rfl, b2⟩
        have B2 := Aside0.mk (below_then hbw.out hbw.out.size b2)
        clear b2 hcj
        have hxv := hx1.out
        obtain ⟨j1, HJ⟩ : ∃ j1, Aside0 (j1 = j + 1) := ⟨_, ⟨rfl⟩⟩
        cases hp : decOk y.data.toList 255
        · have HR := Lib.hid (HN.out (by rw [← hr.out, Hst.out, ← Hy.out, hp]; rfl))
          clear hxv hp
          go_wp2_with fail
          go_ret2
          exact ⟨ret_four HR.out.1.symm HR.out.2.symm, below_then HB.out HB.out.size B2.out⟩
        · have hv := dec_bd y.data.toList hp
          have HZ := Lib.hid (show sumS x (P.drop j) = sumS (x * 256 + decN y.data.toList 255) (P.drop (j + 1)) by rw [Hst.out, ← Hy.out, hp]; rfl)
          generalize decN y.data.toList 255 = v at hv HZ ⊢
          clear hp
          have hj4 : j = 0 ∨ j = 1 ∨ j = 2 ∨ j = 3 := by omega
          rcases hj4 with rfl | rfl | rfl | rfl
          all_goals
            simp only [Int.reducePow] at hxv
            have hnext : x * 256 + v < (256 : Int) ^ j1 := by
              rw [HJ.out]
              simp only [Nat.reduceAdd, Int.reducePow]
              omega
            have HX := Lib.hid hnext
            clear hnext
            have hor := or_u32 8 x v (by omega) (by omega) (by simp only [Int.reducePow]; omega) (by simp only [Int.reducePow]; omega) (by omega)
            simp only [Int.reducePow] at hor
            go_wp2_with fail
            go_roundw
            case rel =>
              have hj1 := HJ.out
              exact ⟨j1, _, by rw [hj1]; first | rfl | go_num, rfl, by omega, by omega, ⟨HX.out⟩, ⟨by rw [hj1, ← hr.out, HZ.out]⟩, B2⟩
            case measure => simp [intOf]
      · obtain rfl : j = 4 := by omega
        have he := hr.out
        rw [List.drop_of_length_le (by rw [H4.out]; omega), sumS] at he
        have HR := Lib.hid (HS.out _ he.symm)
        clear he
        go_wp2_with fail
        go_ret2
        exact ⟨ret_four (by first | (rw [HR.out.1]; done) | (rw [HR.out.1]; rfl)) HR.out.2.symm, below_then HB.out HB.out.size hbw.out⟩
  · have HR := Lib.hid (HN.out (by rw [strictP, if_neg h4]))
    go_wp2_with fail
    go_ret2
    exact ⟨ret_four HR.out.1.symm HR.out.2.symm, HB.out⟩

set_option maxHeartbeats 4000000 in
set_option maxRecDepth 100000 in
theorem rStrict_calls (s : ByteArray) (w : World) (hs : s.size ≤ 900000) :
    Calls Tryz.prog 70 #[.string s] w fun e w' => e = .returned (.tuple #[.int .u32 (strictN s.data.toList), .bool (strictOk s.data.toList)]) ∧ Below w.heap.size w w' := by
  go_enter Tryz.func70, Tryz.ntmps70
  go_wp2_with fail
  refine (rSplit_calls s _ _ (by omega) (by decide)).mono ?_
  rintro e w1 ⟨v, rfl, hv, hb⟩
  obtain ⟨A, c, rfl, hcap, hC⟩ := Kd.R_reads hv
  have hpart := splitL_part (isAt ⟨#[46]⟩) s.data.toList
  have hne := splitL_ne (isAt ⟨#[46]⟩) s.data.toList
  have hln := splitL_size (isAt ⟨#[46]⟩) s.data.toList
  rw [show s.data.toList.length = s.size by simp] at hln hpart
  have HN : Aside0 (strictP (splitL (isAt ⟨#[46]⟩) s.data.toList) = none → strictN s.data.toList = 0 ∧ strictOk s.data.toList = false) := ⟨strict_none s.data.toList⟩
  have HS : Aside0 (∀ x, strictP (splitL (isAt ⟨#[46]⟩) s.data.toList) = some x → strictN s.data.toList = x ∧ strictOk s.data.toList = true) := ⟨strict_some s.data.toList⟩
  generalize splitL (isAt ⟨#[46]⟩) s.data.toList = P at hv hcap hC hpart hne hln HN HS ⊢
  have hlen := strs_length P
  have hpos : 0 < (strs P).length := by
    rw [hlen]
    exact List.length_pos_iff.2 hne
  obtain ⟨ad, rfl⟩ := C_some hC hpos
  have hcell : ∀ j, j < P.length → w1.cell? (ad.add j) = some (.string ⟨(P.getD j []).toArray⟩) := fun j hj => by
    rw [C_str_at hC j (by omega), strs_get P j (by omega)]
  have hsize : ∀ j, (P.getD j []).length ≤ 900000 := fun j => by have := getD_len P s.size j hpart; omega
  have HB := Aside0.mk hb
  have HCell := Aside0.mk hcell
  have HSz := Aside0.mk hsize
  have hcap' : (strs P).length ≤ c := hcap
  rw [hlen] at hcap' ⊢
  have hbl := cell_blk (HCell.out 0 (by omega))
  have hblk : ad.block < w1.heap.size := by simpa [Addr.add] using hbl
  clear hv hC hb hpart hlen hpos hcell hsize hcap hne hbl
  by_cases h4 : P.length = 4
  · have HF := Lib.hid (show strictP P = sumS 0 P by rw [strictP, if_pos h4])
    have H4 := Lib.hid h4
    rw [h4] at hcap' hln ⊢
    clear h4
    go_wp2_with fail
    go_loopw [5, 6] (fun aa i wr => ∃ (j : Nat) (x : Int), i = .int .i64 j ∧ aa = .int .u32 x ∧ j ≤ 4 ∧ 0 ≤ x ∧ Aside0 (x < (256 : Int) ^ j) ∧ Aside0 (sumS x (P.drop j) = strictP P) ∧ Aside0 (Below w1.heap.size w1 wr)) (fun _ i _ => 4 - (intOf i).toNat)
    case atStart => exact ⟨0, 0, rfl, rfl, by omega, by omega, ⟨by decide⟩, ⟨HF.out.symm⟩, ⟨Below.refl _ _⟩⟩
    case round =>
      obtain ⟨j, x, rfl, rfl, hj, hx0, hx1, hr, hbw⟩ := hrel
      by_cases hlt : j < 4
      · have hcj : wr.cell? (ad.add j) = some (.string ⟨(P.getD j []).toArray⟩) := (hbw.out.cell (by unfold Addr.add; split <;> exact hblk)).trans (HCell.out j (by rw [H4.out]; exact hlt))
        have Hst := Lib.hid (sumS_step j x P (by rw [H4.out]; exact hlt))
        have hysz := HSz.out j
        rw [← mk_size] at hysz
        have Hy := Lib.hid (show (ByteArray.mk (P.getD j []).toArray).data.toList = P.getD j [] by simp)
        generalize (ByteArray.mk (P.getD j []).toArray) = y at hcj hysz Hy
        go_wp2_with fail
        refine (rDecimal_calls y (by omega) 255 (by omega) _).mono ?_
        rintro e w2 ⟨rfl, b2⟩
        have B2 := Aside0.mk (b2 ▸ hbw.out)
        clear b2 hcj
        have hxv := hx1.out
        obtain ⟨j1, HJ⟩ : ∃ j1, Aside0 (j1 = j + 1) := ⟨_, ⟨rfl⟩⟩
        cases hp : decOk y.data.toList 255
        · have HR := Lib.hid (HN.out (by rw [← hr.out, Hst.out, ← Hy.out, hp]; rfl))
          clear hxv hp
          go_wp2_with fail
          go_ret2
          exact ⟨ret_four HR.out.1.symm HR.out.2.symm, below_then HB.out HB.out.size B2.out⟩
        · have hv := dec_bd y.data.toList hp
          have HZ := Lib.hid (show sumS x (P.drop j) = sumS (x * 256 + decN y.data.toList 255) (P.drop (j + 1)) by rw [Hst.out, ← Hy.out, hp]; rfl)
          generalize decN y.data.toList 255 = v at hv HZ ⊢
          clear hp
          have hj4 : j = 0 ∨ j = 1 ∨ j = 2 ∨ j = 3 := by omega
          rcases hj4 with rfl | rfl | rfl | rfl
          all_goals
            simp only [Int.reducePow] at hxv
            have hnext : x * 256 + v < (256 : Int) ^ j1 := by
              rw [HJ.out]
              simp only [Nat.reduceAdd, Int.reducePow]
              omega
            have HX := Lib.hid hnext
            clear hnext
            go_wp2_with fail
            go_roundw
            case rel =>
              have hj1 := HJ.out
              exact ⟨j1, _, by rw [hj1]; first | rfl | go_num, rfl, by omega, by omega, ⟨HX.out⟩, ⟨by rw [hj1, ← hr.out, HZ.out]⟩, B2⟩
            case measure => simp [intOf]
      · obtain rfl : j = 4 := by omega
        have he := hr.out
        rw [List.drop_of_length_le (by rw [H4.out]; omega), sumS] at he
        have HR := Lib.hid (HS.out _ he.symm)
        clear he
        go_wp2_with fail
        go_ret2
        exact ⟨ret_four (by first | (rw [HR.out.1]; done) | (rw [HR.out.1]; rfl)) HR.out.2.symm, below_then HB.out HB.out.size hbw.out⟩
  · have HR := Lib.hid (HN.out (by rw [strictP, if_neg h4]))
    go_wp2_with fail
    go_ret2
    exact ⟨ret_four HR.out.1.symm HR.out.2.symm, HB.out⟩
end Go.Proofs.YtfieiigefllekaaGreatDoor

/- Addresses of four bytes: built of bytes, told as bytes, written. -/
namespace Go.Proofs.YtfieiigefllekaaGreatDoor
open Go.RowKit Go.Proofs.YtfieiigefllekaaGreatDoorW.PrintWords Go.Proofs.YtfieiigefllekaaGreatDoorW.PrintMore

theorem Of_calls (a b c d : Int) (ha : 0 ≤ a ∧ a ≤ 255) (hb : 0 ≤ b ∧ b ≤ 255) (hc : 0 ≤ c ∧ c ≤ 255) (hd : 0 ≤ d ∧ d ≤ 255) (w : World) :
    Calls Tryz.prog 111 #[.int .u8 a, .int .u8 b, .int .u8 c, .int .u8 d] w fun e w' => e = .returned (.int .u32 (((a * 256 + b) * 256 + c) * 256 + d)) ∧ w = w' := by
  have h1 := or_u32 24 a (b * 65536) (by omega) (by omega) (by simp only [Int.reducePow]; omega) (by simp only [Int.reducePow]; omega) (by omega)
  have h2 := or_u32 16 (a * 256 + b) (c * 256) (by omega) (by omega) (by simp only [Int.reducePow]; omega) (by simp only [Int.reducePow]; omega) (by omega)
  have h3 := or_u32 8 ((a * 256 + b) * 256 + c) d (by omega) (by omega) (by simp only [Int.reducePow]; omega) (by simp only [Int.reducePow]; omega) (by omega)
  simp only [Int.reducePow] at h1 h2 h3
  rw [show (a * 256 + b) * 65536 = a * 16777216 + b * 65536 by omega] at h2
  rw [show ((a * 256 + b) * 256 + c) * 256 = a * 16777216 + b * 65536 + c * 256 by omega] at h3
  go_enter Tryz.func111, Tryz.ntmps111
  go_wp2_with fail
  go_ret
  exact ⟨congrArg (fun z => Ending.returned (.int .u32 z)) (by omega), rfl⟩
theorem Bytes_calls (n : Int) (h0 : 0 ≤ n) (h1 : n < 4294967296) (w : World) :
    Calls Tryz.prog 92 #[.int .u32 n] w fun e w' => e = .returned (.agg #[.int .u8 (n / 16777216), .int .u8 (n / 65536 % 256), .int .u8 (n / 256 % 256), .int .u8 (n % 256)]) ∧ Below w.heap.size w w' := by
  go_enter Tryz.func92, Tryz.ntmps92
  go_wp2_with fail
  refine bodyPost_ret (results_cell_row rfl _ _ w.heap.size 132 _ (0, 0) _ rfl (heap_alloc_new _ _) Tryz.underlying132 rfl (by kernel_rfl)) rfl ?_
  exact ⟨rfl, (Below.refl _ _).alloc (Nat.le_refl _) _⟩
theorem Wide_calls (n : Int) (h0 : 0 ≤ n) (h1 : n < 4294967296) (w : World) :
    Calls Tryz.prog 187 #[.int .u32 n] w fun e w' => e = .returned (.tuple #[.int .u64 0, .int .u64 (281470681743360 + n)]) ∧ w = w' := by
  have h1 := or_u64 32 65535 n (by omega) (by omega) (by simp only [Int.reducePow]; omega) (by decide) (by omega)
  simp only [Int.reducePow, Int.reduceMul] at h1
  go_enter Tryz.func187, Tryz.ntmps187
  go_wp2_with fail
  go_ret2
  exact ⟨rfl, rfl⟩

def fourPre (n : Nat) : Nat → List UInt8
  | 0 => []
  | 1 => digB 10 (n / 16777216)
  | 2 => digB 10 (n / 16777216) ++ 46 :: digB 10 (n / 65536 % 256)
  | 3 => digB 10 (n / 16777216) ++ 46 :: (digB 10 (n / 65536 % 256) ++ 46 :: digB 10 (n / 256 % 256))
  | _ => fourT n
/-- An address, written. -/
def fourB (n : Nat) : ByteArray := ⟨(fourT n).toArray⟩
theorem bytes_of (z : ByteArray) (l : List UInt8) (h : z.data.toList = l) : z = ⟨l.toArray⟩ := by
  subst h
  rfl
theorem fourB_list (n : Nat) : (fourB n).data.toList = fourT n := rfl
theorem fourB_size (n : Nat) (hn : n < 4294967296) : (fourB n).size ≤ 200 := by
  have h (u : Nat) (hu : u < 1099511627776) : (digB 10 u).length ≤ 41 := digB_len 10 (by omega) u 40 hu
  rw [fourB, mk_size, fourT]
  simp only [List.length_append, List.length_cons]
  have h1 := h (n / 16777216) (by omega)
  have h2 := h (n / 65536 % 256) (by omega)
  have h3 := h (n / 256 % 256) (by omega)
  have h4 := h (n % 256) (by omega)
  omega
theorem sz_cat (a b : ByteArray) (m n k : Nat) (ha : a.size ≤ m) (hb : b.size ≤ n) (h : m + n ≤ k) : (a ++ b).size ≤ k := by
  rw [ByteArray.size_append]
  omega
theorem dat_cat (a b : ByteArray) : (a ++ b).data.toList = a.data.toList ++ b.data.toList := by simp
theorem Byte10_calls (u : Int) (h0 : 0 ≤ u) (h1 : u < 256) (w : World) (hP : Pows w) :
    Calls Tryz.prog 85 #[.int .i64 u] w fun e w' => (∃ D : ByteArray, e = .returned (.string D) ∧ D.size ≤ 9 ∧ Aside0 (D.data.toList = digB 10 u.toNat)) ∧ Below w.heap.size w w' := by
  refine (Itoa_calls u h0 (by omega) w hP).mono ?_
  rintro e w' ⟨rfl, hb⟩
  refine ⟨⟨_, rfl, ?_, ⟨?_⟩⟩, hb⟩
  · rw [mk_size, dec_eq]
    exact digB_len 10 (by omega) _ 8 (by omega)
  · rw [← dec_eq]
theorem pre_0 (n : Nat) (z D : ByteArray) (hz : z.data.toList = fourPre n 0) (hD : D.data.toList = digB 10 ((n : Int) / 16777216).toNat) : (z ++ D).data.toList = fourPre n 1 := by
  rw [dat_cat, hz, hD, show ((n : Int) / 16777216).toNat = n / 16777216 by omega]
  rfl
theorem dat_dot (z D : ByteArray) : (z ++ ⟨#[46]⟩ ++ D).data.toList = z.data.toList ++ 46 :: D.data.toList := by
  rw [dat_cat, dat_cat, List.append_assoc]
  rfl
theorem pre_1 (n : Nat) (z D : ByteArray) (hz : z.data.toList = fourPre n 1) (hD : D.data.toList = digB 10 ((n : Int) / 65536 % 256).toNat) : (z ++ ⟨#[46]⟩ ++ D).data.toList = fourPre n 2 := by
  rw [dat_dot, hz, hD, show ((n : Int) / 65536 % 256).toNat = n / 65536 % 256 by omega]
  rfl
theorem pre_2 (n : Nat) (z D : ByteArray) (hz : z.data.toList = fourPre n 2) (hD : D.data.toList = digB 10 ((n : Int) / 256 % 256).toNat) : (z ++ ⟨#[46]⟩ ++ D).data.toList = fourPre n 3 := by
  rw [dat_dot, hz, hD, show ((n : Int) / 256 % 256).toNat = n / 256 % 256 by omega]
  simp [fourPre]
theorem pre_3 (n : Nat) (z D : ByteArray) (hz : z.data.toList = fourPre n 3) (hD : D.data.toList = digB 10 ((n : Int) % 256).toNat) : (z ++ ⟨#[46]⟩ ++ D).data.toList = fourPre n 4 := by
  rw [dat_dot, hz, hD, show ((n : Int) % 256).toNat = n % 256 by omega]
  simp [fourPre, fourT]

theorem idx4 (a b c d : Value) (j : Nat) (hj : j < 4) (w : World) : (Instr.index 132 (.agg #[a, b, c, d]) (.int .i64 j)).run Tryz.prog w = .ok (#[a, b, c, d].getD j undef) w := by
  have hs := Tryz.sizeOf5
  have ha := Tryz.isAgg5
  have h4 : (0 : Int) ≤ (j : Int) ∧ (j : Int) < ((4 : Nat) : Int) := by omega
  have hj4 : j = 0 ∨ j = 1 ∨ j = 2 ∨ j = 3 := by omega
  rcases hj4 with rfl | rfl | rfl | rfl <;> simp [Instr.index, run_underlying Tryz.underlying132, asIntOf, go_sem, part, hs, ha]
set_option maxHeartbeats 1000000 in
set_option maxRecDepth 100000 in
theorem Text_calls (n : Nat) (hn : n < 4294967296) (w : World) (hP : Aside0 (Pows w)) :
    Calls Tryz.prog 84 #[.int .u32 n] w fun e w' => e = .returned (.string (fourB n)) ∧ Below w.heap.size w w' := by
  go_enter Tryz.func84, Tryz.ntmps84
  go_wp2_with fail
  refine (Bytes_calls n (by omega) (by omega) _).mono ?_
  rintro e w1 ⟨rfl, b1⟩
  have HB := Aside0.mk b1
  clear b1
  go_wp2_with fail
  go_loopw [3, 8] (fun ss i wr => ∃ (j : Nat) (z : ByteArray), i = .int .i64 j ∧ ss = .string z ∧ j ≤ 4 ∧ z.size ≤ 20 * j ∧ Aside0 (z.data.toList = fourPre n j) ∧ Aside0 (Below w.heap.size w wr)) (fun _ i _ => 4 - (intOf i).toNat)
  case atStart => exact ⟨0, _, rfl, rfl, by omega, by decide, ⟨rfl⟩, ⟨HB.out⟩⟩
  case round =>
    obtain ⟨j, z, rfl, rfl, hj, hz, hd, hbw⟩ := hrel
    by_cases hlt : j < 4
    · have q0 := idx4 (.int .u8 ((n : Int) / 16777216)) (.int .u8 ((n : Int) / 65536 % 256)) (.int .u8 ((n : Int) / 256 % 256)) (.int .u8 ((n : Int) % 256)) 0 (by omega)
      have q1 := idx4 (.int .u8 ((n : Int) / 16777216)) (.int .u8 ((n : Int) / 65536 % 256)) (.int .u8 ((n : Int) / 256 % 256)) (.int .u8 ((n : Int) % 256)) 1 (by omega)
      have q2 := idx4 (.int .u8 ((n : Int) / 16777216)) (.int .u8 ((n : Int) / 65536 % 256)) (.int .u8 ((n : Int) / 256 % 256)) (.int .u8 ((n : Int) % 256)) 2 (by omega)
      have q3 := idx4 (.int .u8 ((n : Int) / 16777216)) (.int .u8 ((n : Int) / 65536 % 256)) (.int .u8 ((n : Int) / 256 % 256)) (.int .u8 ((n : Int) % 256)) 3 (by omega)
      simp only [Int.cast_ofNat_Int, Array.getD_eq_getD_getElem?] at q0 q1 q2 q3
      have hj4 : j = 0 ∨ j = 1 ∨ j = 2 ∨ j = 3 := by omega
      rcases hj4 with rfl | rfl | rfl | rfl
      · go_wp2_with fail
        refine (Byte10_calls _ (by omega) (by omega) _ (hP.out.stays hbw.out)).mono ?_
        rintro e w2 ⟨⟨D, rfl, hDs, hDd⟩, b2⟩
        have B2 := Aside0.mk (below_then hbw.out hbw.out.size b2)
        clear b2
        go_wp2_with fail
        go_roundw
        case rel => exact ⟨1, _, rfl, rfl, by omega, sz_cat z D 0 9 20 hz hDs (by omega), ⟨pre_0 n z D hd.out hDd.out⟩, B2⟩
        case measure => simp [intOf]
      · go_wp2_with fail
        refine (Byte10_calls _ (by omega) (by omega) _ (hP.out.stays hbw.out)).mono ?_
        rintro e w2 ⟨⟨D, rfl, hDs, hDd⟩, b2⟩
        have B2 := Aside0.mk (below_then hbw.out hbw.out.size b2)
        clear b2
        go_wp2_with fail
        go_roundw
        case rel => exact ⟨2, _, rfl, rfl, by omega, sz_cat _ D 21 9 40 (sz_cat z ⟨#[46]⟩ 20 1 21 hz (by decide) (by omega)) hDs (by omega), ⟨pre_1 n z D hd.out hDd.out⟩, B2⟩
        case measure => simp [intOf]
      · go_wp2_with fail
        refine (Byte10_calls _ (by omega) (by omega) _ (hP.out.stays hbw.out)).mono ?_
        rintro e w2 ⟨⟨D, rfl, hDs, hDd⟩, b2⟩
        have B2 := Aside0.mk (below_then hbw.out hbw.out.size b2)
        clear b2
        go_wp2_with fail
        go_roundw
        case rel => exact ⟨3, _, rfl, rfl, by omega, sz_cat _ D 41 9 60 (sz_cat z ⟨#[46]⟩ 40 1 41 hz (by decide) (by omega)) hDs (by omega), ⟨pre_2 n z D hd.out hDd.out⟩, B2⟩
        case measure => simp [intOf]
      · go_wp2_with fail
        refine (Byte10_calls _ (by omega) (by omega) _ (hP.out.stays hbw.out)).mono ?_
        rintro e w2 ⟨⟨D, rfl, hDs, hDd⟩, b2⟩
        have B2 := Aside0.mk (below_then hbw.out hbw.out.size b2)
        clear b2
        go_wp2_with fail
        go_roundw
        case rel => exact ⟨4, _, rfl, rfl, by omega, sz_cat _ D 61 9 80 (sz_cat z ⟨#[46]⟩ 60 1 61 hz (by decide) (by omega)) hDs (by omega), ⟨pre_3 n z D hd.out hDd.out⟩, B2⟩
        case measure => simp [intOf]
    · obtain rfl : j = 4 := by omega
      go_wp2_with fail
      go_ret
      exact ⟨congrArg (fun s => Ending.returned (.string s)) (bytes_of z _ hd.out), hbw.out⟩

set_option maxHeartbeats 1000000 in
theorem rText4_calls (n : Nat) (hn : n < 4294967296) (w : World) (hP : Aside0 (Pows w)) :
    Calls Tryz.prog 88 #[.int .u32 n] w fun e w' => e = .returned (.string (fourB n)) ∧ Below w.heap.size w w' := by
  go_enter Tryz.func88, Tryz.ntmps88
  go_wp2_with fail
  refine (Byte10_calls _ (by omega) (by omega) _ hP.out).mono ?_
  rintro e w1 ⟨⟨D1, rfl, hD1, hd1⟩, b1⟩
  have B1 := Aside0.mk b1
  clear b1
  go_wp2_with fail
  refine (Byte10_calls _ (by omega) (by omega) _ (hP.out.stays B1.out)).mono ?_
  rintro e w2 ⟨⟨D2, rfl, hD2, hd2⟩, b2⟩
  have B2 := Aside0.mk (below_then B1.out B1.out.size b2)
  have s1 : (D1 ++ ⟨#[46]⟩).size ≤ 20 := sz_cat D1 _ 9 1 20 hD1 (by decide) (by omega)
  have s2 : (D1 ++ ⟨#[46]⟩ ++ D2).size ≤ 40 := sz_cat _ D2 20 9 40 s1 hD2 (by omega)
  have s3 : (D1 ++ ⟨#[46]⟩ ++ D2 ++ ⟨#[46]⟩).size ≤ 60 := sz_cat _ _ 40 1 60 s2 (by decide) (by omega)
  clear b2
  go_wp2_with fail
  refine (Byte10_calls _ (by omega) (by omega) _ (hP.out.stays B2.out)).mono ?_
  rintro e w3 ⟨⟨D3, rfl, hD3, hd3⟩, b3⟩
  have B3 := Aside0.mk (below_then B2.out B2.out.size b3)
  have s4 : (D1 ++ ⟨#[46]⟩ ++ D2 ++ ⟨#[46]⟩ ++ D3).size ≤ 80 := sz_cat _ D3 60 9 80 s3 hD3 (by omega)
  have s5 : (D1 ++ ⟨#[46]⟩ ++ D2 ++ ⟨#[46]⟩ ++ D3 ++ ⟨#[46]⟩).size ≤ 100 := sz_cat _ _ 80 1 100 s4 (by decide) (by omega)
  clear b3
  go_wp2_with fail
  refine (Byte10_calls _ (by omega) (by omega) _ (hP.out.stays B3.out)).mono ?_
  rintro e w4 ⟨⟨D4, rfl, hD4, hd4⟩, b4⟩
  have B4 := Aside0.mk (below_then B3.out B3.out.size b4)
  clear b4
  go_wp2_with fail
  go_ret
  refine ⟨congrArg (fun s => Ending.returned (.string s)) (bytes_of _ _ ?_), B4.out⟩
  refine pre_3 n _ D4 (pre_2 n _ D3 (pre_1 n D1 D2 ?_ hd2.out) hd3.out) hd4.out
  rw [hd1.out, show ((n : Int) / 16777216).toNat = n / 16777216 by omega]
  rfl
end Go.Proofs.YtfieiigefllekaaGreatDoor

/- The chapter's examples of layer 4, walked. -/
namespace Go.Proofs.YtfieiigefllekaaGreatDoor
open Go.RowKit Go.Proofs.YtfieiigefllekaaGreatDoorW.PrintWords Go.Proofs.YtfieiigefllekaaGreatDoorW.PrintMore

theorem four_x1 : fourN [48, 120, 55, 102, 46, 49] = 2130706433 ∧ fourOk [48, 120, 55, 102, 46, 49] = true := by decide +kernel
theorem four_x2 : fourOk [49, 46, 50, 46, 51, 46, 50, 53, 54] = false := by decide +kernel
theorem four_x3 : fourN [50, 53, 54] = 256 ∧ fourOk [50, 53, 54] = true := by decide +kernel
theorem AwakeL3_calls (w : World) : Calls Tryz.prog 110 #[] w fun e w' => e = .returned (.bool true) ∧ Below w.heap.size w w' := by
  go_enter Tryz.func110, Tryz.ntmps110
  go_wp2_with fail
  refine (awake3_calls _).mono ?_
  rintro e w1 ⟨rfl, hb⟩
  go_wp2
  go_ret
  exact ⟨rfl, hb⟩
set_option maxHeartbeats 1000000 in
theorem awake4_calls (w : World) : Calls Tryz.prog 90 #[] w fun e w' => e = .returned (.bool true) ∧ Below w.heap.size w w' := by
  go_enter Tryz.func90, Tryz.ntmps90
  go_wp2_with fail
  refine (Four_calls _ _ (by decide)).mono ?_
  rintro e w1 ⟨rfl, b1⟩
  rw [show (ByteArray.mk #[48, 120, 55, 102, 46, 49]).data.toList = [48, 120, 55, 102, 46, 49] from rfl, four_x1.1, four_x1.2]
  go_wp2_with fail
  refine (Four_calls _ _ (by decide)).mono ?_
  rintro e w2 ⟨rfl, b2⟩
  rw [show (ByteArray.mk #[49, 46, 50, 46, 51, 46, 50, 53, 54]).data.toList = [49, 46, 50, 46, 51, 46, 50, 53, 54] from rfl, four_x2]
  go_wp2_with fail
  refine (Four_calls _ _ (by decide)).mono ?_
  rintro e w3 ⟨rfl, b3⟩
  rw [show (ByteArray.mk #[50, 53, 54]).data.toList = [50, 53, 54] from rfl, four_x3.1, four_x3.2]
  go_wp2_with fail
  refine (AwakeL3_calls _).mono ?_
  rintro e w4 ⟨rfl, b4⟩
  have B2 := Aside0.mk (below_then b1 b1.size b2)
  have B3 := Aside0.mk (below_then B2.out B2.out.size b3)
  have B4 := Aside0.mk (below_then B3.out B3.out.size b4)
  clear b1 b2 b3 b4
  go_wp2_with fail
  refine (Of_calls 127 0 0 1 (by omega) (by omega) (by omega) (by omega) _).mono ?_
  rintro e w5 ⟨rfl, rfl⟩
  simp only [Int.reduceMul, Int.reduceAdd]
  go_wp2_with fail
  refine (Of_calls 0 0 1 0 (by omega) (by omega) (by omega) (by omega) _).mono ?_
  rintro e w6 ⟨rfl, rfl⟩
  simp only [Int.reduceMul, Int.reduceAdd]
  go_wp2_with fail
  go_ret
  exact ⟨rfl, B4.out⟩
end Go.Proofs.YtfieiigefllekaaGreatDoor
