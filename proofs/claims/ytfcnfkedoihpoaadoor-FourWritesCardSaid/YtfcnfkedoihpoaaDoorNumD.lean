/- A number, printed to a base, is read as it was: plain Lean. -/
import Derived.Test.YtfcnfkedoihpoaaDoorDecP
import Derived.Test.YtfcnfkedoihpoaaDoorEndsP
import Derived.Lib.ItoaNum
namespace Go.Proofs.YtfcnfkedoihpoaaDoor
open Go.RowKit Go.Proofs.YtfcnfkedoihpoaaDoorW.PrintWords

def hexCh (d : Nat) : UInt8 := if d < 10 then UInt8.ofNat (48 + d) else UInt8.ofNat (87 + d)
theorem hexCh_fin : ∀ d : Fin 16, hexV ((hexCh d.val).toNat : Int) = (d.val : Int) ∧ hexCh d.val ≠ 46 ∧ hexCh d.val ≠ 120 ∧ hexCh d.val ≠ 88 ∧ (d.val ≠ 0 → hexCh d.val ≠ 48) ∧ (d.val < 10 → ((hexCh d.val).toNat : Int) = 48 + d.val) := by decide +kernel
theorem hexCh_val (d : Nat) (h : d < 16) : hexV ((hexCh d).toNat : Int) = (d : Int) := (hexCh_fin ⟨d, h⟩).1
/-- A number's digits to a base. -/
def digB (b u : Nat) : List UInt8 :=
  if _h : u < b ∨ b < 2 then [hexCh u] else digB b (u / b) ++ [hexCh (u % b)]
termination_by u
decreasing_by
  apply Nat.div_lt_self <;> omega
theorem digB_small {b u : Nat} (h : u < b) : digB b u = [hexCh u] := by rw [digB, dif_pos (.inl h)]
theorem digB_big {b u : Nat} (hb : 2 ≤ b) (h : b ≤ u) : digB b u = digB b (u / b) ++ [hexCh (u % b)] := by
  rw [digB, dif_neg (by omega)]
theorem digB_ind (b : Nat) (hb : 2 ≤ b) (P : Nat → Prop) (h0 : ∀ u, u < b → P u) (h1 : ∀ u, b ≤ u → P (u / b) → P u) : ∀ u, P u := by
  intro u
  induction u using Nat.strongRecOn with
  | ind u ih =>
    rcases Nat.lt_or_ge u b with h | h
    · exact h0 u h
    · exact h1 u h (ih _ (Nat.div_lt_self (by omega) (by omega)))
theorem dec_eq (u : Nat) : Lib.decDigits u = digB 10 u := by
  refine digB_ind 10 (by omega) (fun u => Lib.decDigits u = digB 10 u) (fun u h => ?_) (fun u h ih => ?_) u
  · rw [Lib.decDigits, dif_pos h, digB_small h, hexCh, if_pos h]
  · rw [Lib.decDigits, dif_neg (by omega), digB_big (by omega) h, ih, hexCh, if_pos (by omega)]
theorem digB_ne (b u : Nat) : digB b u ≠ [] := by
  rw [digB]
  split <;> simp
theorem digB_mem (b : Nat) (hb : 2 ≤ b) (u : Nat) : ∀ c ∈ digB b u, ∃ d, d < b ∧ c = hexCh d := by
  refine digB_ind b hb (fun u => ∀ c ∈ digB b u, ∃ d, d < b ∧ c = hexCh d) (fun u h => ?_) (fun u h ih => ?_) u
  · rw [digB_small h]
    intro c hc
    exact ⟨u, h, by simpa using hc⟩
  · rw [digB_big hb h]
    intro c hc
    rcases List.mem_append.1 hc with hc | hc
    · exact ih c hc
    · exact ⟨u % b, Nat.mod_lt _ (by omega), by simpa using hc⟩
/-- No nought ahead. -/
theorem digB_head (b : Nat) (hb : 2 ≤ b) (hb1 : b ≤ 16) (u : Nat) : 1 ≤ u → ∃ c r, digB b u = c :: r ∧ c ≠ 48 := by
  refine digB_ind b hb (fun u => 1 ≤ u → ∃ c r, digB b u = c :: r ∧ c ≠ 48) (fun u h h1 => ?_) (fun u h ih h1 => ?_) u
  · exact ⟨hexCh u, [], digB_small h, (hexCh_fin ⟨u, by omega⟩).2.2.2.2.1 (by simp; omega)⟩
  · obtain ⟨c, r, e, hc⟩ := ih (Nat.div_pos h (by omega))
    exact ⟨c, r ++ [hexCh (u % b)], by rw [digB_big hb h, e]; rfl, hc⟩
theorem accN_append (b : Int) (ys : List Int) : ∀ (xs : List Int) (m : Int), accN b m (xs ++ ys) = (accN b m xs).bind fun n => accN b n ys
  | [], m => rfl
  | r :: rs, m => by
    rw [List.cons_append, accN, accN]
    split
    · rfl
    · exact accN_append b ys rs _
theorem accD_append (ys : List Int) : ∀ (xs : List Int) (m : Int), accD m (xs ++ ys) = accD (accD m xs) ys
  | [], m => rfl
  | r :: rs, m => by
    rw [List.cons_append, accD, accD]
    exact accD_append ys rs _
theorem acc_one (b : Nat) (hb : 2 ≤ b) (hb1 : b ≤ 16) (m : Int) (d : Nat) (hd : d < b) : accN b m (intsOf [hexCh d]) = some (min (m * b + d) 1099511627776) := by
  rw [show intsOf [hexCh d] = [((hexCh d).toNat : Int)] from rfl, accN, hexCh_val d (by omega), if_neg (by omega)]
  rfl
theorem acc_dig (b : Nat) (hb : 2 ≤ b) (hb1 : b ≤ 16) (u : Nat) : accN b 0 (intsOf (digB b u)) = some (min (u : Int) 1099511627776) := by
  refine digB_ind b hb (fun u => accN b 0 (intsOf (digB b u)) = some (min (u : Int) 1099511627776)) (fun u h => ?_) (fun u h ih => ?_) u
  · rw [digB_small h, acc_one b hb hb1 0 u h]
    congr 1
    omega
  · rw [digB_big hb h, intsOf_append, accN_append, ih]
    show accN b _ _ = _
    rw [acc_one b hb hb1 _ _ (Nat.mod_lt _ (by omega))]
    congr 1
    have e : b * (u / b) + u % b = u := Nat.div_add_mod u b
    generalize u / b = q at e ⊢
    generalize u % b = r at e ⊢
    have e' : (b : Int) * (q : Int) + (r : Int) = (u : Int) := by exact_mod_cast e
    rcases Int.lt_or_le (q : Int) 1099511627776 with hq | hq
    · rw [show min (q : Int) 1099511627776 = q by omega, Int.mul_comm, e']
    · rw [show min (q : Int) 1099511627776 = 1099511627776 by omega]
      have h1 : (2 : Int) * (q : Int) ≤ (b : Int) * (q : Int) := Int.mul_le_mul_of_nonneg_right (by omega) (by omega)
      omega
theorem decV_dig (u : Nat) : decV (digB 10 u) = u := by
  refine digB_ind 10 (by omega) (fun u => decV (digB 10 u) = u) (fun u h => ?_) (fun u h ih => ?_) u
  · rw [digB_small h, decV, show intsOf [hexCh u] = [((hexCh u).toNat : Int)] from rfl, accD, accD, (hexCh_fin ⟨u, by omega⟩).2.2.2.2.2 h]
    show 10 * 0 + (48 + (u : Int) - 48) = u
    omega
  · rw [digB_big (by omega) h, decV, intsOf_append, accD_append, show accD 0 (intsOf (digB 10 (u / 10))) = _ from ih, show intsOf [hexCh (u % 10)] = [((hexCh (u % 10)).toNat : Int)] from rfl, accD, accD, (hexCh_fin ⟨u % 10, by omega⟩).2.2.2.2.2 (by simp; omega)]
    show 10 * ((u / 10 : Nat) : Int) + (48 + ((u % 10 : Nat) : Int) - 48) = u
    omega
theorem digits_dig (u : Nat) : digitsL (digB 10 u) = true := by
  rw [digitsL, show (digB 10 u).isEmpty = false by simpa using digB_ne 10 u]
  simp only [Bool.not_false, Bool.true_and]
  rw [List.all_eq_true]
  intro x hx
  obtain ⟨c, hc, rfl⟩ := List.mem_map.1 hx
  obtain ⟨d, hd, rfl⟩ := digB_mem 10 (by omega) u c hc
  rw [isDig_iff, (hexCh_fin ⟨d, by omega⟩).2.2.2.2.2 hd]
  show 48 ≤ 48 + (d : Int) ∧ 48 + (d : Int) ≤ 57
  omega
theorem plain_dig (u : Nat) : plainD (digB 10 u) = true := by
  rw [plainD, digits_dig, Bool.true_and]
  rcases Nat.eq_zero_or_pos u with rfl | h
  · rw [digB_small (by omega)]
    rfl
  · obtain ⟨c, r, e, hc⟩ := digB_head 10 (by omega) (by omega) u h
    rw [e]
    simp [hc]
theorem plain_nought (u : Nat) : plainD (48 :: digB 10 u) = false := by
  rw [plainD]
  have : 1 < (48 :: digB 10 u).length := by
    have := List.length_pos_iff.2 (digB_ne 10 u)
    rw [List.length_cons]
    omega
  rw [show decide (1 < (48 :: digB 10 u).length) = true by simpa using this]
  simp
theorem parse_dec (u : Nat) : parseL (digB 10 u) = some (min (u : Int) 1099511627776) := by
  have hbase : baseL (digB 10 u) = (10, digB 10 u) := by
    rcases Nat.eq_zero_or_pos u with rfl | h
    · rw [digB_small (by omega)]
      exact baseL_short _ (by simp)
    · obtain ⟨c, r, e, hc⟩ := digB_head 10 (by omega) (by omega) u h
      rw [e]
      exact baseL_not c r (fun h => hc (UInt8.toNat_inj.1 h))
  rw [parseL, if_neg (digB_ne 10 u), hbase]
  exact acc_dig 10 (by omega) (by omega) u
theorem parse_oct (u : Nat) : parseL (48 :: digB 8 u) = some (min (u : Int) 1099511627776) := by
  obtain ⟨c, r, e⟩ : ∃ c r, digB 8 u = c :: r := by
    rcases h : digB 8 u with _ | ⟨c, r⟩
    · exact absurd h (digB_ne 8 u)
    · exact ⟨c, r, rfl⟩
  obtain ⟨d, hd, hc⟩ := digB_mem 8 (by omega) u c (by rw [e]; exact List.mem_cons_self)
  have hf := hexCh_fin ⟨d, by omega⟩
  have hbase : baseL (48 :: digB 8 u) = (8, digB 8 u) := by
    rw [e]
    refine baseL_oct 48 c r rfl (fun h => ?_) (fun h => ?_)
    · exact hf.2.2.1 (by rw [hc] at h; exact UInt8.toNat_inj.1 h)
    · exact hf.2.2.2.1 (by rw [hc] at h; exact UInt8.toNat_inj.1 h)
  rw [parseL, if_neg (by simp), hbase]
  exact acc_dig 8 (by omega) (by omega) u
theorem parse_hex (u : Nat) (x : UInt8) (hx : x = 120 ∨ x = 88) : parseL (48 :: x :: digB 16 u) = some (min (u : Int) 1099511627776) := by
  have hbase : baseL (48 :: x :: digB 16 u) = (16, digB 16 u) := baseL_hex 48 x _ rfl (hx.elim (fun h => .inl (by rw [h]; rfl)) (fun h => .inr (by rw [h]; rfl)))
  rw [parseL, if_neg (by simp), hbase]
  exact acc_dig 16 (by omega) (by omega) u
/-- A text without a point is one part. -/
theorem split_none : ∀ (l : List UInt8), (∀ c ∈ l, c ≠ 46) → splitL (isAt ⟨#[46]⟩) l = [l]
  | [], _ => rfl
  | c :: r, h => by
    have hc : isAt ⟨#[46]⟩ c = false := by
      rw [dot_at]
      simpa using h c List.mem_cons_self
    rw [splitL, if_neg (by rw [hc]; decide), split_none r (fun x hx => h x (List.mem_cons_of_mem _ hx))]
theorem digB_dot (b : Nat) (hb : 2 ≤ b) (hb1 : b ≤ 16) (u : Nat) : ∀ c ∈ digB b u, c ≠ 46 := by
  intro c hc
  obtain ⟨d, hd, rfl⟩ := digB_mem b hb u c hc
  exact (hexCh_fin ⟨d, by omega⟩).2.1
theorem ends_dec (u : Nat) : endsL (digB 10 u) = true := by
  rw [ends_of _ [] _ (digB_ne 10 u) (split_none _ (digB_dot 10 (by omega) (by omega) u)), lastOk, parseOk, parse_dec]
  rfl
theorem ends_hex (u : Nat) (x : UInt8) (hx : x = 120 ∨ x = 88) : endsL (97 :: 46 :: 48 :: x :: (digB 16 u ++ [46])) = true := by
  have hs : splitL (isAt ⟨#[46]⟩) (97 :: 46 :: 48 :: x :: digB 16 u) = [[97]] ++ [48 :: x :: digB 16 u] := by
    have e := split_none (48 :: x :: digB 16 u) (by
      intro c hc
      rcases List.mem_cons.1 hc with rfl | hc
      · decide
      · rcases List.mem_cons.1 hc with rfl | hc
        · rcases hx with rfl | rfl <;> decide
        · exact digB_dot 16 (by omega) (by omega) u c hc)
    rw [splitL, if_neg (by rw [dot_at]; decide), splitL, if_pos (by rw [dot_at]; rfl), e]
    rfl
  have := ends_point _ _ _ hs
  rw [show 97 :: 46 :: 48 :: x :: (digB 16 u ++ [46]) = (97 :: 46 :: 48 :: x :: digB 16 u) ++ [46] from rfl, this, lastOk, parseOk, parse_hex u x hx]
  rfl
theorem digB_len (b : Nat) (hb : 2 ≤ b) (u : Nat) : ∀ k, u < 2 ^ k → (digB b u).length ≤ k + 1 := by
  refine digB_ind b hb (fun u => ∀ k, u < 2 ^ k → (digB b u).length ≤ k + 1) (fun u h k _ => ?_) (fun u h ih k hk => ?_) u
  · rw [digB_small h]
    simp
  · rw [digB_big hb h, List.length_append, List.length_singleton]
    rcases k with _ | k
    · simp at hk
      omega
    · have h1 : u / b ≤ u / 2 := Nat.div_le_div_left hb (by omega)
      have h2 : u / 2 < 2 ^ k := by rw [Nat.pow_succ] at hk; omega
      have := ih k (by omega)
      omega
end Go.Proofs.YtfcnfkedoihpoaaDoor
