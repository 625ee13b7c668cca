/- Addresses of either sort: made, compared; walked. -/
import Derived.Test.YtfieiigefllekaaGreatDoorJF
import Derived.Test.YtfieiigefllekaaGreatDoorZSixWide
import Derived.Test.YtfieiigefllekaaGreatDoorJI
namespace Go.Proofs.YtfieiigefllekaaGreatDoor
open Go.RowKit Go.Proofs.YtfieiigefllekaaGreatDoorW.PrintWords Go.Proofs.YtfieiigefllekaaGreatDoorW.PrintMore

/-- An address: of eight pieces its halves; of four bytes its number. -/
def adV : Bool × Int × Int → Value
  | (true, hi, lo) => .iface 25 (.agg #[.int .u64 hi, .int .u64 lo])
  | (false, _, n) => .iface 57 (.int .u32 n)
def adHi : Bool × Int × Int → Int
  | (true, hi, _) => hi
  | (false, _, _) => 0
def adLo : Bool × Int × Int → Int
  | (true, _, lo) => lo
  | (false, _, n) => 281470681743360 + n
def adRank : Bool × Int × Int → Int
  | (true, _, _) => 2
  | (false, _, _) => 1
def adOk : Bool × Int × Int → Prop
  | (true, hi, lo) => (0 ≤ hi ∧ hi < 18446744073709551616) ∧ 0 ≤ lo ∧ lo < 18446744073709551616
  | (false, hi, n) => hi = 0 ∧ 0 ≤ n ∧ n < 4294967296
def cmpI (a b : Int) : Int := if a < b then -1 else if b < a then 1 else 0
def orI (x y z : Int) : Int := if x ≠ 0 then x else if y ≠ 0 then y else z
def cmpA (a b : Bool × Int × Int) : Int := orI (cmpI (adHi a) (adHi b)) (cmpI (adLo a) (adLo b)) (cmpI (adRank a) (adRank b))

theorem Make_calls (is : Bool) (hi lo : Int) (_h0 : 0 ≤ hi ∧ hi < 18446744073709551616) (_h1 : 0 ≤ lo ∧ lo < 18446744073709551616) (w : World) :
    Calls Tryz.prog 29 #[.bool is, .int .u64 hi, .int .u64 lo] w fun e w' => e = .returned (adV (is, if is = true then hi else 0, if is = true then lo else lo % 4294967296)) ∧ w' = w := by
  cases is
  · go_enter Tryz.func29, Tryz.ntmps29
    go_wp2_with fail
    go_ret
    exact ⟨rfl, rfl⟩
  · go_enter Tryz.func29, Tryz.ntmps29
    go_wp2_with fail
    go_ret
    exact ⟨rfl, rfl⟩
theorem nanU_calls (a : Int) (w : World) : Calls Tryz.prog 102 #[.int .u64 a] w fun e w' => e = .returned (.bool false) ∧ w' = w := by
  go_enter Tryz.func102, Tryz.ntmps102
  go_wp2_with fail
  go_ret
  exact ⟨rfl, rfl⟩
theorem cmpU_calls (a b : Int) (w : World) : Calls Tryz.prog 76 #[.int .u64 a, .int .u64 b] w fun e w' => e = .returned (.int .i64 (cmpI a b)) ∧ w' = w := by
  rcases Int.lt_trichotomy a b with h | h | h
  · have E := Lib.hid (show cmpI a b = -1 from if_pos h)
    go_enter Tryz.func76, Tryz.ntmps76
    go_wp2_with fail
    refine (nanU_calls _ _).mono ?_
    rintro e w1 ⟨rfl, rfl⟩
    go_wp2_with fail
    refine (nanU_calls _ _).mono ?_
    rintro e w1 ⟨rfl, rfl⟩
    go_wp2_with fail
    go_ret
    exact ⟨ret_int E.out.symm, rfl⟩
  · subst h
    have E := Lib.hid (show cmpI a a = 0 by rw [cmpI, if_neg (Int.lt_irrefl a), if_neg (Int.lt_irrefl a)])
    go_enter Tryz.func76, Tryz.ntmps76
    go_wp2_with fail
    refine (nanU_calls _ _).mono ?_
    rintro e w1 ⟨rfl, rfl⟩
    go_wp2_with fail
    refine (nanU_calls _ _).mono ?_
    rintro e w1 ⟨rfl, rfl⟩
    go_wp2_with fail
    go_ret
    exact ⟨ret_int E.out.symm, rfl⟩
  · have E := Lib.hid (show cmpI a b = 1 by rw [cmpI, if_neg (by omega), if_pos h])
    have h' : ¬ a < b := by omega
    go_enter Tryz.func76, Tryz.ntmps76
    go_wp2_with fail
    refine (nanU_calls _ _).mono ?_
    rintro e w1 ⟨rfl, rfl⟩
    go_wp2_with fail
    refine (nanU_calls _ _).mono ?_
    rintro e w1 ⟨rfl, rfl⟩
    go_wp2_with fail
    go_ret
    exact ⟨ret_int E.out.symm, rfl⟩
theorem nanN_calls (a : Int) (w : World) : Calls Tryz.prog 101 #[.int .i64 a] w fun e w' => e = .returned (.bool false) ∧ w' = w := by
  go_enter Tryz.func101, Tryz.ntmps101
  go_wp2_with fail
  go_ret
  exact ⟨rfl, rfl⟩
theorem cmpN_calls (a b : Int) (w : World) : Calls Tryz.prog 73 #[.int .i64 a, .int .i64 b] w fun e w' => e = .returned (.int .i64 (cmpI a b)) ∧ w' = w := by
  rcases Int.lt_trichotomy a b with h | h | h
  · have E := Lib.hid (show cmpI a b = -1 from if_pos h)
    go_enter Tryz.func73, Tryz.ntmps73
    go_wp2_with fail
    refine (nanN_calls _ _).mono ?_
    rintro e w1 ⟨rfl, rfl⟩
    go_wp2_with fail
    refine (nanN_calls _ _).mono ?_
    rintro e w1 ⟨rfl, rfl⟩
    go_wp2_with fail
    go_ret
    exact ⟨ret_int E.out.symm, rfl⟩
  · subst h
    have E := Lib.hid (show cmpI a a = 0 by rw [cmpI, if_neg (Int.lt_irrefl a), if_neg (Int.lt_irrefl a)])
    go_enter Tryz.func73, Tryz.ntmps73
    go_wp2_with fail
    refine (nanN_calls _ _).mono ?_
    rintro e w1 ⟨rfl, rfl⟩
    go_wp2_with fail
    refine (nanN_calls _ _).mono ?_
    rintro e w1 ⟨rfl, rfl⟩
    go_wp2_with fail
    go_ret
    exact ⟨ret_int E.out.symm, rfl⟩
  · have E := Lib.hid (show cmpI a b = 1 by rw [cmpI, if_neg (by omega), if_pos h])
    have h' : ¬ a < b := by omega
    go_enter Tryz.func73, Tryz.ntmps73
    go_wp2_with fail
    refine (nanN_calls _ _).mono ?_
    rintro e w1 ⟨rfl, rfl⟩
    go_wp2_with fail
    refine (nanN_calls _ _).mono ?_
    rintro e w1 ⟨rfl, rfl⟩
    go_wp2_with fail
    go_ret
    exact ⟨ret_int E.out.symm, rfl⟩
set_option maxHeartbeats 2000000 in
theorem orN_calls (x y z : Int) (b : Nat) (w : World) (c0 : w.cell? ⟨b, 0, none⟩ = some (.int .i64 x)) (c1 : w.cell? ⟨b, 1, none⟩ = some (.int .i64 y)) (c2 : w.cell? ⟨b, 2, none⟩ = some (.int .i64 z)) :
    Calls Tryz.prog 75 #[.slice (some ⟨b, 0, none⟩) 3 3] w fun e w' => e = .returned (.int .i64 (orI x y z)) ∧ w' = w := by
  go_enter Tryz.func75, Tryz.ntmps75
  go_wp2_with fail
  go_loop [8] (fun i => ∃ j : Nat, i = .int .i64 j ∧ j ≤ 3 ∧ Aside0 ((0 < j → x = 0) ∧ (1 < j → y = 0) ∧ (2 < j → z = 0))) (fun i => 3 - (intOf i).toNat)
  case atStart => exact ⟨0, rfl, by omega, ⟨⟨by omega, by omega, by omega⟩⟩⟩
  case round =>
    obtain ⟨j, rfl, hj, hp⟩ := hrel
    have hj4 : j = 0 ∨ j = 1 ∨ j = 2 ∨ j = 3 := by omega
    rcases hj4 with rfl | rfl | rfl | rfl
    · by_cases hz : x = 0
      · have HZ := Lib.hid hz
        rw [hz] at c0
        clear hz
        go_wp2_with fail
        exact ⟨⟨1, by go_num, by omega, ⟨⟨fun _ => HZ.out, by omega, by omega⟩⟩⟩, by simp [intOf]⟩
      · have E := Lib.hid (show x = orI x y z by rw [orI, if_pos hz])
        go_wp2_with fail
        go_ret
        exact ⟨ret_int E.out, rfl⟩
    · by_cases hz : y = 0
      · have HZ := Lib.hid hz
        rw [hz] at c1
        clear hz
        go_wp2_with fail
        exact ⟨⟨2, by go_num, by omega, ⟨⟨fun _ => hp.out.1 (by omega), fun _ => HZ.out, by omega⟩⟩⟩, by simp [intOf]⟩
      · have E := Lib.hid (show y = orI x y z by rw [orI, if_neg (by rw [hp.out.1 (by omega)]; simp), if_pos hz])
        go_wp2_with fail
        go_ret
        exact ⟨ret_int E.out, rfl⟩
    · by_cases hz : z = 0
      · have HZ := Lib.hid hz
        rw [hz] at c2
        clear hz
        go_wp2_with fail
        exact ⟨⟨3, by go_num, by omega, ⟨⟨fun _ => hp.out.1 (by omega), fun _ => hp.out.2.1 (by omega), fun _ => HZ.out⟩⟩⟩, by simp [intOf]⟩
      · have E := Lib.hid (show z = orI x y z by rw [orI, if_neg (by rw [hp.out.1 (by omega)]; simp), if_neg (by rw [hp.out.2.1 (by omega)]; simp)])
        go_wp2_with fail
        go_ret
        exact ⟨ret_int E.out, rfl⟩
    · have E := Lib.hid (show (0 : Int) = orI x y z by rw [hp.out.1 (by omega), hp.out.2.1 (by omega), hp.out.2.2 (by omega)]; rfl)
      go_wp2_with fail
      go_ret
      exact ⟨ret_int E.out, rfl⟩
theorem ta_44 (n : Int) (w : World) : (Instr.typeAssert (.iface 57 (.int .u32 n)) 44 57 true).run Tryz.prog w = .ok (.tuple #[.int .u32 n, .bool true]) w := by kernel_rfl
theorem ta_64 (hi lo : Int) (w : World) : (Instr.typeAssert (.iface 25 (.agg #[.int .u64 hi, .int .u64 lo])) 44 57 true).run Tryz.prog w = .ok (.tuple #[.int .u32 0, .bool false]) w := by kernel_rfl
theorem ta_04 (w : World) : (Instr.typeAssert .nilIface 44 57 true).run Tryz.prog w = .ok (.tuple #[.int .u32 0, .bool false]) w := by kernel_rfl
theorem ta_66 (hi lo : Int) (w : World) : (Instr.typeAssert (.iface 25 (.agg #[.int .u64 hi, .int .u64 lo])) 44 25 true).run Tryz.prog w = .ok (.tuple #[.agg #[.int .u64 hi, .int .u64 lo], .bool true]) w := by kernel_rfl
theorem ta_46 (n : Int) (w : World) : (Instr.typeAssert (.iface 57 (.int .u32 n)) 44 25 true).run Tryz.prog w = .ok (.tuple #[.agg #[.int .u64 0, .int .u64 0], .bool false]) w := by kernel_rfl
theorem ta_06 (w : World) : (Instr.typeAssert .nilIface 44 25 true).run Tryz.prog w = .ok (.tuple #[.agg #[.int .u64 0, .int .u64 0], .bool false]) w := by kernel_rfl
set_option maxRecDepth 100000 in
theorem rank_calls (a : Bool × Int × Int) (w : World) : Calls Tryz.prog 74 #[adV a] w fun e w' => e = .returned (.int .i64 (adRank a)) ∧ w' = w := by
  obtain ⟨sx, hi, lo⟩ := a
  cases sx
  · simp only [adV, adRank]
    have q := ta_44
    go_enter Tryz.func74, Tryz.ntmps74
    go_wp2_with fail
    go_ret
    exact ⟨rfl, rfl⟩
  · simp only [adV, adRank]
    have q := ta_64
    go_enter Tryz.func74, Tryz.ntmps74
    go_wp2_with fail
    go_ret
    exact ⟨rfl, rfl⟩
set_option maxRecDepth 100000 in
theorem rank0_calls (w : World) : Calls Tryz.prog 74 #[.nilIface] w fun e w' => e = .returned (.int .i64 0) ∧ w' = w := by
  go_enter Tryz.func74, Tryz.ntmps74
  go_wp2_with fail
  go_ret
  exact ⟨rfl, rfl⟩
theorem Wide4_calls (n : Int) (h0 : 0 ≤ n) (h1 : n < 4294967296) (w : World) :
    Calls Tryz.prog 187 #[.int .u32 n] w fun e w' => e = .returned (.tuple #[.int .u64 0, .int .u64 (281470681743360 + n)]) ∧ Below w.heap.size w w' := (Wide_calls n h0 h1 w).mono fun e w' h => ⟨h.1, by rw [← h.2]; exact Below.refl _ _⟩
theorem mw_4 (n : Int) (w : World) : (method 321 57 (.int .u32 n) "Wide").run Tryz.prog w = .ok (187, .int .u32 n) w := by kernel_rfl
theorem mw_6 (hi lo : Int) (w : World) : (method 321 25 (.agg #[.int .u64 hi, .int .u64 lo]) "Wide").run Tryz.prog w = .ok (20, .agg #[.int .u64 hi, .int .u64 lo]) w := by kernel_rfl
set_option maxHeartbeats 4000000 in
set_option maxRecDepth 100000 in
theorem Compare_calls (a b : Bool × Int × Int) (ha : adOk a) (hb : adOk b) (w : World) : Calls Tryz.prog 30 #[adV a, adV b] w fun e w' => e = .returned (.int .i64 (cmpA a b)) ∧ Below w.heap.size w w' := by
  have RA := Aside0.mk (rank_calls a)
  have RB := Aside0.mk (rank_calls b)
  obtain ⟨sx, hi, lo⟩ := a
  obtain ⟨sy, hi', lo'⟩ := b
  have q4 := mw_4
  have q6 := mw_6
  cases sx <;> cases sy
  all_goals
    simp only [adV]
    go_enter Tryz.func30, Tryz.ntmps30
    go_wp2_with fail
    first
      | refine (Wide4_calls lo ha.2.1 ha.2.2 _).mono ?_
      | refine (Wide6_calls hi lo _).mono ?_
    rintro e w1 ⟨rfl, b1⟩
    go_wp2_with fail
    first
      | refine (Wide4_calls lo' hb.2.1 hb.2.2 _).mono ?_
      | refine (Wide6_calls hi' lo' _).mono ?_
    rintro e w2 ⟨rfl, b2⟩
    have B2 := Aside0.mk (below_then b1 b1.size b2)
    clear b1 b2
    go_wp2_with fail
    refine (cmpU_calls _ _ _).mono ?_
    rintro e w3 ⟨rfl, rfl⟩
    go_wp2_with fail
    refine (cmpU_calls _ _ _).mono ?_
    rintro e w4 ⟨rfl, rfl⟩
    go_wp2_with fail
    refine (RA.out _).mono ?_
    rintro e w5 ⟨rfl, rfl⟩
    go_wp2_with fail
    refine (RB.out _).mono ?_
    rintro e w6 ⟨rfl, rfl⟩
    go_wp2_with fail
    refine (cmpN_calls _ _ _).mono ?_
    rintro e w7 ⟨rfl, rfl⟩
    go_wp2_with fail
    refine (orN_calls _ _ _ w7.heap.size _ (by rw [World.cell?_alloc_new] <;> rfl) (by rw [World.cell?_alloc_new] <;> rfl) (by rw [World.cell?_alloc_new] <;> rfl)).mono ?_
    rintro e w8 ⟨rfl, rfl⟩
    go_wp2_with fail
    go_ret
    exact ⟨rfl, B2.out.alloc B2.out.size _⟩
end Go.Proofs.YtfieiigefllekaaGreatDoor
