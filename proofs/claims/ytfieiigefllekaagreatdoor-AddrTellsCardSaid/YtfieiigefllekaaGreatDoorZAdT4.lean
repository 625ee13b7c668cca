/- What the document says that an address embeds: plain, and walked. -/
import Derived.Test.YtfieiigefllekaaGreatDoorZAdT3
import Derived.Test.YtfieiigefllekaaGreatDoorZAd3
namespace Go.Proofs.YtfieiigefllekaaGreatDoor
open Go.RowKit Go.Proofs.YtfieiigefllekaaGreatDoorW.PrintWords Go.Proofs.YtfieiigefllekaaGreatDoorW.PrintMore

theorem info_u32 : (Tryz.prog.info? 52).map (fun i => (i.zero, i.size, i.bytes)) = some (some (.int .u32 0), 1, 4) := by kernel_rfl
def rq1 (hi lo : Int) : Bool := decide ((piecesOf hi lo).take 6 = [0, 0, 0, 0, 0, 65535])
def rq2 (hi lo : Int) : Bool := decide ((piecesOf hi lo).take 6 = [0, 0, 0, 0, 0, 0]) && decide (1 < lo % 4294967296)
def rq3 (hi lo : Int) : Bool := decide ((piecesOf hi lo).take 6 = [100, 65435, 0, 0, 0, 0])
def rl1 (hi lo : Int) : List Int := bif rq1 hi lo then [lo % 4294967296] else []
def rl2 (hi lo : Int) : List Int := rl1 hi lo ++ (bif rq2 hi lo then [lo % 4294967296] else [])
def rl3 (hi lo : Int) : List Int := rl2 hi lo ++ (bif rq3 hi lo then [lo % 4294967296] else [])
theorem rl3_is (hi lo : Int) (h0 : 0 ≤ hi ∧ hi < 18446744073709551616) (h1 : 0 ≤ lo ∧ lo < 18446744073709551616) : rl3 hi lo = inL1 hi lo := by
  have e1 : rq1 hi lo = decide (hi = 0 ∧ lo / 4294967296 = 65535) := by
    rw [rq1]
    refine decide_eq_decide.2 ?_
    simp only [piecesOf, List.take_succ_cons, List.take_zero, List.cons.injEq, and_true]
    omega
  have e2 : rq2 hi lo = decide (hi = 0 ∧ lo / 4294967296 = 0 ∧ 1 < lo % 4294967296) := by
    rw [rq2, ← Bool.decide_and]
    refine decide_eq_decide.2 ?_
    simp only [piecesOf, List.take_succ_cons, List.take_zero, List.cons.injEq, and_true]
    omega
  have e3 : rq3 hi lo = decide (hi = 28428538856079360 ∧ lo / 4294967296 = 0) := by
    rw [rq3]
    refine decide_eq_decide.2 ?_
    simp only [piecesOf, List.take_succ_cons, List.take_zero, List.cons.injEq, and_true]
    omega
  rw [rl3, rl2, rl1, inL1, in1, e1, e2, e3]
  by_cases a1 : hi = 0 ∧ lo / 4294967296 = 65535
  · rw [decide_eq_true a1, decide_eq_false (by omega), decide_eq_false (by omega), decide_eq_true (.inl a1)]
    rfl
  · by_cases a2 : hi = 0 ∧ lo / 4294967296 = 0 ∧ 1 < lo % 4294967296
    · rw [decide_eq_false a1, decide_eq_true a2, decide_eq_false (by omega), decide_eq_true (.inr (.inl a2))]
      rfl
    · by_cases a3 : hi = 28428538856079360 ∧ lo / 4294967296 = 0
      · rw [decide_eq_false a1, decide_eq_false a2, decide_eq_true a3, decide_eq_true (.inr (.inr a3))]
        rfl
      · rw [decide_eq_false a1, decide_eq_false a2, decide_eq_false a3, decide_eq_false (by omega)]
        rfl
theorem rl1_len (hi lo : Int) : (rl1 hi lo).length ≤ 1 := by
  rw [rl1]
  cases rq1 hi lo <;> simp
theorem rl2_len (hi lo : Int) : (rl2 hi lo).length ≤ 2 := by
  have := rl1_len hi lo
  rw [rl2, List.length_append]
  cases rq2 hi lo <;> simp <;> omega

set_option maxHeartbeats 8000000 in
set_option maxRecDepth 100000 in
theorem refInner6_calls (hi lo : Int) (h0 : 0 ≤ hi ∧ hi < 18446744073709551616) (h1 : 0 ≤ lo ∧ lo < 18446744073709551616) (w : World) :
    Calls Tryz.prog 44 #[.agg #[.bool true, .int .u64 hi, .int .u64 lo]] w fun e w' => ∃ v, e = .returned v ∧ Kd.R (Kd.int .u32) 52 w' w.heap.size (fun _ => True) v (inL4 hi lo) ∧ Below w.heap.size w w' := by
  have HR3 := Aside0.mk (rl3_is hi lo h0 h1)
  obtain ⟨W0, hW0⟩ : ∃ W0, W0 = w.alloc (.cells #[.bool true, .int .u64 hi, .int .u64 lo] 48) := ⟨_, rfl⟩
  have hg : W0.heap[w.heap.size]? = some (.cells #[.bool true, .int .u64 hi, .int .u64 lo] 48 (0, 0)) := by rw [hW0]; exact heap_alloc_new' _ _ _ rfl
  have B0 : Aside0 (Below w.heap.size w W0) := ⟨by rw [hW0]; exact (Below.refl _ _).alloc (Nat.le_refl _) _⟩
  have HW := Lib.hid hW0
  obtain ⟨k0, _⟩ := heap_cell (j := 0) hg rfl
  obtain ⟨k1, _⟩ := heap_cell (j := 1) hg rfl
  obtain ⟨k2, _⟩ := heap_cell (j := 2) hg rfl
  clear hg hW0
  go_enter Tryz.func44, Tryz.ntmps44
  go_upto_region 2 with (fail)
  rw [← HW.out]
  go_wp2_with fail
  refine (rPieces5_calls hi lo h0 h1 _).mono ?_
  rintro e w2 ⟨g, cap, rfl, hcap, hgg, hR, b2⟩
  have B2 := Aside0.mk (below_then B0.out B0.out.size b2)
  have hcell : ∀ j, j < 8 → w2.cell? ⟨g, j, none⟩ = some (.int .i64 ((piecesOf hi lo).getD j 0)) := fun j hj => (cell8 rfl hR j hj).1
  have HC2 := Aside0.mk hcell
  have PB := Aside0.mk (pieces_bd hi lo h0 h1)
  have hglt : g < w2.heap.size := by
    obtain ⟨g', c', e', _, hl, _⟩ := Kd.R_form hR (show 0 < (piecesOf hi lo).length from Nat.succ_pos 7)
    injection e' with e1
    injection Option.some.inj e1 with e2
    rw [e2]
    exact hl
  clear b2 hR hcell k0 k1 k2
  go_wp2_with fail
  refine (two_calls (lo / 65536 % 65536) (lo % 65536) 6 (by omega) ⟨g, 0, none⟩ cap _ (by omega) (by omega) (by rw [add_at]; exact HC2.out 6 (by omega)) (by rw [add_at]; exact HC2.out 7 (by omega))).mono ?_
  rintro e w1 ⟨rfl, b1⟩
  have B1 := Aside0.mk (below_then B2.out B2.out.size b1)
  have HC : Aside0 (∀ j, j < 8 → w1.cell? ⟨g, j, none⟩ = some (.int .i64 ((piecesOf hi lo).getD j 0))) := ⟨fun j hj => (b1.cell (p := ⟨g, j, none⟩) hglt).trans (HC2.out j hj)⟩
  have hgl1 : g < w1.heap.size := Nat.lt_of_lt_of_le hglt b1.size
  rw [show lo / 65536 % 65536 * 65536 + lo % 65536 = lo % 4294967296 by omega]
  have hlow : 0 ≤ lo % 4294967296 ∧ lo % 4294967296 < 4294967296 := by omega
  obtain ⟨low, hlw⟩ : ∃ l, l = lo % 4294967296 := ⟨_, rfl⟩
  rw [← hlw] at hlow ⊢
  have HLW := Lib.hid hlw
  clear hlw b1 HC2 hglt
  have HB0 := Aside0.mk (Below.refl w1.heap.size w1)
  have hs : w1.heap.size ≤ w1.heap.size := HB0.out.size
  go_wp2_with fail
  refine (begins_calls (piecesOf hi lo) [0, 0, 0, 0, 0, 65535] 8 6 rfl rfl (some ⟨g, 0, none⟩) (some ⟨w1.heap.size, 0, none⟩) cap 6 _ (by omega) (by omega) (fun j hj => ⟨_, rfl, by rw [add_at, Nat.zero_add]; exact ((HB0.out.alloc hs _).cell (p := ⟨g, j, none⟩) hgl1).trans (HC.out j hj)⟩) (fun j hj => C_kget (C_new .i64 w1 [0, 0, 0, 0, 0, 65535] _ (by decide)) j hj)).mono ?_
  rintro e w3 ⟨rfl, b3⟩
  have HB3 := Aside0.mk (below_then (HB0.out.alloc hs (.cells #[.int .i64 0, .int .i64 0, .int .i64 0, .int .i64 0, .int .i64 0, .int .i64 65535] 3)) (by simp <;> omega) b3)
  have HO3 := Aside0.mk (Kd.R_nil (Kd.int .u32) 52 w3 w1.heap.size (fun _ => True))
  have hs3 : w1.heap.size ≤ w3.heap.size := HB3.out.size
  clear b3
  rw [show decide ((piecesOf hi lo).take 6 = [0, 0, 0, 0, 0, 65535]) = rq1 hi lo from rfl]
  obtain ⟨q, hq⟩ : ∃ q, q = rq1 hi lo := ⟨_, rfl⟩
  rw [← hq]
  have HQ := Lib.hid hq
  clear hq
  go_upto_if 19 with (fail)
  go_cut [3] from 6 (fun s wx => Kd.R (Kd.int .u32) 52 wx w1.heap.size (fun _ => True) s (rl1 hi lo) ∧ Below w1.heap.size w1 wx)
  case first =>
    cases q
    · have HL := Lib.hid (show ([] : List Int) = rl1 hi lo by rw [rl1, ← HQ.out]; rfl)
      go_wp2_with fail
      go_meet
      case rel => exact ⟨by rw [← HL.out]; exact HO3.out, HB3.out⟩
    · have HL := Lib.hid (show ([] : List Int) ++ [low] = rl1 hi lo by rw [rl1, ← HQ.out, HLW.out]; rfl)
      skip
      go_wp2_with ((with_reducible refine gate_builtin (b := .append) (xs := #[.tmp 20, .tmp 22]) rfl ?_); at_builtin; refine Kd.R_append (Kd.int .u32) (w0 := w1) w1.heap.size rfl (.tmp 20) (.tmp 22) 78 52 (.int .u32 0) 4 rfl Tryz.underlying78 info_u32 rfl (by decide) (by omega) (.slice none 0 0) (([] : List Int)) low [.int .u32 low] (fun _ => True) (fun _ => False) rfl rfl ?aP (fun _ hk => hk.elim) ?aF ?aO ?aB ?aS ?aL ?_; (case aP => exact rfl); (case aF => exact fun _ _ => trivial); (case aO => exact HO3.out); (case aB => exact HB3.out); (case aS => omega); (case aL => (simp)); intro v1 w4 ho hb hg _)
      go_meet
      case rel => exact ⟨by rw [← HL.out]; exact ho, hb⟩
  case rest =>
  obtain ⟨hO, hb⟩ := hcut
  clear hs
  have hs : w1.heap.size ≤ wc.heap.size := hb.size
  have HO := Aside0.mk hO
  have HB := Aside0.mk hb
  clear hO hb HO3 HB3 hs3 HB0 HQ
  go_upto_region 8 with (fail)
  go_cut [30] from 6 (fun s wx => ∃ c, s = .bool c ∧ Aside0 (c = rq2 hi lo) ∧ Kd.R (Kd.int .u32) 52 wx w1.heap.size (fun _ => True) u3 (rl1 hi lo) ∧ Below w1.heap.size w1 wx)
  case first =>
    go_wp2_with fail
    refine (begins_calls (piecesOf hi lo) [0, 0, 0, 0, 0, 0] 8 6 rfl rfl (some ⟨g, 0, none⟩) (some ⟨wc.heap.size, 0, none⟩) cap 6 _ (by omega) (by omega) (fun j hj => ⟨_, rfl, by rw [add_at, Nat.zero_add]; exact ((HB.out.alloc hs _).cell (p := ⟨g, j, none⟩) hgl1).trans (HC.out j hj)⟩) (fun j hj => C_kget (C_new .i64 wc [0, 0, 0, 0, 0, 0] _ (by decide)) j hj)).mono ?_
    rintro e w3 ⟨rfl, b3⟩
    have HB3 := Aside0.mk (below_then (HB.out.alloc hs (.cells #[.int .i64 0, .int .i64 0, .int .i64 0, .int .i64 0, .int .i64 0, .int .i64 0] 3)) (by simp <;> omega) b3)
    have HO3 := Aside0.mk (Kd.R_below HO.out (below_then ((Below.refl wc.heap.size wc).alloc (Nat.le_refl _) (.cells #[.int .i64 0, .int .i64 0, .int .i64 0, .int .i64 0, .int .i64 0, .int .i64 0] 3)) (by simp) b3))
    clear b3
    by_cases z1 : (piecesOf hi lo).take 6 = [0, 0, 0, 0, 0, 0]
    · by_cases z2 : 1 < low
      · have HQ := Lib.hid (show true = rq2 hi lo by rw [rq2, decide_eq_true z1, ← HLW.out, decide_eq_true z2]; rfl)
        rw [decide_eq_true z1]
        clear z1
        go_wp2_with fail
        go_meet
        case rel => exact ⟨_, rfl, ⟨HQ.out⟩, HO3.out, HB3.out⟩
      · have HQ := Lib.hid (show decide (1 < low) = rq2 hi lo by rw [rq2, decide_eq_true z1, ← HLW.out]; rfl)
        rw [decide_eq_true z1]
        clear z1
        go_wp2_with fail
        go_meet
        case rel => exact ⟨_, rfl, ⟨HQ.out⟩, HO3.out, HB3.out⟩
    · have HQ := Lib.hid (show false = rq2 hi lo by rw [rq2, decide_eq_false z1]; rfl)
      rw [decide_eq_false z1]
      clear z1
      go_wp2_with fail
      go_meet
      case rel => exact ⟨_, rfl, ⟨HQ.out⟩, HO3.out, HB3.out⟩
  case rest =>
  obtain ⟨q, rfl, hq, hO, hb⟩ := hcut
  have hs : w1.heap.size ≤ wc.heap.size := hb.size
  have HO := Aside0.mk hO
  have HB := Aside0.mk hb
  clear hO hb
  go_upto_if 30 with (fail)
  go_cut [3] from 6 (fun s wx => Kd.R (Kd.int .u32) 52 wx w1.heap.size (fun _ => True) s (rl2 hi lo) ∧ Below w1.heap.size w1 wx)
  case first =>
    cases q
    · have HL := Lib.hid (show rl1 hi lo = rl2 hi lo by rw [rl2, ← hq.out]; simp)
      go_wp2_with fail
      go_meet
      case rel => exact ⟨by rw [← HL.out]; exact HO.out, HB.out⟩
    · have HL := Lib.hid (show rl1 hi lo ++ [low] = rl2 hi lo by rw [rl2, ← hq.out, HLW.out]; simp)
      have hln := rl1_len hi lo
      go_wp2_with ((with_reducible refine gate_builtin (b := .append) (xs := #[.tmp 31, .tmp 33]) rfl ?_); at_builtin; refine Kd.R_append (Kd.int .u32) (w0 := w1) w1.heap.size rfl (.tmp 31) (.tmp 33) 78 52 (.int .u32 0) 4 rfl Tryz.underlying78 info_u32 rfl (by decide) (by omega) u3 (rl1 hi lo) low [.int .u32 low] (fun _ => True) (fun _ => False) rfl rfl ?aP (fun _ hk => hk.elim) ?aF ?aO ?aB ?aS ?aL ?_; (case aP => exact rfl); (case aF => exact fun _ _ => trivial); (case aO => exact HO.out); (case aB => exact HB.out); (case aS => omega); (case aL => omega); intro v1 w4 ho hb hg _)
      go_meet
      case rel => exact ⟨by rw [← HL.out]; exact ho, hb⟩
  case rest =>
  obtain ⟨hO, hb⟩ := hcut
  have hs : w1.heap.size ≤ wc.heap.size := hb.size
  have HO := Aside0.mk hO
  have HB := Aside0.mk hb
  clear hO hb
  go_upto_region 10 with (fail)
  go_cut [37] from 6 (fun s wx => ∃ c, s = .bool c ∧ Aside0 (c = rq3 hi lo) ∧ Kd.R (Kd.int .u32) 52 wx w1.heap.size (fun _ => True) u3 (rl2 hi lo) ∧ Below w1.heap.size w1 wx)
  case first =>
    go_wp2_with fail
    refine (begins_calls (piecesOf hi lo) [100, 65435, 0, 0, 0, 0] 8 6 rfl rfl (some ⟨g, 0, none⟩) (some ⟨wc.heap.size, 0, none⟩) cap 6 _ (by omega) (by omega) (fun j hj => ⟨_, rfl, by rw [add_at, Nat.zero_add]; exact ((HB.out.alloc hs _).cell (p := ⟨g, j, none⟩) hgl1).trans (HC.out j hj)⟩) (fun j hj => C_kget (C_new .i64 wc [100, 65435, 0, 0, 0, 0] _ (by decide)) j hj)).mono ?_
    rintro e w3 ⟨rfl, b3⟩
    have HB3 := Aside0.mk (below_then (HB.out.alloc hs (.cells #[.int .i64 100, .int .i64 65435, .int .i64 0, .int .i64 0, .int .i64 0, .int .i64 0] 3)) (by simp <;> omega) b3)
    have HO3 := Aside0.mk (Kd.R_below HO.out (below_then ((Below.refl wc.heap.size wc).alloc (Nat.le_refl _) (.cells #[.int .i64 100, .int .i64 65435, .int .i64 0, .int .i64 0, .int .i64 0, .int .i64 0] 3)) (by simp) b3))
    clear b3
    go_wp2_with fail
    go_meet
    case rel => exact ⟨_, rfl, ⟨rfl⟩, HO3.out, HB3.out⟩
  case rest =>
  obtain ⟨q, rfl, hq, hO, hb⟩ := hcut
  have hs : w1.heap.size ≤ wc.heap.size := hb.size
  have HO := Aside0.mk hO
  have HB := Aside0.mk hb
  clear hO hb
  go_upto_if 37 with (fail)
  go_cut [3] from 6 (fun s wx => Kd.R (Kd.int .u32) 52 wx w1.heap.size (fun _ => True) s (inL1 hi lo) ∧ Below w1.heap.size w1 wx)
  case first =>
    cases q
    · have HL := Lib.hid (show rl2 hi lo = inL1 hi lo by rw [← HR3.out, rl3, ← hq.out]; simp)
      go_wp2_with fail
      go_meet
      case rel => exact ⟨by rw [← HL.out]; exact HO.out, HB.out⟩
    · have HL := Lib.hid (show rl2 hi lo ++ [low] = inL1 hi lo by rw [← HR3.out, rl3, ← hq.out, HLW.out]; simp)
      have hln := rl2_len hi lo
      go_wp2_with ((with_reducible refine gate_builtin (b := .append) (xs := #[.tmp 38, .tmp 40]) rfl ?_); at_builtin; refine Kd.R_append (Kd.int .u32) (w0 := w1) w1.heap.size rfl (.tmp 38) (.tmp 40) 78 52 (.int .u32 0) 4 rfl Tryz.underlying78 info_u32 rfl (by decide) (by omega) u3 (rl2 hi lo) low [.int .u32 low] (fun _ => True) (fun _ => False) rfl rfl ?aP (fun _ hk => hk.elim) ?aF ?aO ?aB ?aS ?aL ?_; (case aP => exact rfl); (case aF => exact fun _ _ => trivial); (case aO => exact HO.out); (case aB => exact HB.out); (case aS => omega); (case aL => omega); intro v1 w4 ho hb hg _)
      go_meet
      case rel => exact ⟨by rw [← HL.out]; exact ho, hb⟩
  case rest =>
  obtain ⟨hO, hb⟩ := hcut
  have hs : w1.heap.size ≤ wc.heap.size := hb.size
  have HO := Aside0.mk hO
  have HB := Aside0.mk hb
  clear hO hb
  have k0 : wc.cell? ⟨g, 0, none⟩ = some (.int .i64 (hi / 281474976710656)) := (HB.out.cell (p := ⟨g, 0, none⟩) hgl1).trans (HC.out 0 (by omega))
  go_upto_if 45 with (fail)
  go_cut [3] from 6 (fun s wx => Kd.R (Kd.int .u32) 52 wx w1.heap.size (fun _ => True) s (inL2 hi lo) ∧ Below w1.heap.size w1 wx)
  case first =>
    rcases h : (hi / 281474976710656 == 8194) with _ | _
    · have HL := Lib.hid (show inL1 hi lo = inL2 hi lo by rw [inL2, show in2 hi = false from h]; simp)
      go_wp2_with fail
      go_meet
      case rel => exact ⟨by rw [← HL.out]; exact HO.out, HB.out⟩
    · have HL := Lib.hid (show inL1 hi lo ++ [hi / 4294967296 % 65536 * 65536 + hi / 65536 % 65536] = inL2 hi lo by
        rw [inL2, show in2 hi = true from h, show hi / 4294967296 % 65536 * 65536 + hi / 65536 % 65536 = hi / 65536 % 4294967296 by omega]
        simp)
      have hln := inL1_len hi lo
      clear k0
      go_wp2_with fail
      refine (two_calls (hi / 4294967296 % 65536) (hi / 65536 % 65536) 1 (by omega) ⟨g, 0, none⟩ cap _ (by omega) (by omega) (by rw [add_at]; exact (HB.out.cell (p := ⟨g, 1, none⟩) hgl1).trans (HC.out 1 (by omega))) (by rw [add_at]; exact (HB.out.cell (p := ⟨g, 2, none⟩) hgl1).trans (HC.out 2 (by omega)))).mono ?_
      rintro e w3 ⟨rfl, b3⟩
      have HB3 := Aside0.mk (below_then HB.out HB.out.size b3)
      have HO3 := Aside0.mk (Kd.R_below HO.out b3)
      have hs3 : w1.heap.size ≤ w3.heap.size := HB3.out.size
      clear b3
      go_wp2_with ((with_reducible refine gate_builtin (b := .append) (xs := #[.tmp 46, .tmp 49]) rfl ?_); at_builtin; refine Kd.R_append (Kd.int .u32) (w0 := w1) w1.heap.size rfl (.tmp 46) (.tmp 49) 78 52 (.int .u32 0) 4 rfl Tryz.underlying78 info_u32 rfl (by decide) (by omega) u3 (inL1 hi lo) (hi / 4294967296 % 65536 * 65536 + hi / 65536 % 65536) [.int .u32 (hi / 4294967296 % 65536 * 65536 + hi / 65536 % 65536)] (fun _ => True) (fun _ => False) rfl rfl ?aP (fun _ hk => hk.elim) ?aF ?aO ?aB ?aS ?aL ?_; (case aP => exact rfl); (case aF => exact fun _ _ => trivial); (case aO => exact HO3.out); (case aB => exact HB3.out); (case aS => omega); (case aL => omega); intro v1 w4 ho hb hg _)
      go_meet
      case rel => exact ⟨by rw [← HL.out]; exact ho, hb⟩
  case rest =>
  obtain ⟨hO, hb⟩ := hcut
  have hs : w1.heap.size ≤ wc.heap.size := hb.size
  have HO := Aside0.mk hO
  have HB := Aside0.mk hb
  clear hO hb
  have k0 : wc.cell? ⟨g, 0, none⟩ = some (.int .i64 (hi / 281474976710656)) := (HB.out.cell (p := ⟨g, 0, none⟩) hgl1).trans (HC.out 0 (by omega))
  have k1 : wc.cell? ⟨g, 1, none⟩ = some (.int .i64 (hi / 4294967296 % 65536)) := (HB.out.cell (p := ⟨g, 1, none⟩) hgl1).trans (HC.out 1 (by omega))
  go_upto_region 14 with (fail)
  go_cut [60] from 6 (fun s wx => ∃ c, s = .bool c ∧ Aside0 (c = in3 hi) ∧ Kd.R (Kd.int .u32) 52 wx w1.heap.size (fun _ => True) u3 (inL2 hi lo) ∧ Below w1.heap.size w1 wx)
  case first =>
    rcases h0' : (hi / 281474976710656 == 8193) with _ | _
    · have HQ := Lib.hid (show false = in3 hi by
        refine (decide_eq_false ?_).symm
        rw [beq_eq_false_iff_ne] at h0'
        omega)
      go_wp2_with fail
      go_meet
      case rel => exact ⟨_, rfl, ⟨HQ.out⟩, HO.out, HB.out⟩
    · have HQ := Lib.hid (show (hi / 4294967296 % 65536 == 0) = in3 hi by
        rw [beq_iff_eq] at h0'
        rw [in3, Bool.eq_iff_iff, beq_iff_eq, decide_eq_true_iff]
        omega)
      go_wp2_with fail
      go_meet
      case rel => exact ⟨_, rfl, ⟨HQ.out⟩, HO.out, HB.out⟩
  case rest =>
  obtain ⟨q, rfl, hq, hO, hb⟩ := hcut
  have hs : w1.heap.size ≤ wc.heap.size := hb.size
  have HO := Aside0.mk hO
  have HB := Aside0.mk hb
  clear hO hb
  go_upto_if 60 with (fail)
  go_cut [3] from 6 (fun s wx => Kd.R (Kd.int .u32) 52 wx w1.heap.size (fun _ => True) s (inL3 hi lo) ∧ Below w1.heap.size w1 wx)
  case first =>
    cases q
    · have HL := Lib.hid (show inL2 hi lo = inL3 hi lo by rw [inL3, ← hq.out]; simp)
      go_wp2_with fail
      go_meet
      case rel => exact ⟨by rw [← HL.out]; exact HO.out, HB.out⟩
    · have HL := Lib.hid (show (inL2 hi lo ++ [hi / 65536 % 65536 * 65536 + hi % 65536]) ++ [4294967295 - low] = inL3 hi lo by
        rw [inL3, ← hq.out, show hi / 65536 % 65536 * 65536 + hi % 65536 = hi % 4294967296 by omega, HLW.out]
        simp)
      have hln := inL2_len hi lo
      have hln2 : (inL2 hi lo ++ [hi / 65536 % 65536 * 65536 + hi % 65536]).length ≤ 3 := by rw [List.length_append]; simp; omega
      go_wp2_with fail
      refine (two_calls (hi / 65536 % 65536) (hi % 65536) 2 (by omega) ⟨g, 0, none⟩ cap _ (by omega) (by omega) (by rw [add_at]; exact (HB.out.cell (p := ⟨g, 2, none⟩) hgl1).trans (HC.out 2 (by omega))) (by rw [add_at]; exact (HB.out.cell (p := ⟨g, 3, none⟩) hgl1).trans (HC.out 3 (by omega)))).mono ?_
      rintro e w3 ⟨rfl, b3⟩
      have HB3 := Aside0.mk (below_then HB.out HB.out.size b3)
      have HO3 := Aside0.mk (Kd.R_below HO.out b3)
      have hs3 : w1.heap.size ≤ w3.heap.size := HB3.out.size
      clear b3
      go_wp2_with (first | ((with_reducible refine gate_builtin (b := .append) (xs := #[.tmp 61, .tmp 64]) rfl ?_); at_builtin; refine Kd.R_append (Kd.int .u32) (w0 := w1) w1.heap.size rfl (.tmp 61) (.tmp 64) 78 52 (.int .u32 0) 4 rfl Tryz.underlying78 info_u32 rfl (by decide) (by omega) u3 (inL2 hi lo) (hi / 65536 % 65536 * 65536 + hi % 65536) [.int .u32 (hi / 65536 % 65536 * 65536 + hi % 65536)] (fun _ => True) (fun _ => False) rfl rfl ?aP (fun _ hk => hk.elim) ?aF ?aO ?aB ?aS ?aL ?_; (case aP => exact rfl); (case aF => exact fun _ _ => trivial); (case aO => exact HO3.out); (case aB => exact HB3.out); (case aS => omega); (case aL => omega); intro v1 w4 ho hb hg _) | ((with_reducible refine gate_builtin (b := .append) (xs := #[.tmp 66, .tmp 69]) rfl ?_); at_builtin; refine Kd.R_append (Kd.int .u32) (w0 := w1) w1.heap.size rfl (.tmp 66) (.tmp 69) 78 52 (.int .u32 0) 4 rfl Tryz.underlying78 info_u32 rfl (by decide) (by omega) v1 (inL2 hi lo ++ [hi / 65536 % 65536 * 65536 + hi % 65536]) (4294967295 - low) [.int .u32 (4294967295 - low)] (fun _ => True) (fun _ => False) rfl rfl ?aP (fun _ hk => hk.elim) ?aF ?aO ?aB ?aS ?aL ?_; (case aP => exact rfl); (case aF => exact fun _ _ => trivial); (case aO => exact ho); (case aB => exact hb); (case aS => (have := hb.size; omega)); (case aL => omega); intro v1 w4 ho hb hg _))
      go_meet
      case rel => exact ⟨by rw [← HL.out]; exact ho, hb⟩
  case rest =>
  obtain ⟨hO, hb⟩ := hcut
  have hs : w1.heap.size ≤ wc.heap.size := hb.size
  have HO := Aside0.mk hO
  have HB := Aside0.mk hb
  clear hO hb
  have k4 : wc.cell? ⟨g, 4, none⟩ = some (.int .i64 (lo / 281474976710656)) := (HB.out.cell (p := ⟨g, 4, none⟩) hgl1).trans (HC.out 4 (by omega))
  have k5 : wc.cell? ⟨g, 5, none⟩ = some (.int .i64 (lo / 4294967296 % 65536)) := (HB.out.cell (p := ⟨g, 5, none⟩) hgl1).trans (HC.out 5 (by omega))
  have HT := Lib.hid (show in4 lo = ((lo / 281474976710656 == 0 || lo / 281474976710656 == 512) && lo / 4294967296 % 65536 == 24318) by
    rw [in4, Bool.eq_iff_iff, decide_eq_true_iff, Bool.and_eq_true, Bool.or_eq_true, beq_iff_eq, beq_iff_eq, beq_iff_eq]
    omega)
  go_upto_region 17 with (fail)
  go_cut [86] from 6 (fun s wx => ∃ c, s = .bool c ∧ Aside0 (c = in4 lo) ∧ Kd.R (Kd.int .u32) 52 wx w1.heap.size (fun _ => True) u3 (inL3 hi lo) ∧ Below w1.heap.size w1 wx)
  case first =>
    rcases y0 : (lo / 281474976710656 == 0) with _ | _
    · rcases y1 : (lo / 281474976710656 == 512) with _ | _
      · have HQ := Lib.hid (show false = in4 lo by rw [HT.out, y0, y1]; rfl)
        go_wp2_with fail
        go_meet
        case rel => exact ⟨_, rfl, ⟨HQ.out⟩, HO.out, HB.out⟩
      · have HQ := Lib.hid (show (lo / 4294967296 % 65536 == 24318) = in4 lo by rw [HT.out, y0, y1]; rfl)
        go_wp2_with fail
        go_meet
        case rel => exact ⟨_, rfl, ⟨HQ.out⟩, HO.out, HB.out⟩
    · have HQ := Lib.hid (show (lo / 4294967296 % 65536 == 24318) = in4 lo by rw [HT.out, y0]; rfl)
      go_wp2_with fail
      go_meet
      case rel => exact ⟨_, rfl, ⟨HQ.out⟩, HO.out, HB.out⟩
  case rest =>
  obtain ⟨q, rfl, hq, hO, hb⟩ := hcut
  have hs : w1.heap.size ≤ wc.heap.size := hb.size
  have HO := Aside0.mk hO
  have HB := Aside0.mk hb
  clear hO hb
  go_upto_if 86 with (fail)
  go_cut [3] from 6 (fun s wx => Kd.R (Kd.int .u32) 52 wx w1.heap.size (fun _ => True) s (inL4 hi lo) ∧ Below w1.heap.size w1 wx)
  case first =>
    cases q
    · have HL := Lib.hid (show inL3 hi lo = inL4 hi lo by rw [inL4, ← hq.out]; simp)
      go_wp2_with fail
      go_meet
      case rel => exact ⟨by rw [← HL.out]; exact HO.out, HB.out⟩
    · have HL := Lib.hid (show inL3 hi lo ++ [low] = inL4 hi lo by rw [inL4, ← hq.out, HLW.out]; simp)
      have hln := inL3_len hi lo
      go_wp2_with ((with_reducible refine gate_builtin (b := .append) (xs := #[.tmp 87, .tmp 89]) rfl ?_); at_builtin; refine Kd.R_append (Kd.int .u32) (w0 := w1) w1.heap.size rfl (.tmp 87) (.tmp 89) 78 52 (.int .u32 0) 4 rfl Tryz.underlying78 info_u32 rfl (by decide) (by omega) u3 (inL3 hi lo) low [.int .u32 low] (fun _ => True) (fun _ => False) rfl rfl ?aP (fun _ hk => hk.elim) ?aF ?aO ?aB ?aS ?aL ?_; (case aP => exact rfl); (case aF => exact fun _ _ => trivial); (case aO => exact HO.out); (case aB => exact HB.out); (case aS => omega); (case aL => omega); intro v1 w4 ho hb hg _)
      go_meet
      case rel => exact ⟨by rw [← HL.out]; exact ho, hb⟩
  case rest =>
  obtain ⟨hO, hb⟩ := hcut
  go_wp2_with fail
  go_ret
  exact ⟨_, rfl, Kd.R_lower hO B1.out.size, below_then B1.out B1.out.size hb⟩
end Go.Proofs.YtfieiigefllekaaGreatDoor
