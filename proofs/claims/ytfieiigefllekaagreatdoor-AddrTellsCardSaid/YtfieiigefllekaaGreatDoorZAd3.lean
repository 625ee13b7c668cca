/- What an address embeds, walked. -/
import Derived.Test.YtfieiigefllekaaGreatDoorZAd1
import Derived.Test.YtfieiigefllekaaGreatDoorZAdB
import Derived.BigRegion
import Derived.Deep.Cut
import Derived.Deep.CutRange
namespace Go.Proofs.YtfieiigefllekaaGreatDoor
open Go.RowKit Go.Proofs.YtfieiigefllekaaGreatDoorW.PrintWords Go.Proofs.YtfieiigefllekaaGreatDoorW.PrintMore

def in1 (hi lo : Int) : Bool := decide ((hi = 0 ∧ lo / 4294967296 = 65535) ∨ (hi = 0 ∧ lo / 4294967296 = 0 ∧ 1 < lo % 4294967296) ∨ (hi = 28428538856079360 ∧ lo / 4294967296 = 0))
def in2 (hi : Int) : Bool := decide (hi / 281474976710656 = 8194)
def in3 (hi : Int) : Bool := decide (hi / 4294967296 = 536936448)
def in4 (lo : Int) : Bool := decide (lo / 4294967296 = 24318 ∨ lo / 4294967296 = 33578750)
def inL1 (hi lo : Int) : List Int := bif in1 hi lo then [lo % 4294967296] else []
def inL2 (hi lo : Int) : List Int := inL1 hi lo ++ (bif in2 hi then [hi / 65536 % 4294967296] else [])
def inL3 (hi lo : Int) : List Int := inL2 hi lo ++ (bif in3 hi then [hi % 4294967296, 4294967295 - lo % 4294967296] else [])
/-- What an address of eight pieces embeds. -/
def inL4 (hi lo : Int) : List Int := inL3 hi lo ++ (bif in4 lo then [lo % 4294967296] else [])
theorem info_four : (Tryz.prog.info? 57).map (fun i => (i.zero, i.size, i.bytes)) = some (some (.int .u32 0), 1, 4) := by kernel_rfl

theorem inL1_len (hi lo : Int) : (inL1 hi lo).length ≤ 1 := by
  rw [inL1]
  cases in1 hi lo <;> simp
theorem inL2_len (hi lo : Int) : (inL2 hi lo).length ≤ 2 := by
  have := inL1_len hi lo
  rw [inL2, List.length_append]
  cases in2 hi <;> simp <;> omega
theorem inL3_len (hi lo : Int) : (inL3 hi lo).length ≤ 4 := by
  have := inL2_len hi lo
  rw [inL3, List.length_append]
  cases in3 hi <;> simp <;> omega
theorem inL4_len (hi lo : Int) : (inL4 hi lo).length ≤ 5 := by
  have := inL3_len hi lo
  rw [inL4, List.length_append]
  cases in4 lo <;> simp <;> omega

set_option maxHeartbeats 8000000 in
set_option maxRecDepth 100000 in
theorem Inner6_calls (hi lo : Int) (_h0 : 0 ≤ hi ∧ hi < 18446744073709551616) (h1 : 0 ≤ lo ∧ lo < 18446744073709551616) (w : World) :
    Calls Tryz.prog 28 #[.iface 25 (.agg #[.int .u64 hi, .int .u64 lo])] w fun e w' => ∃ v, e = .returned v ∧ Kd.R (Kd.int .u32) 57 w' w.heap.size (fun _ => True) v (inL4 hi lo) ∧ Below w.heap.size w w' := by
  have q6 := ta_66
  go_enter Tryz.func28, Tryz.ntmps28
  go_upto_region 5 with (fail)
  obtain ⟨W1, hW1⟩ : ∃ W1, W1 = w.alloc (.cells #[.int .u64 hi, .int .u64 lo] 25) := ⟨_, rfl⟩
  rw [← hW1]
  have hg : W1.heap[w.heap.size]? = some (.cells #[.int .u64 hi, .int .u64 lo] 25 (0, 0)) := by rw [hW1]; exact heap_alloc_new' _ _ _ rfl
  have hlt : w.heap.size < W1.heap.size := by rw [hW1]; simp
  have B1 : Aside0 (Below w.heap.size w W1) := ⟨by rw [hW1]; exact (Below.refl _ _).alloc (Nat.le_refl _) _⟩
  obtain ⟨g, hgs⟩ : ∃ g, g = w.heap.size := ⟨_, rfl⟩
  rw [← hgs] at hg hlt ⊢
  have HGS := Lib.hid hgs
  have HG := Aside0.mk hg
  obtain ⟨c0, _⟩ := heap_cell (j := 0) hg rfl
  obtain ⟨c1, _⟩ := heap_cell (j := 1) hg rfl
  clear hg hgs hW1
  go_region
  obtain ⟨w1, hw1⟩ : ∃ w1, w1 = W1.drew := ⟨_, rfl⟩
  rw [← hw1]
  have hg2 : w1.heap[g]? = some (.cells #[.int .u64 hi, .int .u64 lo] 25 (0, 0)) := by rw [hw1]; exact HG.out
  have B2 : Aside0 (Below w.heap.size w w1) := ⟨by rw [hw1]; exact B1.out.drew⟩
  have hlt2 : g < w1.heap.size := by rw [hw1]; exact hlt
  have HG2 := Aside0.mk hg2
  clear hw1 HG B1 hlt c0 c1
  obtain ⟨c0, _⟩ := heap_cell (j := 0) hg2 rfl
  obtain ⟨c1, _⟩ := heap_cell (j := 1) hg2 rfl
  clear hg2
  have hlow : 0 ≤ lo % 4294967296 ∧ lo % 4294967296 < 4294967296 := by omega
  have htop : 0 ≤ lo / 4294967296 ∧ lo / 4294967296 < 4294967296 := by omega
  obtain ⟨low, hlw⟩ : ∃ l, l = lo % 4294967296 := ⟨_, rfl⟩
  obtain ⟨top, htp⟩ : ∃ l, l = lo / 4294967296 := ⟨_, rfl⟩
  rw [← hlw] at hlow ⊢
  rw [← htp] at htop ⊢
  have HLW := Lib.hid hlw
  have HTP := Lib.hid htp
  clear hlw htp
  go_upto_region 6 with (fail)
  go_cut [49] from 8 (fun s wx => ∃ c, s = .bool c ∧ Aside0 (c = in1 hi lo) ∧ w1 = wx)
  case first =>
    by_cases a1 : hi = 0
    · have b1 : (hi == 0) = true := by simpa using a1
      have b5 : (hi == 28428538856079360) = false := by rw [beq_eq_false_iff_ne]; omega
      have A1 := Lib.hid a1
      clear a1
      by_cases a2 : top = 65535
      · have b2 : (top == 65535) = true := by simpa using a2
        have A1 := Lib.hid (And.intro A1.out a2)
        clear a2
        have HI := Lib.hid (show in1 hi lo = true from decide_eq_true (by have := HLW.out; have := HTP.out; have := A1.out; omega))
        go_wp2_with fail
        go_meet
        case rel => exact ⟨_, rfl, ⟨HI.out.symm⟩, rfl⟩
      · have b2 : (top == 65535) = false := by simpa using a2
        by_cases a3 : top = 0
        · have b3 : (top == 0) = true := by simpa using a3
          have A1 := Lib.hid (And.intro A1.out (And.intro a2 a3))
          clear a2 a3
          by_cases a4 : 1 < low
          · have A1 := Lib.hid (And.intro A1.out a4)
            have HI := Lib.hid (show in1 hi lo = true from decide_eq_true (by have := HLW.out; have := HTP.out; have := A1.out; omega))
            go_wp2_with fail
            go_meet
            case rel => exact ⟨_, rfl, ⟨HI.out.symm⟩, rfl⟩
          · have A1 := Lib.hid (And.intro A1.out a4)
            have HI := Lib.hid (show in1 hi lo = false from decide_eq_false (by have := HLW.out; have := HTP.out; have := A1.out; omega))
            go_wp2_with fail
            go_meet
            case rel => exact ⟨_, rfl, ⟨HI.out.symm⟩, rfl⟩
        · have b3 : (top == 0) = false := by simpa using a3
          have A1 := Lib.hid (And.intro A1.out (And.intro a2 a3))
          clear a2 a3
          have HI := Lib.hid (show in1 hi lo = false from decide_eq_false (by have := HLW.out; have := HTP.out; have := A1.out; omega))
          go_wp2_with fail
          go_meet
          case rel => exact ⟨_, rfl, ⟨HI.out.symm⟩, rfl⟩
    · have b1 : (hi == 0) = false := by simpa using a1
      by_cases a5 : hi = 28428538856079360
      · have b5 : (hi == 28428538856079360) = true := by simpa using a5
        have A0 := Lib.hid (And.intro a1 a5)
        clear a1 a5
        by_cases a3 : top = 0
        · have b3 : (top == 0) = true := by simpa using a3
          have A1 := Lib.hid (And.intro A0.out a3)
          clear a3
          have HI := Lib.hid (show in1 hi lo = true from decide_eq_true (by have := HLW.out; have := HTP.out; have := A1.out; omega))
          go_wp2_with fail
          go_meet
          case rel => exact ⟨_, rfl, ⟨HI.out.symm⟩, rfl⟩
        · have b3 : (top == 0) = false := by simpa using a3
          have A1 := Lib.hid (And.intro A0.out a3)
          clear a3
          have HI := Lib.hid (show in1 hi lo = false from decide_eq_false (by have := HLW.out; have := HTP.out; have := A1.out; omega))
          go_wp2_with fail
          go_meet
          case rel => exact ⟨_, rfl, ⟨HI.out.symm⟩, rfl⟩
      · have b5 : (hi == 28428538856079360) = false := by simpa using a5
        have A1 := Lib.hid (And.intro a1 a5)
        clear a1 a5
        have HI := Lib.hid (show in1 hi lo = false from decide_eq_false (by have := HLW.out; have := HTP.out; have := A1.out; omega))
        go_wp2_with fail
        go_meet
        case rel => exact ⟨_, rfl, ⟨HI.out.symm⟩, rfl⟩
  case rest =>
  obtain ⟨c, rfl, hc, rfl⟩ := hcut
  go_upto_if 49 with (fail)
  go_cut [5] from 8 (fun s wx => Kd.R (Kd.int .u32) 57 wx w1.heap.size (fun _ => True) s (inL1 hi lo) ∧ Below w1.heap.size w1 wx)
  case first =>
    cases c
    · have HL := Lib.hid (show ([] : List Int) = inL1 hi lo by rw [inL1, ← hc.out]; rfl)
      go_wp2_with fail
      go_meet
      case rel => exact ⟨by rw [← HL.out]; exact Kd.R_nil _ _ _ _ _, Below.refl _ _⟩
    · have HL := Lib.hid (show [] ++ [low] = inL1 hi lo by rw [inL1, ← hc.out, HLW.out]; rfl)
      go_wp2_with ((with_reducible refine gate_builtin (b := .append) (xs := #[.tmp 50, .tmp 52]) rfl ?_); at_builtin; refine Kd.R_append (Kd.int .u32) (w0 := w1) w1.heap.size rfl (.tmp 50) (.tmp 52) 56 57 (.int .u32 0) 4 rfl Tryz.underlying56 info_four rfl (by decide) (by omega) (.slice none 0 0) [] low [.int .u32 low] (fun _ => True) (fun _ => False) rfl rfl ?aP (fun _ hk => hk.elim) ?aF ?aO ?aB ?aS ?aL ?_; (case aP => exact rfl); (case aF => exact fun _ _ => trivial); (case aO => exact (Kd.R_nil _ _ _ _ _)); (case aB => exact (Below.refl _ _)); (case aS => omega); (case aL => (simp)); intro v1 w4 ho hb hg _)
      go_meet
      case rel => exact ⟨by rw [← HL.out]; exact ho, hb⟩
  case rest =>
  obtain ⟨hO, hb⟩ := hcut
  have hs : w1.heap.size ≤ wc.heap.size := hb.size
  have hgc := (hb.block g hlt2).trans HG2.out
  clear c0 c1
  obtain ⟨c0, _⟩ := heap_cell (j := 0) hgc rfl
  obtain ⟨c1, _⟩ := heap_cell (j := 1) hgc rfl
  have HO := Aside0.mk hO
  have HB := Aside0.mk hb
  clear hO hb hgc
  go_upto_if 57 with (fail)
  go_cut [5] from 8 (fun s wx => Kd.R (Kd.int .u32) 57 wx w1.heap.size (fun _ => True) s (inL2 hi lo) ∧ Below w1.heap.size w1 wx)
  case first =>
    rcases h : (hi / 281474976710656 == 8194) with _ | _
    · have HL := Lib.hid (show inL1 hi lo = inL2 hi lo by rw [inL2, show in2 hi = false from h]; simp)
      go_wp2_with fail
      go_meet
      case rel => exact ⟨by rw [← HL.out]; exact HO.out, HB.out⟩
    · have HL := Lib.hid (show inL1 hi lo ++ [hi / 65536 % 4294967296] = inL2 hi lo by rw [inL2, show in2 hi = true from h]; simp)
      have hln := inL1_len hi lo
      go_wp2_with ((with_reducible refine gate_builtin (b := .append) (xs := #[.tmp 58, .tmp 63]) rfl ?_); at_builtin; refine Kd.R_append (Kd.int .u32) (w0 := w1) w1.heap.size rfl (.tmp 58) (.tmp 63) 56 57 (.int .u32 0) 4 rfl Tryz.underlying56 info_four rfl (by decide) (by omega) u5 (inL1 hi lo) (hi / 65536 % 4294967296) [.int .u32 (hi / 65536 % 4294967296)] (fun _ => True) (fun _ => False) rfl rfl ?aP (fun _ hk => hk.elim) ?aF ?aO ?aB ?aS ?aL ?_; (case aP => exact rfl); (case aF => exact fun _ _ => trivial); (case aO => exact HO.out); (case aB => exact HB.out); (case aS => omega); (case aL => omega); intro v1 w4 ho hb hg _)
      go_meet
      case rel => exact ⟨by rw [← HL.out]; exact ho, hb⟩
  case rest =>
  obtain ⟨hO, hb⟩ := hcut
  have hs : w1.heap.size ≤ wc.heap.size := hb.size
  have hgc := (hb.block g hlt2).trans HG2.out
  obtain ⟨c0, _⟩ := heap_cell (j := 0) hgc rfl
  obtain ⟨c1, _⟩ := heap_cell (j := 1) hgc rfl
  have HO := Aside0.mk hO
  have HB := Aside0.mk hb
  clear hO hb hgc
  have HX := Lib.hid (show (bits BinOp.xor IntKind.u32 (if IntKind.u32.signed = true then -1 else IntKind.u32.max) low) = 4294967295 - low from xor_max32 low hlow.1 hlow.2)
  go_upto_if 68 with (fail)
  go_cut [5] from 8 (fun s wx => Kd.R (Kd.int .u32) 57 wx w1.heap.size (fun _ => True) s (inL3 hi lo) ∧ Below w1.heap.size w1 wx)
  case first =>
    rcases h : (hi / 4294967296 == 536936448) with _ | _
    · have HL := Lib.hid (show inL2 hi lo = inL3 hi lo by rw [inL3, show in3 hi = false from h]; simp)
      go_wp2_with fail
      go_meet
      case rel => exact ⟨by rw [← HL.out]; exact HO.out, HB.out⟩
    · have HL := Lib.hid (show inL2 hi lo ++ [hi % 4294967296, (bits BinOp.xor IntKind.u32 (if IntKind.u32.signed = true then -1 else IntKind.u32.max) low)] = inL3 hi lo by rw [inL3, show in3 hi = true from h, HX.out, HLW.out]; simp)
      have hln := inL2_len hi lo
      go_wp2_with ((with_reducible refine gate_builtin (b := .append) (xs := #[.tmp 69, .tmp 75]) rfl ?_); at_builtin; go_loud (refine Kd.R_append_rows (Kd.int .u32) (w0 := w1) w1.heap.size rfl (.tmp 69) (.tmp 75) 56 57 (.int .u32 0) 4 rfl Tryz.underlying56 info_four rfl (by decide) (by omega) u5 (inL2 hi lo) [hi % 4294967296, (bits BinOp.xor IntKind.u32 (if IntKind.u32.signed = true then -1 else IntKind.u32.max) low)] _ _ _ (fun _ => True) (fun _ => False) rfl rfl ?aO ?aR (fun _ _ h => h) (fun _ h => h.elim) ?aF ?aB ?aS ?aL ?_); go_loud (case aO => exact (Kd.R_below HO.out ((Below.refl _ _).alloc (Nat.le_refl _) _))); go_loud (case aR => exact (C_new .u32 wc [hi % 4294967296, (bits BinOp.xor IntKind.u32 (if IntKind.u32.signed = true then -1 else IntKind.u32.max) low)] _ (show 2 ≤ 9223372036854775807 by omega))); (case aF => exact fun _ _ => trivial); go_loud (case aB => exact (HB.out.alloc (by omega) _)); go_loud (case aS => (simp; omega)); go_loud (case aL => omega); intro v1 w4 ho hb hg _)
      go_meet
      case rel => exact ⟨by rw [← HL.out]; exact ho, hb⟩
  case rest =>
  obtain ⟨hO, hb⟩ := hcut
  have hs : w1.heap.size ≤ wc.heap.size := hb.size
  have hgc := (hb.block g hlt2).trans HG2.out
  obtain ⟨c0, _⟩ := heap_cell (j := 0) hgc rfl
  obtain ⟨c1, _⟩ := heap_cell (j := 1) hgc rfl
  have HO := Aside0.mk hO
  have HB := Aside0.mk hb
  clear hO hb hgc
  obtain ⟨tv, htv⟩ : ∃ tv, tv = top - (if top / 33554432 % 2 = 1 then 33554432 else 0) := ⟨_, rfl⟩
  have hAN := strike_25 top htop.1 htop.2
  rw [← htv] at hAN
  have HI4 := Lib.hid (show in4 lo = (tv == 24318) by
    rw [in4, ← HTP.out]
    have e : (top = 24318 ∨ top = 33578750) ↔ tv = 24318 := by
      rw [htv]
      split <;> omega
    by_cases h : tv = 24318
    · rw [decide_eq_true (e.2 h), h]
      rfl
    · rw [decide_eq_false (fun hh => h (e.1 hh)), beq_eq_false_iff_ne.2 h])
  clear htv
  go_upto_if 79 with (fail)
  go_cut [5] from 8 (fun s wx => Kd.R (Kd.int .u32) 57 wx w1.heap.size (fun _ => True) s (inL4 hi lo) ∧ Below w1.heap.size w1 wx)
  case first =>
    rcases h : (tv == 24318) with _ | _
    · have HL := Lib.hid (show inL3 hi lo = inL4 hi lo by rw [inL4, HI4.out, h]; simp)
      go_wp2_with fail
      go_meet
      case rel => exact ⟨by rw [← HL.out]; exact HO.out, HB.out⟩
    · have HL := Lib.hid (show inL3 hi lo ++ [low] = inL4 hi lo by rw [inL4, HI4.out, h, HLW.out]; simp)
      have hln := inL3_len hi lo
      go_wp2_with ((with_reducible refine gate_builtin (b := .append) (xs := #[.tmp 80, .tmp 82]) rfl ?_); at_builtin; refine Kd.R_append (Kd.int .u32) (w0 := w1) w1.heap.size rfl (.tmp 80) (.tmp 82) 56 57 (.int .u32 0) 4 rfl Tryz.underlying56 info_four rfl (by decide) (by omega) u5 (inL3 hi lo) low [.int .u32 low] (fun _ => True) (fun _ => False) rfl rfl ?aP (fun _ hk => hk.elim) ?aF ?aO ?aB ?aS ?aL ?_; (case aP => exact rfl); (case aF => exact fun _ _ => trivial); (case aO => exact HO.out); (case aB => exact HB.out); (case aS => omega); (case aL => omega); intro v1 w4 ho hb hg _)
      go_meet
      case rel => exact ⟨by rw [← HL.out]; exact ho, hb⟩
  case rest =>
  obtain ⟨hO, hb⟩ := hcut
  go_wp2_with fail
  go_ret
  exact ⟨_, rfl, Kd.R_lower hO B2.out.size, below_then B2.out B2.out.size hb⟩
end Go.Proofs.YtfieiigefllekaaGreatDoor
