/- Texts that the claim's row leans on, joined by wip/pack.py: SixR RSix2P SixWide Tz Bits FmtB Words SixL SixT Ad1 AdP Ad2 Pf5 WEqStruct Pf6 Pf7 PfL -/
import Derived.Test.YtplehdcnnaamkaaGreatDoorKTrieLongest2
import Derived.StillTailTactics
import Derived.Laws.ResultCell
import Derived.Lib.ItoaWalk
import Derived.Laws.Bits64b
import Derived.Deep.RegionWith
import Derived.Laws.StructEq
/- six.Parse, walked. -/
namespace Go.Proofs.YtplehdcnnaamkaaGreatDoor
open Go.RowKit Go.Proofs.YtplehdcnnaamkaaGreatDoorW.PrintWords Go.Proofs.YtplehdcnnaamkaaGreatDoorW.PrintMore

def sixHi (l : List UInt8) : Int := half ((sixX l).take 4)
def sixLo (l : List UInt8) : Int := half ((sixX l).drop 4)
/-- How much a reader has left. -/
def restM (w : World) (b : Nat) : Nat := match w.cell? ⟨b, 0, none⟩, w.cell? ⟨b, 3, none⟩ with
  | some (.string s), some (.bool e) => s.size + (if e = true then 0 else 1)
  | _, _ => 0
theorem restM_of {w : World} {B b : Nat} {rest : ByteArray} {p : List Int} {gap : Int} {ended : Bool} (h : Holds w B b rest p gap ended) : restM w b = rest.size + (if ended = true then 0 else 1) := by
  obtain ⟨v, hh, _⟩ := h
  rw [restM, (heap_cell (j := 0) hh rfl).1, (heap_cell (j := 3) hh rfl).1]
  rfl
theorem results_cell_bool {P : Program} {fn : Func} {p u : Tmp} {ty : TypeId} (h : fn.results = #[.cell p ty, .tmp u]) (tmps : Array Value) (w : World) (g : Nat) (t : TypeId) (cs : Array Value) (fr : Nat × Nat) (d : TypeDesc)
    (hp : tmps.getD p undef = .pointer (some ⟨g, 0, none⟩)) (hg : w.heap[g]? = some (.cells cs t fr)) (hu : P.underlying ty = some d) (hd : (match d with | .struct _ | .array _ _ => true | _ => false) = true) (hi : (P.info? ty).map (·.size) = some cs.size) :
    (results fn tmps).run P w = .ok (.tuple #[.agg cs, tmps.getD u undef]) w := by
  rw [results_cell_tmp h, hp]
  have e : (asAddr (.pointer (some ⟨g, 0, none⟩))).run P w = .ok ⟨g, 0, none⟩ w := rfl
  rw [e]
  simp only [Result.andThen]
  rw [run_loadVar_row w g t ty cs fr d hg hu hd hi]
theorem ret_six {a b c d : Int} {x y : Bool} (h1 : a = c) (h2 : b = d) (h3 : x = y) : Ending.returned (.tuple #[.agg #[.int .u64 a, .int .u64 b], .bool x]) = .returned (.tuple #[.agg #[.int .u64 c, .int .u64 d], .bool y]) := by rw [h1, h2, h3]
theorem six_none {l : List UInt8} (h : sixL l = none) : sixHi l = 0 ∧ sixLo l = 0 ∧ sixOk l = false := by
  rw [sixHi, sixLo, sixX, sixOk, h]
  exact ⟨rfl, rfl, rfl⟩
theorem six_some {l : List UInt8} {xs : List Int} (h : sixL l = some xs) : sixHi l = half (xs.take 4) ∧ sixLo l = half (xs.drop 4) ∧ sixOk l = true := by
  rw [sixHi, sixLo, sixX, sixOk, h]
  exact ⟨rfl, rfl, rfl⟩
theorem run_step (n : Nat) (rest : List UInt8) (p : List Int) (gap : Int) : runL (n + 1) rest p gap false = match stepL rest p gap with
    | none => none
    | some (r', p', g', e') => if 8 < p'.length then none else runL n r' p' g' e' := rfl
theorem run_end (n : Nat) (rest : List UInt8) (p : List Int) (gap : Int) : runL n rest p gap true = some (p, gap) := by cases n <;> rfl
theorem i64_small (n : Int) (h0 : -1000000 ≤ n) (h1 : n ≤ 1000000) : IntKind.i64.wrap n = n := by
  simp [IntKind.wrap, IntKind.signed, IntKind.bits]
  omega
theorem fill_bd (q : List Int) (k : Nat) (h : ∀ x ∈ q, 0 ≤ x ∧ x ≤ 65535) : ∀ y ∈ q.take k ++ List.replicate (8 - q.length) 0 ++ q.drop k, 0 ≤ y ∧ y ≤ 65535 := by
  intro y hy
  rcases List.mem_append.1 hy with hy | hy
  · rcases List.mem_append.1 hy with hy | hy
    · exact h y (List.mem_of_mem_take hy)
    · rw [(List.mem_replicate.1 hy).2]
      omega
  · exact h y (List.mem_of_mem_drop hy)
theorem fill_eq (q : List Int) (k o : Nat) (hk : k < q.length) (h8 : q.length < 8) (ho : o = 8 - q.length + k) :
    ((List.replicate 8 (0 : Int)).take 0 ++ q.take k ++ (List.replicate 8 0).drop (0 + k)).take o ++ q.drop k ++ ((List.replicate 8 (0 : Int)).take 0 ++ q.take k ++ (List.replicate 8 0).drop (0 + k)).drop (o + (q.drop k).length) = q.take k ++ List.replicate (8 - q.length) 0 ++ q.drop k := by
  have hl : (q.take k).length = k := by rw [List.length_take]; omega
  have hd : (q.drop k).length = q.length - k := List.length_drop
  have e1 : (List.replicate 8 (0 : Int)).drop (0 + k) = List.replicate (8 - k) 0 := by rw [List.drop_replicate, Nat.zero_add]
  have e2 : (q.take k ++ List.replicate (8 - k) 0).take o = q.take k ++ List.replicate (8 - q.length) 0 := by
    rw [List.take_append, List.take_of_length_le (by omega), hl, List.take_replicate, show min (o - k) (8 - k) = 8 - q.length by omega]
  have e3 : (q.take k ++ List.replicate (8 - k) (0 : Int)).drop (o + (q.length - k)) = [] := by
    rw [List.drop_of_length_le]
    simp
    omega
  rw [hd, e1, List.take_zero, List.nil_append, e2, e3, List.append_nil]
theorem fill_eq0 (q : List Int) :
    ((List.replicate 8 (0 : Int)).take 0 ++ q.take q.length ++ (List.replicate 8 0).drop (0 + q.length)).take 0 ++ [] ++ ((List.replicate 8 (0 : Int)).take 0 ++ q.take q.length ++ (List.replicate 8 0).drop (0 + q.length)).drop (0 + ([] : List Int).length) = q.take q.length ++ List.replicate (8 - q.length) 0 ++ q.drop q.length := by
  simp only [List.take_zero, List.nil_append, List.append_nil, List.length_nil, Nat.add_zero, List.drop_zero, Nat.zero_add, List.drop_replicate, List.drop_length]
theorem list8 (zs : List Int) (h : zs.length = 8) : ∃ y0 y1 y2 y3 y4 y5 y6 y7, zs = [y0, y1, y2, y3, y4, y5, y6, y7] := by
  rcases zs with _ | ⟨a, _ | ⟨b, _ | ⟨c, _ | ⟨d, _ | ⟨e, _ | ⟨f, _ | ⟨g, _ | ⟨i, _ | ⟨j, l⟩⟩⟩⟩⟩⟩⟩⟩⟩ <;> simp at h
  exact ⟨_, _, _, _, _, _, _, _, rfl⟩
theorem C_u16 {W : World} {A : Option Addr} {n : Nat} {q : List Int} (h : Kd.C (Kd.int .u16) W A n q) (hp : 0 < q.length) : ∃ ad, A = some ad ∧ ∀ j v, (u16s q)[j]? = some v → W.cell? (ad.add j) = some v := by
  obtain ⟨hn, _, hh⟩ := h
  obtain ⟨ad, rfl, hc⟩ := hh (by omega)
  refine ⟨ad, rfl, fun j v hv => ?_⟩
  rw [u16s, List.getElem?_map] at hv
  obtain ⟨x, hx, rfl⟩ := Option.map_eq_some_iff.1 hv
  obtain ⟨cs, hl, hk, hcs⟩ := hc j x hx
  obtain rfl : cs = [.int .u16 x] := hk
  have h1 := hcs 0 (.int .u16 x) rfl
  rw [show j * (Kd.int .u16).sz + 0 = j from Nat.mul_one j] at h1
  exact h1
/-- Numbers copied into a row of numbers that lies above, at a place. -/
theorem copyAt (W : World) (B g : Nat) (hBg : B ≤ g) (A : Option Addr) (c : Nat) (ys xs : List Int) (off dl dc : Nat) (dp : Option Addr) (hg : W.heap[g]? = some (.cells (u16s ys).toArray 103 (0, 0))) (hfit : off + xs.length ≤ ys.length) (hdl : xs.length ≤ dl)
    (hdp : 0 < xs.length → dp = some ⟨g, off, none⟩) (hA : 0 < xs.length → ∃ ad, A = some ad ∧ ∀ j v, (u16s xs)[j]? = some v → W.cell? (ad.add j) = some v) :
    ∃ W' : World, (Builtin.copy_ #[152, 152] 3 #[.slice dp dl dc, .slice A xs.length c]).run Tryz.prog W = .ok (goInt xs.length) W' ∧ W'.heap[g]? = some (.cells (u16s (ys.take off ++ xs ++ ys.drop (off + xs.length))).toArray 103 (0, 0)) ∧ (∀ k, k ≠ g → W'.heap[k]? = W.heap[k]?) ∧ W'.heap.size = W.heap.size ∧ Below B W W' := by
  have hmin : Nat.min xs.length dl = xs.length := Nat.min_eq_left hdl
  rcases Nat.eq_zero_or_pos xs.length with h0 | hpos
  · refine ⟨W, ?_, ?_, fun _ _ => rfl, rfl, Below.refl _ _⟩
    · rw [run_copy_none W _ _ _ 102 dp A dl dc xs.length c Tryz.underlying152 (by kernel_rfl) (by rw [hmin, h0]), h0]
      rfl
    · rw [hg, List.eq_nil_of_length_eq_zero h0]
      simp
  · obtain ⟨ad, rfl, hc⟩ := hA hpos
    obtain rfl := hdp hpos
    have hl : (u16s xs).length = xs.length := u16s_length xs
    have hrun := run_copy_row Tryz.prog W 152 152 3 102 g off dl dc ad xs.length c _ 103 (u16s xs) Tryz.underlying152 (by kernel_rfl) hg (by rw [hl, hmin]) hc (by rw [hl, List.size_toArray, u16s_length]; exact hfit) (u16s_one _)
    refine ⟨_, by rw [hrun, hl], ?_, fun k hk => setRow_other W g k _ hk, by simp [World.setRow], below_setRow (Below.refl _ _) hBg _⟩
    rw [setRow_heap W g _ _ _ _ hg]
    simp [u16s, List.map_append, List.map_take, List.map_drop]

set_option maxHeartbeats 4000000 in
set_option maxRecDepth 100000 in
theorem SixParse_calls (s : ByteArray) (w : World) (hs : s.size ≤ 900000) (hE : Aside0 (Errs w)) (hM : Aside0 (Mx w)) :
    Calls Tryz.prog 54 #[.string s] w fun e w' => e = .returned (.tuple #[.agg #[.int .u64 (sixHi s.data.toList), .int .u64 (sixLo s.data.toList)], .bool (sixOk s.data.toList)]) ∧ Below w.heap.size w w' := by
  have HSN := Aside0.mk (show sixL s.data.toList = none → _ from six_none)
  have HSS := Aside0.mk (show ∀ xs, sixL s.data.toList = some xs → _ from fun xs => six_some)
  have hlen : s.data.toList.length = s.size := by simp
  have bel0 : ∀ (o1 o2 : Obj), Below w.heap.size w ((w.alloc o1).alloc o2) := fun o1 o2 => ((Below.refl _ _).alloc (Nat.le_refl _) _).alloc (by simp) _
  have BEL0 := Aside0.mk bel0
  clear bel0
  rcases hp1 : Lib.hasPrefix s.data.toList [58] with _ | _
  rotate_left
  · rcases hp2 : Lib.hasPrefix s.data.toList [58, 58] with _ | _
    · have HF := Lib.hid (HSN.out (by rw [sixL, startL, if_pos hp1, if_neg (by rw [hp2]; decide)]))
      have H1 := Lib.hid hp1
      have H2 := Lib.hid hp2
      clear hp1 hp2 hlen
      go_enter Tryz.func54, Tryz.ntmps54
      go_wp2_with fail
      refine (Tryz.strings_HasPrefix _ _ _).mono ?_
      rintro e w1 ⟨rfl, rfl⟩
      rw [show (ByteArray.mk #[58]).data.toList = [58] from rfl, H1.out]
      go_wp2_with fail
      refine (Tryz.strings_HasPrefix _ _ _).mono ?_
      rintro e w1 ⟨rfl, rfl⟩
      rw [show (ByteArray.mk #[58, 58]).data.toList = [58, 58] from rfl, H2.out]
      go_wp2_with fail
      refine bodyPost_ret (results_cell_bool rfl _ _ w.heap.size 34 #[.int .u64 0, .int .u64 0] (0, 0) _ rfl (by rw [heap_alloc_old' _ _ _ (by simp)]; exact heap_alloc_new' _ _ _ rfl) Tryz.underlying34 rfl (by kernel_rfl)) rfl ?_
      exact ⟨ret_six HF.out.1.symm HF.out.2.1.symm HF.out.2.2.symm, BEL0.out _ _⟩
    · obtain ⟨r, hr⟩ : ∃ r : ByteArray, r = s.extract 1 s.size := ⟨_, rfl⟩
      have hrd : r.data.toList = s.data.toList.drop 1 := by rw [hr]; exact extract_list s 1
      have hrz : r.size ≤ 900000 := by rw [hr]; rw [ByteArray.size_extract]; omega
      have HST := Lib.hid (show sixL s.data.toList = match runL (r.data.toList.length + 1) r.data.toList [] (-1) false with
        | none => none
        | some (p, gap) => fillL p gap by rw [sixL, startL, if_pos hp1, if_pos hp2, hrd] <;> rfl)
      have H1 := Lib.hid hp1
      have H2 := Lib.hid hp2
      have hpos : 0 < s.size := by
        rcases Nat.eq_zero_or_pos s.size with h | h
        · rw [List.eq_nil_of_length_eq_zero (hlen.trans h)] at hp1
          cases hp1
        · exact h
      clear hp1 hp2 hlen hrd
      go_enter Tryz.func54, Tryz.ntmps54
      go_wp2_with fail
      refine (Tryz.strings_HasPrefix _ _ _).mono ?_
      rintro e w1 ⟨rfl, rfl⟩
      rw [show (ByteArray.mk #[58]).data.toList = [58] from rfl, H1.out]
      go_wp2_with fail
      refine (Tryz.strings_HasPrefix _ _ _).mono ?_
      rintro e w1 ⟨rfl, rfl⟩
      rw [show (ByteArray.mk #[58, 58]).data.toList = [58, 58] from rfl, H2.out]
      have HRE := Lib.hid hr
      clear hr
      go_wp2_with fail
      have hr := HRE.out
      clear HRE
      obtain ⟨W0, hW0⟩ : ∃ W0, W0 = (w.alloc (.cells #[.int .u64 0, .int .u64 0] 34)).alloc (.cells #[.string (s.extract 1 s.size), .slice none 0 0, .int .i64 (-1), .bool false] 154) := ⟨_, rfl⟩
      rw [← hW0]
      rw [← hr] at hW0
      clear hr
      have hw0 : W0.heap[w.heap.size]? = some (.cells #[.int .u64 0, .int .u64 0] 34 (0, 0)) := by
        rw [hW0, heap_alloc_old' _ _ _ (by simp)]
        exact heap_alloc_new' _ _ _ rfl
      have hw1 : Holds W0 (w.heap.size + 1) (w.heap.size + 1) r [] (-1) false := ⟨_, by rw [hW0]; exact heap_alloc_new' _ _ _ (by simp), Kd.R_nil _ _ _ _ _⟩
      have hw2 : Below w.heap.size w W0 := by rw [hW0]; exact BEL0.out _ _
      have HW0 := Aside0.mk hw0
      have HW1 := Aside0.mk hw1
      have HW2 := Aside0.mk hw2
      clear hW0 hw0 hw1 hw2
      go_loopw [] (fun wr => ∃ (n : Nat) (rest : ByteArray) (q : List Int) (gap : Int) (ended : Bool), rest.size ≤ 900000 ∧ q.length ≤ 8 ∧ -1 ≤ gap ∧ gap ≤ q.length ∧ rest.size + (if ended = true then 0 else 1) ≤ n ∧ Aside0 (∀ x ∈ q, 0 ≤ x ∧ x ≤ 65535) ∧ Aside0 (runL n rest.data.toList q gap ended = runL (r.data.toList.length + 1) r.data.toList [] (-1) false) ∧ Aside0 (Holds wr (w.heap.size + 1) (w.heap.size + 1) rest q gap ended) ∧ Aside0 (wr.heap[w.heap.size]? = some (.cells #[.int .u64 0, .int .u64 0] 34 (0, 0))) ∧ Aside0 (Below w.heap.size w wr)) (fun wr => restM wr (w.heap.size + 1))
      case atStart => exact ⟨r.data.toList.length + 1, r, [], -1, false, hrz, by simp, by omega, by simp, by simp, ⟨by simp⟩, ⟨rfl⟩, HW1, HW0, HW2⟩
      case round =>
        obtain ⟨n, rest, q, gap, ended, hrs, hq8, hg0, hg1, hn, hqb, hrun, hH, hr0, hbw⟩ := hrel
        have HM0 := Lib.hid (restM_of hH.out)
        obtain ⟨v, hh, hR⟩ := hH.out
        obtain ⟨A, c, rfl, hcap, hC⟩ := Kd.R_reads hR
        obtain ⟨c0, f0⟩ := heap_cell (j := 0) hh rfl
        obtain ⟨c1, f1⟩ := heap_cell (j := 1) hh rfl
        obtain ⟨c2, f2⟩ := heap_cell (j := 2) hh rfl
        obtain ⟨c3, f3⟩ := heap_cell (j := 3) hh rfl
        have hbl := cell_lt c0
        have HHH := Aside0.mk hh
        have HC := Aside0.mk hC
        clear hh hR hC
        cases ended
        · obtain ⟨m, rfl⟩ : ∃ m, n = m + 1 := ⟨n - 1, by simp at hn; omega⟩
          have hm : rest.size ≤ m := by simp at hn; omega
          clear hn
          go_wp2_with fail
          refine (step_calls (w.heap.size + 1) (w.heap.size + 1) (Nat.le_refl _) rest q gap false _ hrs (by omega) hg0 (by omega) hH.out ⟨hE.out.stays hbw.out⟩ ⟨hM.out.stays hbw.out⟩).mono ?_
          rintro e w2 ⟨b2, ⟨hst, rfl⟩ | ⟨rest', q', gap', ended', hst, rfl, hH2⟩⟩
          · have hr2 := (b2.block w.heap.size (Nat.lt_succ_self _)).trans hr0.out
            have HF := Lib.hid (HSN.out (by rw [HST.out, ← hrun.out, run_step, hst]))
            have HB2 := Aside0.mk (hbw.out.trans (b2.mono (Nat.le_succ _)))
            obtain ⟨r0, g0⟩ := heap_cell (j := 0) hr2 rfl
            obtain ⟨r1, g1⟩ := heap_cell (j := 1) hr2 rfl
            have HR2 := Aside0.mk hr2
            clear c0 f0 c1 f1 c2 f2 c3 f3 hst b2 hr2
            go_wp2_with fail
            refine bodyPost_ret (results_cell_bool rfl _ _ w.heap.size 34 #[.int .u64 0, .int .u64 0] (0, 0) _ rfl (heap_set1 _ (heap_set0 _ HR2.out)) Tryz.underlying34 rfl (by kernel_rfl)) rfl ?_
            exact ⟨ret_six HF.out.1.symm HF.out.2.1.symm HF.out.2.2.symm, (HB2.out.setCell (Nat.le_refl _) _).setCell (Nat.le_refl _) _⟩
          · have hr2 := (b2.block w.heap.size (Nat.lt_succ_self _)).trans hr0.out
            have HB2 := Aside0.mk (hbw.out.trans (b2.mono (Nat.le_succ _)))
            have hinv := step_inv _ _ _ _ _ _ _ hst hqb.out ⟨hg0, hg1⟩
            obtain ⟨i1, i2, i3, i4, i5⟩ := hinv
            have HI1 := Aside0.mk i1
            have hl' : rest'.data.toList.length = rest'.size := by simp
            have hl0 : rest.data.toList.length = rest.size := by simp
            rw [hl', hl0] at i4 i5
            have HM2 := Lib.hid (restM_of hH2)
            have hH2' := hH2
            obtain ⟨v2, hh2, hR2⟩ := hH2'
            obtain ⟨A2, e2, rfl, hcap2, _⟩ := Kd.R_reads hR2
            obtain ⟨d1, k1⟩ := heap_cell (j := 1) hh2 rfl
            have HH2 := Aside0.mk hH2
            have HRUN := Lib.hid (show runL (m + 1) rest.data.toList q gap false = if 8 < q'.length then none else runL m rest'.data.toList q' gap' ended' by rw [run_step, hst])
            obtain ⟨r0, g0⟩ := heap_cell (j := 0) hr2 rfl
            obtain ⟨r1, g1⟩ := heap_cell (j := 1) hr2 rfl
            have HR2 := Aside0.mk hr2
            have hdec : rest'.size + (if ended' = true then 0 else 1) < rest.size + 1 := by
              cases ended'
              · have := i5 rfl
                simp
                omega
              · simp
                omega
            have HDEC := Aside0.mk hdec
            clear c0 f0 c1 f1 c2 f2 c3 f3 hst b2 hr2 hh2 hR2 hH2 i1 i5 hl' hl0 hdec
            by_cases h8 : 8 < q'.length
            · have HF := Lib.hid (HSN.out (by rw [HST.out, ← hrun.out, HRUN.out, if_pos h8]))
              go_wp2_with fail
              refine bodyPost_ret (results_cell_bool rfl _ _ w.heap.size 34 #[.int .u64 0, .int .u64 0] (0, 0) _ rfl (heap_set1 _ (heap_set0 _ HR2.out)) Tryz.underlying34 rfl (by kernel_rfl)) rfl ?_
              exact ⟨ret_six HF.out.1.symm HF.out.2.1.symm HF.out.2.2.symm, (HB2.out.setCell (Nat.le_refl _) _).setCell (Nat.le_refl _) _⟩
            · have HRUN2 := Aside0.mk (show runL m rest'.data.toList q' gap' ended' = runL (r.data.toList.length + 1) r.data.toList [] (-1) false by rw [← hrun.out, HRUN.out, if_neg h8])
              go_wp2_with fail
              go_roundw
              case rel => exact ⟨m, rest', q', gap', ended', by omega, by omega, i2.1, i2.2, by have := HDEC.out; omega, HI1, HRUN2, HH2, HR2, HB2⟩
              case measure =>
                rw [HM2.out, HM0.out]
                have := HDEC.out
                simp
                omega
        · have HFILL := Lib.hid (show sixL s.data.toList = fillL q gap by rw [HST.out, ← hrun.out, run_end])
          by_cases hgn : gap < 0
          · by_cases h8 : q.length = 8
            · clear c0 f0
              go_wp2_with fail
              obtain ⟨W1, hW1⟩ : ∃ W1, W1 = wr.alloc (.cells #[.int .u16 0, .int .u16 0, .int .u16 0, .int .u16 0, .int .u16 0, .int .u16 0, .int .u16 0, .int .u16 0] 103) := ⟨_, rfl⟩
              rw [← hW1]
              have hP : W1.heap[wr.heap.size]? = some (.cells (u16s (List.replicate 8 0)).toArray 103 (0, 0)) := by rw [hW1]; exact heap_alloc_new' _ _ _ rfl
              have hbA : Below wr.heap.size wr W1 := by rw [hW1]; exact (Below.refl _ _).alloc (Nat.le_refl _) _
              have hRr : W1.heap[w.heap.size]? = some (.cells #[.int .u64 0, .int .u64 0] 34 (0, 0)) := (hbA.block _ (by omega)).trans hr0.out
              have hRd := (hbA.block _ hbl).trans HHH.out
              have hCq := Kd.C_below HC.out hbA
              have hsz : W1.heap.size = wr.heap.size + 1 := by rw [hW1]; simp
              have HBA := Aside0.mk (hbw.out.trans (hbA.mono hbw.out.size))
              obtain ⟨e1, _⟩ := heap_cell (j := 1) hRd rfl
              obtain ⟨e2, _⟩ := heap_cell (j := 2) hRd rfl
              have HP := Aside0.mk hP
              have HRr := Aside0.mk hRr
              have HCq := Aside0.mk hCq
              have hPw : w.heap.size + 1 < wr.heap.size := hbl
              have hsz' : wr.heap.size < W1.heap.size := by omega
              clear hW1 hP hbA hRr hRd hCq hsz c1 f1 c2 f2 c3 f3
              generalize wr.heap.size = g at *
              go_still_tail 3, (by kernel_rfl)
              change wpList _ _ _ _ _ W1.drew
              have hsrc : 0 < q.length → ∃ ad, A = some ad ∧ ∀ j v, (u16s q)[j]? = some v → W1.drew.cell? (ad.add j) = some v := fun h => C_u16 HCq.out h
              obtain ⟨W3, hcp, hg3, ho3, hs3, hb3⟩ := copyAt W1.drew w.heap.size g (by omega) A c (List.replicate 8 0) q 0 8 8 (some ⟨g, 0, none⟩) HP.out (by simp; omega) (by omega) (fun _ => rfl) hsrc
              rw [show (List.replicate 8 (0 : Int)).take 0 ++ q ++ (List.replicate 8 (0 : Int)).drop (0 + q.length) = q by simp [h8]] at hg3
              rw [h8] at hcp
              have HR3 := Aside0.mk ((ho3 w.heap.size (by omega)).trans HRr.out)
              have HB3 := Aside0.mk (HBA.out.drew.trans hb3)
              have hw3 : w.heap.size < W3.heap.size := by rw [hs3]; show _ < W1.heap.size; omega
              have HZ := Lib.hid (show sixL s.data.toList = some q by rw [HFILL.out, fillL, if_pos hgn, if_pos h8])
              have hz8 := h8
              have hzb := hqb.out
              clear hsrc ho3 hs3 hb3 h8 hcap hq8
              clear e1 e2
              obtain ⟨zs, hzs⟩ : ∃ zs, zs = q := ⟨_, rfl⟩
              rw [← hzs] at hg3 HZ hz8 hzb
              clear hzs
              obtain ⟨y0, y1, y2, y3, y4, y5, y6, y7, rfl⟩ := list8 zs hz8
              have HFIN := Lib.hid (HSS.out _ HZ.out)
              have n0 := hzb y0 (by simp)
              have n1 := hzb y1 (by simp)
              have n2 := hzb y2 (by simp)
              have n3 := hzb y3 (by simp)
              have n4 := hzb y4 (by simp)
              have n5 := hzb y5 (by simp)
              have n6 := hzb y6 (by simp)
              have n7 := hzb y7 (by simp)
              have k0 : W3.cell? ⟨g, 0, none⟩ = some (.int .u16 y0) := (heap_cell (j := 0) hg3 rfl).1
              have k1 : W3.cell? ⟨g, 1, none⟩ = some (.int .u16 y1) := (heap_cell (j := 1) hg3 rfl).1
              have k2 : W3.cell? ⟨g, 2, none⟩ = some (.int .u16 y2) := (heap_cell (j := 2) hg3 rfl).1
              have k3 : W3.cell? ⟨g, 3, none⟩ = some (.int .u16 y3) := (heap_cell (j := 3) hg3 rfl).1
              have k4 : W3.cell? ⟨g, 4, none⟩ = some (.int .u16 y4) := (heap_cell (j := 4) hg3 rfl).1
              have k5 : W3.cell? ⟨g, 5, none⟩ = some (.int .u16 y5) := (heap_cell (j := 5) hg3 rfl).1
              have k6 : W3.cell? ⟨g, 6, none⟩ = some (.int .u16 y6) := (heap_cell (j := 6) hg3 rfl).1
              have k7 : W3.cell? ⟨g, 7, none⟩ = some (.int .u16 y7) := (heap_cell (j := 7) hg3 rfl).1
              clear hg3 hzb hz8 HZ
              go_wp2_with fail
              refine (of_calls y0 y1 y2 y3 y4 y5 y6 y7 n0 n1 n2 n3 n4 n5 n6 n7 _).mono ?_
              rintro e w4 ⟨rfl, b4⟩
              have hr4 := (b4.block w.heap.size hw3).trans HR3.out
              have HB4 := Aside0.mk (below_then HB3.out HB3.out.size b4)
              obtain ⟨r0, g0⟩ := heap_cell (j := 0) hr4 rfl
              obtain ⟨r1, g1⟩ := heap_cell (j := 1) hr4 rfl
              have HR4 := Aside0.mk hr4
              clear hr4 b4
              go_wp2_with fail
              refine bodyPost_ret (results_cell_bool rfl _ _ w.heap.size 34 #[.int .u64 (half [y0, y1, y2, y3]), .int .u64 (half [y4, y5, y6, y7])] (0, 0) _ rfl (heap_set1 _ (heap_set0 _ HR4.out)) Tryz.underlying34 rfl (by kernel_rfl)) rfl ?_
              exact ⟨ret_six HFIN.out.1.symm HFIN.out.2.1.symm HFIN.out.2.2.symm, (HB4.out.setCell (Nat.le_refl _) _).setCell (Nat.le_refl _) _⟩
            · have HF := Lib.hid (HSN.out (by rw [HFILL.out, fillL, if_pos hgn, if_neg h8]))
              obtain ⟨r0, g0⟩ := heap_cell (j := 0) hr0.out rfl
              obtain ⟨r1, g1⟩ := heap_cell (j := 1) hr0.out rfl
              go_wp2_with fail
              refine bodyPost_ret (results_cell_bool rfl _ _ w.heap.size 34 #[.int .u64 0, .int .u64 0] (0, 0) _ rfl (heap_set1 _ (heap_set0 _ hr0.out)) Tryz.underlying34 rfl (by kernel_rfl)) rfl ?_
              exact ⟨ret_six HF.out.1.symm HF.out.2.1.symm HF.out.2.2.symm, (hbw.out.setCell (Nat.le_refl _) _).setCell (Nat.le_refl _) _⟩
          · by_cases h8 : q.length < 8
            rotate_left
            · have HF := Lib.hid (HSN.out (by rw [HFILL.out, fillL, if_neg hgn, if_neg h8]))
              obtain ⟨r0, g0⟩ := heap_cell (j := 0) hr0.out rfl
              obtain ⟨r1, g1⟩ := heap_cell (j := 1) hr0.out rfl
              go_wp2_with fail
              refine bodyPost_ret (results_cell_bool rfl _ _ w.heap.size 34 #[.int .u64 0, .int .u64 0] (0, 0) _ rfl (heap_set1 _ (heap_set0 _ hr0.out)) Tryz.underlying34 rfl (by kernel_rfl)) rfl ?_
              exact ⟨ret_six HF.out.1.symm HF.out.2.1.symm HF.out.2.2.symm, (hbw.out.setCell (Nat.le_refl _) _).setCell (Nat.le_refl _) _⟩
            · obtain ⟨k, rfl⟩ : ∃ k : Nat, gap = k := ⟨gap.toNat, by omega⟩
              have hkq : k ≤ q.length := by omega
              have hlt8 : q.length < 8 := by omega
              clear c0 f0
              go_wp2_with fail
              obtain ⟨W1, hW1⟩ : ∃ W1, W1 = wr.alloc (.cells #[.int .u16 0, .int .u16 0, .int .u16 0, .int .u16 0, .int .u16 0, .int .u16 0, .int .u16 0, .int .u16 0] 103) := ⟨_, rfl⟩
              rw [← hW1]
              have hP : W1.heap[wr.heap.size]? = some (.cells (u16s (List.replicate 8 0)).toArray 103 (0, 0)) := by rw [hW1]; exact heap_alloc_new' _ _ _ rfl
              have hbA : Below wr.heap.size wr W1 := by rw [hW1]; exact (Below.refl _ _).alloc (Nat.le_refl _) _
              have hRr : W1.heap[w.heap.size]? = some (.cells #[.int .u64 0, .int .u64 0] 34 (0, 0)) := (hbA.block _ (by omega)).trans hr0.out
              have hRd := (hbA.block _ hbl).trans HHH.out
              have hCq := Kd.C_below HC.out hbA
              have hsz : W1.heap.size = wr.heap.size + 1 := by rw [hW1]; simp
              have HBA := Aside0.mk (hbw.out.trans (hbA.mono hbw.out.size))
              obtain ⟨e1, _⟩ := heap_cell (j := 1) hRd rfl
              obtain ⟨e2, _⟩ := heap_cell (j := 2) hRd rfl
              have HLT : Aside0 (∀ (ad : Addr) (j : Nat) (v : Value), A = some ad → (u16s q)[j]? = some v → (ad.add j).block < wr.heap.size) := ⟨fun ad j v e hv => by
                have hl := (List.getElem?_eq_some_iff.1 hv).1
                rw [u16s_length] at hl
                obtain ⟨ad', e', hc⟩ := C_u16 HC.out (by omega)
                obtain rfl := Option.some.inj (e.symm.trans e')
                exact cell_lt (hc j v hv)⟩
              have HP := Aside0.mk hP
              have HRr := Aside0.mk hRr
              have HRd := Aside0.mk hRd
              have HCq := Aside0.mk hCq
              have hPw : w.heap.size + 1 < wr.heap.size := hbl
              have hsz' : wr.heap.size < W1.heap.size := by omega
              clear hW1 hP hbA hRr hRd hCq hsz c1 f1 c2 f2 c3 f3
              generalize wr.heap.size = g at *
              go_wp2_with fail
              have hk0 : (0 : Int) ≤ (k : Int) := by omega
              have hkc : (k : Int) ≤ (c : Int) := by omega
              go_still_tail 6, (by kernel_rfl)
              change wpList _ _ _ _ _ W1.drew
              have hsrc : 0 < (q.take k).length → ∃ ad, A = some ad ∧ ∀ j v, (u16s (q.take k))[j]? = some v → W1.drew.cell? (ad.add j) = some v := fun h => by
                obtain ⟨ad, e, hc⟩ := C_u16 HCq.out (by rw [List.length_take] at h; omega)
                refine ⟨ad, e, fun j v hv => hc j v ?_⟩
                rw [u16s, List.map_take, List.getElem?_take] at hv
                split at hv
                · exact hv
                · cases hv
              have hlk : (q.take k).length = k := by rw [List.length_take]; omega
              obtain ⟨W2, hcp, hg2, ho2, hs2, hb2⟩ := copyAt W1.drew w.heap.size g (by omega) A c (List.replicate 8 0) (q.take k) 0 8 8 (some ⟨g, 0, none⟩) HP.out (by simp; omega) (by omega) (fun _ => rfl) hsrc
              rw [hlk] at hcp hg2
              have HG2 := Aside0.mk hg2
              have HRr2 := Aside0.mk ((ho2 w.heap.size (by omega)).trans HRr.out)
              have hRd2 := (ho2 (w.heap.size + 1) (by omega)).trans HRd.out
              have hB2' := HBA.out.drew.trans hb2
              have HBA2 := Aside0.mk hB2'
              have HCq2 : Aside0 (∀ (ad : Addr) (j : Nat) (v : Value), A = some ad → (u16s q)[j]? = some v → W2.cell? (ad.add j) = some v) := ⟨fun ad j v e hv => by
                have hl := (List.getElem?_eq_some_iff.1 hv).1
                rw [u16s_length] at hl
                obtain ⟨ad', e', hc⟩ := C_u16 HCq.out (by omega)
                obtain rfl := Option.some.inj (e.symm.trans e')
                have hb := HLT.out ad j v e hv
                exact (World.cell?_of_block (w := W1.drew) (ho2 _ (by omega))).trans (hc j v hv)⟩
              have hs2' : g < W2.heap.size := by rw [hs2]; exact hsz'
              obtain ⟨x1, _⟩ := heap_cell (j := 1) hRd2 rfl
              obtain ⟨x2, _⟩ := heap_cell (j := 2) hRd2 rfl
              clear hsrc hg2 ho2 hs2 hb2 hRd2 hB2' e1 e2
              go_wp2_with fail
              have hw1 : IntKind.i64.wrap (8 - (q.length : Int)) = ((8 - q.length : Nat) : Int) := by
                rw [i64_small _ (by omega) (by omega)]
                omega
              obtain ⟨o, ho⟩ : ∃ o : Nat, o = 8 - q.length + k := ⟨_, rfl⟩
              have hw2 : IntKind.i64.wrap (((8 - q.length : Nat) : Int) + (k : Int)) = (o : Int) := by
                rw [i64_small _ (by omega) (by omega)]
                omega
              have HO := Lib.hid ho
              have ho0 : (0 : Int) ≤ (o : Int) := by omega
              have ho8 : (o : Int) ≤ 8 := by omega
              have hkl : (k : Int) ≤ (q.length : Int) := by omega
              by_cases hkk : k < q.length
              · obtain ⟨ad, rfl, _⟩ := C_u16 HCq.out (by omega)
                have ho7 : o < 8 := by omega
                have hne1 : ¬ 8 = o := by omega
                have hne2 : ¬ c = k := by omega
                clear ho
                go_still_tail 13, (by kernel_rfl)
                change wpList _ _ _ _ _ W2.drew
                have hlk2 : (q.drop k).length = q.length - k := by rw [List.length_drop]
                obtain ⟨W3, hcp2, hg3, ho3, hs3, hb3⟩ := copyAt W2.drew w.heap.size g (by omega) (some (ad.add k)) (c - k) ((List.replicate 8 0).take 0 ++ q.take k ++ (List.replicate 8 0).drop (0 + k)) (q.drop k) o (8 - o) (8 - o) (some ⟨g, o, none⟩) HG2.out (by have := HO.out; simp; omega) (by have := HO.out; omega) (fun _ => rfl) (fun _ => ⟨_, rfl, fun j v hv => by
                  rw [Addr.add_add]
                  refine HCq2.out ad (k + j) v rfl ?_
                  rw [u16s, List.map_drop, List.getElem?_drop] at hv
                  exact hv⟩)
                rw [hlk2] at hcp2
                rw [fill_eq q k o (by omega) (by omega) HO.out] at hg3
                have HR3 := Aside0.mk ((ho3 w.heap.size (by omega)).trans HRr2.out)
                have HB3 := Aside0.mk (HBA2.out.drew.trans hb3)
                have hw3 : w.heap.size < W3.heap.size := by rw [hs3]; show _ < W2.heap.size; omega
                have HZ := Lib.hid (show sixL s.data.toList = some (q.take k ++ List.replicate (8 - q.length) 0 ++ q.drop k) by rw [HFILL.out, fillL, if_neg (by omega), if_pos h8]; simp)
                have hz8 : (q.take k ++ List.replicate (8 - q.length) 0 ++ q.drop k).length = 8 := by simp; omega
                have hzb : ∀ y ∈ (q.take k ++ List.replicate (8 - q.length) 0 ++ q.drop k), 0 ≤ y ∧ y ≤ 65535 := fill_bd q k hqb.out
                clear ho3 hs3 hb3 hcap hq8 x1 x2 hw1 hw2
                generalize (q.take k ++ List.replicate (8 - q.length) 0 ++ q.drop k) = zs at hg3 HZ hz8 hzb
                obtain ⟨y0, y1, y2, y3, y4, y5, y6, y7, rfl⟩ := list8 zs hz8
                have HFIN := Lib.hid (HSS.out _ HZ.out)
                have n0 := hzb y0 (by simp)
                have n1 := hzb y1 (by simp)
                have n2 := hzb y2 (by simp)
                have n3 := hzb y3 (by simp)
                have n4 := hzb y4 (by simp)
                have n5 := hzb y5 (by simp)
                have n6 := hzb y6 (by simp)
                have n7 := hzb y7 (by simp)
                have k0 : W3.cell? ⟨g, 0, none⟩ = some (.int .u16 y0) := (heap_cell (j := 0) hg3 rfl).1
                have k1 : W3.cell? ⟨g, 1, none⟩ = some (.int .u16 y1) := (heap_cell (j := 1) hg3 rfl).1
                have k2 : W3.cell? ⟨g, 2, none⟩ = some (.int .u16 y2) := (heap_cell (j := 2) hg3 rfl).1
                have k3 : W3.cell? ⟨g, 3, none⟩ = some (.int .u16 y3) := (heap_cell (j := 3) hg3 rfl).1
                have k4 : W3.cell? ⟨g, 4, none⟩ = some (.int .u16 y4) := (heap_cell (j := 4) hg3 rfl).1
                have k5 : W3.cell? ⟨g, 5, none⟩ = some (.int .u16 y5) := (heap_cell (j := 5) hg3 rfl).1
                have k6 : W3.cell? ⟨g, 6, none⟩ = some (.int .u16 y6) := (heap_cell (j := 6) hg3 rfl).1
                have k7 : W3.cell? ⟨g, 7, none⟩ = some (.int .u16 y7) := (heap_cell (j := 7) hg3 rfl).1
                clear hg3 hzb hz8 HZ
                go_wp2_with fail
                refine (of_calls y0 y1 y2 y3 y4 y5 y6 y7 n0 n1 n2 n3 n4 n5 n6 n7 _).mono ?_
                rintro e w4 ⟨rfl, b4⟩
                have hr4 := (b4.block w.heap.size hw3).trans HR3.out
                have HB4 := Aside0.mk (below_then HB3.out HB3.out.size b4)
                obtain ⟨r0, g0⟩ := heap_cell (j := 0) hr4 rfl
                obtain ⟨r1, g1⟩ := heap_cell (j := 1) hr4 rfl
                have HR4 := Aside0.mk hr4
                clear hr4 b4
                go_wp2_with fail
                refine bodyPost_ret (results_cell_bool rfl _ _ w.heap.size 34 #[.int .u64 (half [y0, y1, y2, y3]), .int .u64 (half [y4, y5, y6, y7])] (0, 0) _ rfl (heap_set1 _ (heap_set0 _ HR4.out)) Tryz.underlying34 rfl (by kernel_rfl)) rfl ?_
                exact ⟨ret_six HFIN.out.1.symm HFIN.out.2.1.symm HFIN.out.2.2.symm, (HB4.out.setCell (Nat.le_refl _) _).setCell (Nat.le_refl _) _⟩
              · obtain rfl : k = q.length := by omega
                obtain rfl : o = 8 := by omega
                rcases A with _ | ad
                · clear ho
                  go_still_tail 13, (by kernel_rfl)
                  change wpList _ _ _ _ _ W2.drew
                  obtain ⟨W3, hcp2, hg3, ho3, hs3, hb3⟩ := copyAt W2.drew w.heap.size g (by omega) none (c - q.length) ((List.replicate 8 0).take 0 ++ q.take q.length ++ (List.replicate 8 0).drop (0 + q.length)) [] 0 0 0 (some ⟨g, 0, none⟩) HG2.out (by simp) (by simp) (fun _ => rfl) (fun h => absurd h (by simp))
                  rw [show ([] : List Int).length = 0 from rfl] at hcp2
                  rw [fill_eq0 q] at hg3
                  have HR3 := Aside0.mk ((ho3 w.heap.size (by omega)).trans HRr2.out)
                  have HB3 := Aside0.mk (HBA2.out.drew.trans hb3)
                  have hw3 : w.heap.size < W3.heap.size := by rw [hs3]; show _ < W2.heap.size; omega
                  have HZ := Lib.hid (show sixL s.data.toList = some (q.take q.length ++ List.replicate (8 - q.length) 0 ++ q.drop q.length) by rw [HFILL.out, fillL, if_neg (by omega), if_pos h8]; simp)
                  have hz8 : (q.take q.length ++ List.replicate (8 - q.length) 0 ++ q.drop q.length).length = 8 := by simp; omega
                  have hzb : ∀ y ∈ (q.take q.length ++ List.replicate (8 - q.length) 0 ++ q.drop q.length), 0 ≤ y ∧ y ≤ 65535 := fill_bd q q.length hqb.out
                  clear ho3 hs3 hb3 hcap hq8 x1 x2 hw1 hw2
                  generalize (q.take q.length ++ List.replicate (8 - q.length) 0 ++ q.drop q.length) = zs at hg3 HZ hz8 hzb
                  obtain ⟨y0, y1, y2, y3, y4, y5, y6, y7, rfl⟩ := list8 zs hz8
                  have HFIN := Lib.hid (HSS.out _ HZ.out)
                  have n0 := hzb y0 (by simp)
                  have n1 := hzb y1 (by simp)
                  have n2 := hzb y2 (by simp)
                  have n3 := hzb y3 (by simp)
                  have n4 := hzb y4 (by simp)
                  have n5 := hzb y5 (by simp)
                  have n6 := hzb y6 (by simp)
                  have n7 := hzb y7 (by simp)
                  have k0 : W3.cell? ⟨g, 0, none⟩ = some (.int .u16 y0) := (heap_cell (j := 0) hg3 rfl).1
                  have k1 : W3.cell? ⟨g, 1, none⟩ = some (.int .u16 y1) := (heap_cell (j := 1) hg3 rfl).1
                  have k2 : W3.cell? ⟨g, 2, none⟩ = some (.int .u16 y2) := (heap_cell (j := 2) hg3 rfl).1
                  have k3 : W3.cell? ⟨g, 3, none⟩ = some (.int .u16 y3) := (heap_cell (j := 3) hg3 rfl).1
                  have k4 : W3.cell? ⟨g, 4, none⟩ = some (.int .u16 y4) := (heap_cell (j := 4) hg3 rfl).1
                  have k5 : W3.cell? ⟨g, 5, none⟩ = some (.int .u16 y5) := (heap_cell (j := 5) hg3 rfl).1
                  have k6 : W3.cell? ⟨g, 6, none⟩ = some (.int .u16 y6) := (heap_cell (j := 6) hg3 rfl).1
                  have k7 : W3.cell? ⟨g, 7, none⟩ = some (.int .u16 y7) := (heap_cell (j := 7) hg3 rfl).1
                  clear hg3 hzb hz8 HZ
                  go_wp2_with fail
                  refine (of_calls y0 y1 y2 y3 y4 y5 y6 y7 n0 n1 n2 n3 n4 n5 n6 n7 _).mono ?_
                  rintro e w4 ⟨rfl, b4⟩
                  have hr4 := (b4.block w.heap.size hw3).trans HR3.out
                  have HB4 := Aside0.mk (below_then HB3.out HB3.out.size b4)
                  obtain ⟨r0, g0⟩ := heap_cell (j := 0) hr4 rfl
                  obtain ⟨r1, g1⟩ := heap_cell (j := 1) hr4 rfl
                  have HR4 := Aside0.mk hr4
                  clear hr4 b4
                  go_wp2_with fail
                  refine bodyPost_ret (results_cell_bool rfl _ _ w.heap.size 34 #[.int .u64 (half [y0, y1, y2, y3]), .int .u64 (half [y4, y5, y6, y7])] (0, 0) _ rfl (heap_set1 _ (heap_set0 _ HR4.out)) Tryz.underlying34 rfl (by kernel_rfl)) rfl ?_
                  exact ⟨ret_six HFIN.out.1.symm HFIN.out.2.1.symm HFIN.out.2.2.symm, (HB4.out.setCell (Nat.le_refl _) _).setCell (Nat.le_refl _) _⟩
                · clear ho
                  by_cases hcc : c = q.length
                  · go_still_tail 13, (by kernel_rfl)
                    change wpList _ _ _ _ _ W2.drew
                    obtain ⟨W3, hcp2, hg3, ho3, hs3, hb3⟩ := copyAt W2.drew w.heap.size g (by omega) (some ad) (0) ((List.replicate 8 0).take 0 ++ q.take q.length ++ (List.replicate 8 0).drop (0 + q.length)) [] 0 0 0 (some ⟨g, 0, none⟩) HG2.out (by simp) (by simp) (fun _ => rfl) (fun h => absurd h (by simp))
                    rw [show ([] : List Int).length = 0 from rfl] at hcp2
                    rw [fill_eq0 q] at hg3
                    have HR3 := Aside0.mk ((ho3 w.heap.size (by omega)).trans HRr2.out)
                    have HB3 := Aside0.mk (HBA2.out.drew.trans hb3)
                    have hw3 : w.heap.size < W3.heap.size := by rw [hs3]; show _ < W2.heap.size; omega
                    have HZ := Lib.hid (show sixL s.data.toList = some (q.take q.length ++ List.replicate (8 - q.length) 0 ++ q.drop q.length) by rw [HFILL.out, fillL, if_neg (by omega), if_pos h8]; simp)
                    have hz8 : (q.take q.length ++ List.replicate (8 - q.length) 0 ++ q.drop q.length).length = 8 := by simp; omega
                    have hzb : ∀ y ∈ (q.take q.length ++ List.replicate (8 - q.length) 0 ++ q.drop q.length), 0 ≤ y ∧ y ≤ 65535 := fill_bd q q.length hqb.out
                    clear ho3 hs3 hb3 hcap hq8 x1 x2 hw1 hw2
                    generalize (q.take q.length ++ List.replicate (8 - q.length) 0 ++ q.drop q.length) = zs at hg3 HZ hz8 hzb
                    obtain ⟨y0, y1, y2, y3, y4, y5, y6, y7, rfl⟩ := list8 zs hz8
                    have HFIN := Lib.hid (HSS.out _ HZ.out)
                    have n0 := hzb y0 (by simp)
                    have n1 := hzb y1 (by simp)
                    have n2 := hzb y2 (by simp)
                    have n3 := hzb y3 (by simp)
                    have n4 := hzb y4 (by simp)
                    have n5 := hzb y5 (by simp)
                    have n6 := hzb y6 (by simp)
                    have n7 := hzb y7 (by simp)
                    have k0 : W3.cell? ⟨g, 0, none⟩ = some (.int .u16 y0) := (heap_cell (j := 0) hg3 rfl).1
                    have k1 : W3.cell? ⟨g, 1, none⟩ = some (.int .u16 y1) := (heap_cell (j := 1) hg3 rfl).1
                    have k2 : W3.cell? ⟨g, 2, none⟩ = some (.int .u16 y2) := (heap_cell (j := 2) hg3 rfl).1
                    have k3 : W3.cell? ⟨g, 3, none⟩ = some (.int .u16 y3) := (heap_cell (j := 3) hg3 rfl).1
                    have k4 : W3.cell? ⟨g, 4, none⟩ = some (.int .u16 y4) := (heap_cell (j := 4) hg3 rfl).1
                    have k5 : W3.cell? ⟨g, 5, none⟩ = some (.int .u16 y5) := (heap_cell (j := 5) hg3 rfl).1
                    have k6 : W3.cell? ⟨g, 6, none⟩ = some (.int .u16 y6) := (heap_cell (j := 6) hg3 rfl).1
                    have k7 : W3.cell? ⟨g, 7, none⟩ = some (.int .u16 y7) := (heap_cell (j := 7) hg3 rfl).1
                    clear hg3 hzb hz8 HZ
                    go_wp2_with fail
                    refine (of_calls y0 y1 y2 y3 y4 y5 y6 y7 n0 n1 n2 n3 n4 n5 n6 n7 _).mono ?_
                    rintro e w4 ⟨rfl, b4⟩
                    have hr4 := (b4.block w.heap.size hw3).trans HR3.out
                    have HB4 := Aside0.mk (below_then HB3.out HB3.out.size b4)
                    obtain ⟨r0, g0⟩ := heap_cell (j := 0) hr4 rfl
                    obtain ⟨r1, g1⟩ := heap_cell (j := 1) hr4 rfl
                    have HR4 := Aside0.mk hr4
                    clear hr4 b4
                    go_wp2_with fail
                    refine bodyPost_ret (results_cell_bool rfl _ _ w.heap.size 34 #[.int .u64 (half [y0, y1, y2, y3]), .int .u64 (half [y4, y5, y6, y7])] (0, 0) _ rfl (heap_set1 _ (heap_set0 _ HR4.out)) Tryz.underlying34 rfl (by kernel_rfl)) rfl ?_
                    exact ⟨ret_six HFIN.out.1.symm HFIN.out.2.1.symm HFIN.out.2.2.symm, (HB4.out.setCell (Nat.le_refl _) _).setCell (Nat.le_refl _) _⟩
                  · go_still_tail 13, (by kernel_rfl)
                    change wpList _ _ _ _ _ W2.drew
                    obtain ⟨W3, hcp2, hg3, ho3, hs3, hb3⟩ := copyAt W2.drew w.heap.size g (by omega) (some (ad.add q.length)) (c - q.length) ((List.replicate 8 0).take 0 ++ q.take q.length ++ (List.replicate 8 0).drop (0 + q.length)) [] 0 0 0 (some ⟨g, 0, none⟩) HG2.out (by simp) (by simp) (fun _ => rfl) (fun h => absurd h (by simp))
                    rw [show ([] : List Int).length = 0 from rfl] at hcp2
                    rw [fill_eq0 q] at hg3
                    have HR3 := Aside0.mk ((ho3 w.heap.size (by omega)).trans HRr2.out)
                    have HB3 := Aside0.mk (HBA2.out.drew.trans hb3)
                    have hw3 : w.heap.size < W3.heap.size := by rw [hs3]; show _ < W2.heap.size; omega
                    have HZ := Lib.hid (show sixL s.data.toList = some (q.take q.length ++ List.replicate (8 - q.length) 0 ++ q.drop q.length) by rw [HFILL.out, fillL, if_neg (by omega), if_pos h8]; simp)
                    have hz8 : (q.take q.length ++ List.replicate (8 - q.length) 0 ++ q.drop q.length).length = 8 := by simp; omega
                    have hzb : ∀ y ∈ (q.take q.length ++ List.replicate (8 - q.length) 0 ++ q.drop q.length), 0 ≤ y ∧ y ≤ 65535 := fill_bd q q.length hqb.out
                    clear ho3 hs3 hb3 hcap hq8 x1 x2 hw1 hw2
                    generalize (q.take q.length ++ List.replicate (8 - q.length) 0 ++ q.drop q.length) = zs at hg3 HZ hz8 hzb
                    obtain ⟨y0, y1, y2, y3, y4, y5, y6, y7, rfl⟩ := list8 zs hz8
                    have HFIN := Lib.hid (HSS.out _ HZ.out)
                    have n0 := hzb y0 (by simp)
                    have n1 := hzb y1 (by simp)
                    have n2 := hzb y2 (by simp)
                    have n3 := hzb y3 (by simp)
                    have n4 := hzb y4 (by simp)
                    have n5 := hzb y5 (by simp)
                    have n6 := hzb y6 (by simp)
                    have n7 := hzb y7 (by simp)
                    have k0 : W3.cell? ⟨g, 0, none⟩ = some (.int .u16 y0) := (heap_cell (j := 0) hg3 rfl).1
                    have k1 : W3.cell? ⟨g, 1, none⟩ = some (.int .u16 y1) := (heap_cell (j := 1) hg3 rfl).1
                    have k2 : W3.cell? ⟨g, 2, none⟩ = some (.int .u16 y2) := (heap_cell (j := 2) hg3 rfl).1
                    have k3 : W3.cell? ⟨g, 3, none⟩ = some (.int .u16 y3) := (heap_cell (j := 3) hg3 rfl).1
                    have k4 : W3.cell? ⟨g, 4, none⟩ = some (.int .u16 y4) := (heap_cell (j := 4) hg3 rfl).1
                    have k5 : W3.cell? ⟨g, 5, none⟩ = some (.int .u16 y5) := (heap_cell (j := 5) hg3 rfl).1
                    have k6 : W3.cell? ⟨g, 6, none⟩ = some (.int .u16 y6) := (heap_cell (j := 6) hg3 rfl).1
                    have k7 : W3.cell? ⟨g, 7, none⟩ = some (.int .u16 y7) := (heap_cell (j := 7) hg3 rfl).1
                    clear hg3 hzb hz8 HZ
                    go_wp2_with fail
                    refine (of_calls y0 y1 y2 y3 y4 y5 y6 y7 n0 n1 n2 n3 n4 n5 n6 n7 _).mono ?_
                    rintro e w4 ⟨rfl, b4⟩
                    have hr4 := (b4.block w.heap.size hw3).trans HR3.out
                    have HB4 := Aside0.mk (below_then HB3.out HB3.out.size b4)
                    obtain ⟨r0, g0⟩ := heap_cell (j := 0) hr4 rfl
                    obtain ⟨r1, g1⟩ := heap_cell (j := 1) hr4 rfl
                    have HR4 := Aside0.mk hr4
                    clear hr4 b4
                    go_wp2_with fail
                    refine bodyPost_ret (results_cell_bool rfl _ _ w.heap.size 34 #[.int .u64 (half [y0, y1, y2, y3]), .int .u64 (half [y4, y5, y6, y7])] (0, 0) _ rfl (heap_set1 _ (heap_set0 _ HR4.out)) Tryz.underlying34 rfl (by kernel_rfl)) rfl ?_
                    exact ⟨ret_six HFIN.out.1.symm HFIN.out.2.1.symm HFIN.out.2.2.symm, (HB4.out.setCell (Nat.le_refl _) _).setCell (Nat.le_refl _) _⟩
  · obtain ⟨r, hr⟩ : ∃ r : ByteArray, r = s := ⟨_, rfl⟩
    have hrd : r.data.toList = s.data.toList := by rw [hr]
    have hrz : r.size ≤ 900000 := by rw [hr]; exact hs
    have HST := Lib.hid (show sixL s.data.toList = match runL (r.data.toList.length + 1) r.data.toList [] (-1) false with
      | none => none
      | some (p, gap) => fillL p gap by rw [sixL, startL, if_neg (by rw [hp1]; decide), hrd] <;> rfl)
    have H1 := Lib.hid hp1
    clear hp1 hlen hrd
    go_enter Tryz.func54, Tryz.ntmps54
    go_wp2_with fail
    refine (Tryz.strings_HasPrefix _ _ _).mono ?_
    rintro e w1 ⟨rfl, rfl⟩
    rw [show (ByteArray.mk #[58]).data.toList = [58] from rfl, H1.out]
    have HRE := Lib.hid hr
    clear hr
    go_wp2_with fail
    have hr := HRE.out
    clear HRE
    obtain ⟨W0, hW0⟩ : ∃ W0, W0 = (w.alloc (.cells #[.int .u64 0, .int .u64 0] 34)).alloc (.cells #[.string s, .slice none 0 0, .int .i64 (-1), .bool false] 154) := ⟨_, rfl⟩
    rw [← hW0]
    rw [← hr] at hW0
    clear hr
    have hw0 : W0.heap[w.heap.size]? = some (.cells #[.int .u64 0, .int .u64 0] 34 (0, 0)) := by
      rw [hW0, heap_alloc_old' _ _ _ (by simp)]
      exact heap_alloc_new' _ _ _ rfl
    have hw1 : Holds W0 (w.heap.size + 1) (w.heap.size + 1) r [] (-1) false := ⟨_, by rw [hW0]; exact heap_alloc_new' _ _ _ (by simp), Kd.R_nil _ _ _ _ _⟩
    have hw2 : Below w.heap.size w W0 := by rw [hW0]; exact BEL0.out _ _
    have HW0 := Aside0.mk hw0
    have HW1 := Aside0.mk hw1
    have HW2 := Aside0.mk hw2
    clear hW0 hw0 hw1 hw2
    go_loopw [] (fun wr => ∃ (n : Nat) (rest : ByteArray) (q : List Int) (gap : Int) (ended : Bool), rest.size ≤ 900000 ∧ q.length ≤ 8 ∧ -1 ≤ gap ∧ gap ≤ q.length ∧ rest.size + (if ended = true then 0 else 1) ≤ n ∧ Aside0 (∀ x ∈ q, 0 ≤ x ∧ x ≤ 65535) ∧ Aside0 (runL n rest.data.toList q gap ended = runL (r.data.toList.length + 1) r.data.toList [] (-1) false) ∧ Aside0 (Holds wr (w.heap.size + 1) (w.heap.size + 1) rest q gap ended) ∧ Aside0 (wr.heap[w.heap.size]? = some (.cells #[.int .u64 0, .int .u64 0] 34 (0, 0))) ∧ Aside0 (Below w.heap.size w wr)) (fun wr => restM wr (w.heap.size + 1))
    case atStart => exact ⟨r.data.toList.length + 1, r, [], -1, false, hrz, by simp, by omega, by simp, by simp, ⟨by simp⟩, ⟨rfl⟩, HW1, HW0, HW2⟩
    case round =>
      obtain ⟨n, rest, q, gap, ended, hrs, hq8, hg0, hg1, hn, hqb, hrun, hH, hr0, hbw⟩ := hrel
      have HM0 := Lib.hid (restM_of hH.out)
      obtain ⟨v, hh, hR⟩ := hH.out
      obtain ⟨A, c, rfl, hcap, hC⟩ := Kd.R_reads hR
      obtain ⟨c0, f0⟩ := heap_cell (j := 0) hh rfl
      obtain ⟨c1, f1⟩ := heap_cell (j := 1) hh rfl
      obtain ⟨c2, f2⟩ := heap_cell (j := 2) hh rfl
      obtain ⟨c3, f3⟩ := heap_cell (j := 3) hh rfl
      have hbl := cell_lt c0
      have HHH := Aside0.mk hh
      have HC := Aside0.mk hC
      clear hh hR hC
      cases ended
      · obtain ⟨m, rfl⟩ : ∃ m, n = m + 1 := ⟨n - 1, by simp at hn; omega⟩
        have hm : rest.size ≤ m := by simp at hn; omega
        clear hn
        go_wp2_with fail
        refine (step_calls (w.heap.size + 1) (w.heap.size + 1) (Nat.le_refl _) rest q gap false _ hrs (by omega) hg0 (by omega) hH.out ⟨hE.out.stays hbw.out⟩ ⟨hM.out.stays hbw.out⟩).mono ?_
        rintro e w2 ⟨b2, ⟨hst, rfl⟩ | ⟨rest', q', gap', ended', hst, rfl, hH2⟩⟩
        · have hr2 := (b2.block w.heap.size (Nat.lt_succ_self _)).trans hr0.out
          have HF := Lib.hid (HSN.out (by rw [HST.out, ← hrun.out, run_step, hst]))
          have HB2 := Aside0.mk (hbw.out.trans (b2.mono (Nat.le_succ _)))
          obtain ⟨r0, g0⟩ := heap_cell (j := 0) hr2 rfl
          obtain ⟨r1, g1⟩ := heap_cell (j := 1) hr2 rfl
          have HR2 := Aside0.mk hr2
          clear c0 f0 c1 f1 c2 f2 c3 f3 hst b2 hr2
          go_wp2_with fail
          refine bodyPost_ret (results_cell_bool rfl _ _ w.heap.size 34 #[.int .u64 0, .int .u64 0] (0, 0) _ rfl (heap_set1 _ (heap_set0 _ HR2.out)) Tryz.underlying34 rfl (by kernel_rfl)) rfl ?_
          exact ⟨ret_six HF.out.1.symm HF.out.2.1.symm HF.out.2.2.symm, (HB2.out.setCell (Nat.le_refl _) _).setCell (Nat.le_refl _) _⟩
        · have hr2 := (b2.block w.heap.size (Nat.lt_succ_self _)).trans hr0.out
          have HB2 := Aside0.mk (hbw.out.trans (b2.mono (Nat.le_succ _)))
          have hinv := step_inv _ _ _ _ _ _ _ hst hqb.out ⟨hg0, hg1⟩
          obtain ⟨i1, i2, i3, i4, i5⟩ := hinv
          have HI1 := Aside0.mk i1
          have hl' : rest'.data.toList.length = rest'.size := by simp
          have hl0 : rest.data.toList.length = rest.size := by simp
          rw [hl', hl0] at i4 i5
          have HM2 := Lib.hid (restM_of hH2)
          have hH2' := hH2
          obtain ⟨v2, hh2, hR2⟩ := hH2'
          obtain ⟨A2, e2, rfl, hcap2, _⟩ := Kd.R_reads hR2
          obtain ⟨d1, k1⟩ := heap_cell (j := 1) hh2 rfl
          have HH2 := Aside0.mk hH2
          have HRUN := Lib.hid (show runL (m + 1) rest.data.toList q gap false = if 8 < q'.length then none else runL m rest'.data.toList q' gap' ended' by rw [run_step, hst])
          obtain ⟨r0, g0⟩ := heap_cell (j := 0) hr2 rfl
          obtain ⟨r1, g1⟩ := heap_cell (j := 1) hr2 rfl
          have HR2 := Aside0.mk hr2
          have hdec : rest'.size + (if ended' = true then 0 else 1) < rest.size + 1 := by
            cases ended'
            · have := i5 rfl
              simp
              omega
            · simp
              omega
          have HDEC := Aside0.mk hdec
          clear c0 f0 c1 f1 c2 f2 c3 f3 hst b2 hr2 hh2 hR2 hH2 i1 i5 hl' hl0 hdec
          by_cases h8 : 8 < q'.length
          · have HF := Lib.hid (HSN.out (by rw [HST.out, ← hrun.out, HRUN.out, if_pos h8]))
            go_wp2_with fail
            refine bodyPost_ret (results_cell_bool rfl _ _ w.heap.size 34 #[.int .u64 0, .int .u64 0] (0, 0) _ rfl (heap_set1 _ (heap_set0 _ HR2.out)) Tryz.underlying34 rfl (by kernel_rfl)) rfl ?_
            exact ⟨ret_six HF.out.1.symm HF.out.2.1.symm HF.out.2.2.symm, (HB2.out.setCell (Nat.le_refl _) _).setCell (Nat.le_refl _) _⟩
          · have HRUN2 := Aside0.mk (show runL m rest'.data.toList q' gap' ended' = runL (r.data.toList.length + 1) r.data.toList [] (-1) false by rw [← hrun.out, HRUN.out, if_neg h8])
            go_wp2_with fail
            go_roundw
            case rel => exact ⟨m, rest', q', gap', ended', by omega, by omega, i2.1, i2.2, by have := HDEC.out; omega, HI1, HRUN2, HH2, HR2, HB2⟩
            case measure =>
              rw [HM2.out, HM0.out]
              have := HDEC.out
              simp
              omega
      · have HFILL := Lib.hid (show sixL s.data.toList = fillL q gap by rw [HST.out, ← hrun.out, run_end])
        by_cases hgn : gap < 0
        · by_cases h8 : q.length = 8
          · clear c0 f0
            go_wp2_with fail
            obtain ⟨W1, hW1⟩ : ∃ W1, W1 = wr.alloc (.cells #[.int .u16 0, .int .u16 0, .int .u16 0, .int .u16 0, .int .u16 0, .int .u16 0, .int .u16 0, .int .u16 0] 103) := ⟨_, rfl⟩
            rw [← hW1]
            have hP : W1.heap[wr.heap.size]? = some (.cells (u16s (List.replicate 8 0)).toArray 103 (0, 0)) := by rw [hW1]; exact heap_alloc_new' _ _ _ rfl
            have hbA : Below wr.heap.size wr W1 := by rw [hW1]; exact (Below.refl _ _).alloc (Nat.le_refl _) _
            have hRr : W1.heap[w.heap.size]? = some (.cells #[.int .u64 0, .int .u64 0] 34 (0, 0)) := (hbA.block _ (by omega)).trans hr0.out
            have hRd := (hbA.block _ hbl).trans HHH.out
            have hCq := Kd.C_below HC.out hbA
            have hsz : W1.heap.size = wr.heap.size + 1 := by rw [hW1]; simp
            have HBA := Aside0.mk (hbw.out.trans (hbA.mono hbw.out.size))
            obtain ⟨e1, _⟩ := heap_cell (j := 1) hRd rfl
            obtain ⟨e2, _⟩ := heap_cell (j := 2) hRd rfl
            have HP := Aside0.mk hP
            have HRr := Aside0.mk hRr
            have HCq := Aside0.mk hCq
            have hPw : w.heap.size + 1 < wr.heap.size := hbl
            have hsz' : wr.heap.size < W1.heap.size := by omega
            clear hW1 hP hbA hRr hRd hCq hsz c1 f1 c2 f2 c3 f3
            generalize wr.heap.size = g at *
            go_still_tail 3, (by kernel_rfl)
            change wpList _ _ _ _ _ W1.drew
            have hsrc : 0 < q.length → ∃ ad, A = some ad ∧ ∀ j v, (u16s q)[j]? = some v → W1.drew.cell? (ad.add j) = some v := fun h => C_u16 HCq.out h
            obtain ⟨W3, hcp, hg3, ho3, hs3, hb3⟩ := copyAt W1.drew w.heap.size g (by omega) A c (List.replicate 8 0) q 0 8 8 (some ⟨g, 0, none⟩) HP.out (by simp; omega) (by omega) (fun _ => rfl) hsrc
            rw [show (List.replicate 8 (0 : Int)).take 0 ++ q ++ (List.replicate 8 (0 : Int)).drop (0 + q.length) = q by simp [h8]] at hg3
            rw [h8] at hcp
            have HR3 := Aside0.mk ((ho3 w.heap.size (by omega)).trans HRr.out)
            have HB3 := Aside0.mk (HBA.out.drew.trans hb3)
            have hw3 : w.heap.size < W3.heap.size := by rw [hs3]; show _ < W1.heap.size; omega
            have HZ := Lib.hid (show sixL s.data.toList = some q by rw [HFILL.out, fillL, if_pos hgn, if_pos h8])
            have hz8 := h8
            have hzb := hqb.out
            clear hsrc ho3 hs3 hb3 h8 hcap hq8
            clear e1 e2
            obtain ⟨zs, hzs⟩ : ∃ zs, zs = q := ⟨_, rfl⟩
            rw [← hzs] at hg3 HZ hz8 hzb
            clear hzs
            obtain ⟨y0, y1, y2, y3, y4, y5, y6, y7, rfl⟩ := list8 zs hz8
            have HFIN := Lib.hid (HSS.out _ HZ.out)
            have n0 := hzb y0 (by simp)
            have n1 := hzb y1 (by simp)
            have n2 := hzb y2 (by simp)
            have n3 := hzb y3 (by simp)
            have n4 := hzb y4 (by simp)
            have n5 := hzb y5 (by simp)
            have n6 := hzb y6 (by simp)
            have n7 := hzb y7 (by simp)
            have k0 : W3.cell? ⟨g, 0, none⟩ = some (.int .u16 y0) := (heap_cell (j := 0) hg3 rfl).1
            have k1 : W3.cell? ⟨g, 1, none⟩ = some (.int .u16 y1) := (heap_cell (j := 1) hg3 rfl).1
            have k2 : W3.cell? ⟨g, 2, none⟩ = some (.int .u16 y2) := (heap_cell (j := 2) hg3 rfl).1
            have k3 : W3.cell? ⟨g, 3, none⟩ = some (.int .u16 y3) := (heap_cell (j := 3) hg3 rfl).1
            have k4 : W3.cell? ⟨g, 4, none⟩ = some (.int .u16 y4) := (heap_cell (j := 4) hg3 rfl).1
            have k5 : W3.cell? ⟨g, 5, none⟩ = some (.int .u16 y5) := (heap_cell (j := 5) hg3 rfl).1
            have k6 : W3.cell? ⟨g, 6, none⟩ = some (.int .u16 y6) := (heap_cell (j := 6) hg3 rfl).1
            have k7 : W3.cell? ⟨g, 7, none⟩ = some (.int .u16 y7) := (heap_cell (j := 7) hg3 rfl).1
            clear hg3 hzb hz8 HZ
            go_wp2_with fail
            refine (of_calls y0 y1 y2 y3 y4 y5 y6 y7 n0 n1 n2 n3 n4 n5 n6 n7 _).mono ?_
            rintro e w4 ⟨rfl, b4⟩
            have hr4 := (b4.block w.heap.size hw3).trans HR3.out
            have HB4 := Aside0.mk (below_then HB3.out HB3.out.size b4)
            obtain ⟨r0, g0⟩ := heap_cell (j := 0) hr4 rfl
            obtain ⟨r1, g1⟩ := heap_cell (j := 1) hr4 rfl
            have HR4 := Aside0.mk hr4
            clear hr4 b4
            go_wp2_with fail
            refine bodyPost_ret (results_cell_bool rfl _ _ w.heap.size 34 #[.int .u64 (half [y0, y1, y2, y3]), .int .u64 (half [y4, y5, y6, y7])] (0, 0) _ rfl (heap_set1 _ (heap_set0 _ HR4.out)) Tryz.underlying34 rfl (by kernel_rfl)) rfl ?_
            exact ⟨ret_six HFIN.out.1.symm HFIN.out.2.1.symm HFIN.out.2.2.symm, (HB4.out.setCell (Nat.le_refl _) _).setCell (Nat.le_refl _) _⟩
          · have HF := Lib.hid (HSN.out (by rw [HFILL.out, fillL, if_pos hgn, if_neg h8]))
            obtain ⟨r0, g0⟩ := heap_cell (j := 0) hr0.out rfl
            obtain ⟨r1, g1⟩ := heap_cell (j := 1) hr0.out rfl
            go_wp2_with fail
            refine bodyPost_ret (results_cell_bool rfl _ _ w.heap.size 34 #[.int .u64 0, .int .u64 0] (0, 0) _ rfl (heap_set1 _ (heap_set0 _ hr0.out)) Tryz.underlying34 rfl (by kernel_rfl)) rfl ?_
            exact ⟨ret_six HF.out.1.symm HF.out.2.1.symm HF.out.2.2.symm, (hbw.out.setCell (Nat.le_refl _) _).setCell (Nat.le_refl _) _⟩
        · by_cases h8 : q.length < 8
          rotate_left
          · have HF := Lib.hid (HSN.out (by rw [HFILL.out, fillL, if_neg hgn, if_neg h8]))
            obtain ⟨r0, g0⟩ := heap_cell (j := 0) hr0.out rfl
            obtain ⟨r1, g1⟩ := heap_cell (j := 1) hr0.out rfl
            go_wp2_with fail
            refine bodyPost_ret (results_cell_bool rfl _ _ w.heap.size 34 #[.int .u64 0, .int .u64 0] (0, 0) _ rfl (heap_set1 _ (heap_set0 _ hr0.out)) Tryz.underlying34 rfl (by kernel_rfl)) rfl ?_
            exact ⟨ret_six HF.out.1.symm HF.out.2.1.symm HF.out.2.2.symm, (hbw.out.setCell (Nat.le_refl _) _).setCell (Nat.le_refl _) _⟩
          · obtain ⟨k, rfl⟩ : ∃ k : Nat, gap = k := ⟨gap.toNat, by omega⟩
            have hkq : k ≤ q.length := by omega
            have hlt8 : q.length < 8 := by omega
            clear c0 f0
            go_wp2_with fail
            obtain ⟨W1, hW1⟩ : ∃ W1, W1 = wr.alloc (.cells #[.int .u16 0, .int .u16 0, .int .u16 0, .int .u16 0, .int .u16 0, .int .u16 0, .int .u16 0, .int .u16 0] 103) := ⟨_, rfl⟩
            rw [← hW1]
            have hP : W1.heap[wr.heap.size]? = some (.cells (u16s (List.replicate 8 0)).toArray 103 (0, 0)) := by rw [hW1]; exact heap_alloc_new' _ _ _ rfl
            have hbA : Below wr.heap.size wr W1 := by rw [hW1]; exact (Below.refl _ _).alloc (Nat.le_refl _) _
            have hRr : W1.heap[w.heap.size]? = some (.cells #[.int .u64 0, .int .u64 0] 34 (0, 0)) := (hbA.block _ (by omega)).trans hr0.out
            have hRd := (hbA.block _ hbl).trans HHH.out
            have hCq := Kd.C_below HC.out hbA
            have hsz : W1.heap.size = wr.heap.size + 1 := by rw [hW1]; simp
            have HBA := Aside0.mk (hbw.out.trans (hbA.mono hbw.out.size))
            obtain ⟨e1, _⟩ := heap_cell (j := 1) hRd rfl
            obtain ⟨e2, _⟩ := heap_cell (j := 2) hRd rfl
            have HLT : Aside0 (∀ (ad : Addr) (j : Nat) (v : Value), A = some ad → (u16s q)[j]? = some v → (ad.add j).block < wr.heap.size) := ⟨fun ad j v e hv => by
              have hl := (List.getElem?_eq_some_iff.1 hv).1
              rw [u16s_length] at hl
              obtain ⟨ad', e', hc⟩ := C_u16 HC.out (by omega)
              obtain rfl := Option.some.inj (e.symm.trans e')
              exact cell_lt (hc j v hv)⟩
            have HP := Aside0.mk hP
            have HRr := Aside0.mk hRr
            have HRd := Aside0.mk hRd
            have HCq := Aside0.mk hCq
            have hPw : w.heap.size + 1 < wr.heap.size := hbl
            have hsz' : wr.heap.size < W1.heap.size := by omega
            clear hW1 hP hbA hRr hRd hCq hsz c1 f1 c2 f2 c3 f3
            generalize wr.heap.size = g at *
            go_wp2_with fail
            have hk0 : (0 : Int) ≤ (k : Int) := by omega
            have hkc : (k : Int) ≤ (c : Int) := by omega
            go_still_tail 6, (by kernel_rfl)
            change wpList _ _ _ _ _ W1.drew
            have hsrc : 0 < (q.take k).length → ∃ ad, A = some ad ∧ ∀ j v, (u16s (q.take k))[j]? = some v → W1.drew.cell? (ad.add j) = some v := fun h => by
              obtain ⟨ad, e, hc⟩ := C_u16 HCq.out (by rw [List.length_take] at h; omega)
              refine ⟨ad, e, fun j v hv => hc j v ?_⟩
              rw [u16s, List.map_take, List.getElem?_take] at hv
              split at hv
              · exact hv
              · cases hv
            have hlk : (q.take k).length = k := by rw [List.length_take]; omega
            obtain ⟨W2, hcp, hg2, ho2, hs2, hb2⟩ := copyAt W1.drew w.heap.size g (by omega) A c (List.replicate 8 0) (q.take k) 0 8 8 (some ⟨g, 0, none⟩) HP.out (by simp; omega) (by omega) (fun _ => rfl) hsrc
            rw [hlk] at hcp hg2
            have HG2 := Aside0.mk hg2
            have HRr2 := Aside0.mk ((ho2 w.heap.size (by omega)).trans HRr.out)
            have hRd2 := (ho2 (w.heap.size + 1) (by omega)).trans HRd.out
            have hB2' := HBA.out.drew.trans hb2
            have HBA2 := Aside0.mk hB2'
            have HCq2 : Aside0 (∀ (ad : Addr) (j : Nat) (v : Value), A = some ad → (u16s q)[j]? = some v → W2.cell? (ad.add j) = some v) := ⟨fun ad j v e hv => by
              have hl := (List.getElem?_eq_some_iff.1 hv).1
              rw [u16s_length] at hl
              obtain ⟨ad', e', hc⟩ := C_u16 HCq.out (by omega)
              obtain rfl := Option.some.inj (e.symm.trans e')
              have hb := HLT.out ad j v e hv
              exact (World.cell?_of_block (w := W1.drew) (ho2 _ (by omega))).trans (hc j v hv)⟩
            have hs2' : g < W2.heap.size := by rw [hs2]; exact hsz'
            obtain ⟨x1, _⟩ := heap_cell (j := 1) hRd2 rfl
            obtain ⟨x2, _⟩ := heap_cell (j := 2) hRd2 rfl
            clear hsrc hg2 ho2 hs2 hb2 hRd2 hB2' e1 e2
            go_wp2_with fail
            have hw1 : IntKind.i64.wrap (8 - (q.length : Int)) = ((8 - q.length : Nat) : Int) := by
              rw [i64_small _ (by omega) (by omega)]
              omega
            obtain ⟨o, ho⟩ : ∃ o : Nat, o = 8 - q.length + k := ⟨_, rfl⟩
            have hw2 : IntKind.i64.wrap (((8 - q.length : Nat) : Int) + (k : Int)) = (o : Int) := by
              rw [i64_small _ (by omega) (by omega)]
              omega
            have HO := Lib.hid ho
            have ho0 : (0 : Int) ≤ (o : Int) := by omega
            have ho8 : (o : Int) ≤ 8 := by omega
            have hkl : (k : Int) ≤ (q.length : Int) := by omega
            by_cases hkk : k < q.length
            · obtain ⟨ad, rfl, _⟩ := C_u16 HCq.out (by omega)
              have ho7 : o < 8 := by omega
              have hne1 : ¬ 8 = o := by omega
              have hne2 : ¬ c = k := by omega
              clear ho
              go_still_tail 13, (by kernel_rfl)
              change wpList _ _ _ _ _ W2.drew
              have hlk2 : (q.drop k).length = q.length - k := by rw [List.length_drop]
              obtain ⟨W3, hcp2, hg3, ho3, hs3, hb3⟩ := copyAt W2.drew w.heap.size g (by omega) (some (ad.add k)) (c - k) ((List.replicate 8 0).take 0 ++ q.take k ++ (List.replicate 8 0).drop (0 + k)) (q.drop k) o (8 - o) (8 - o) (some ⟨g, o, none⟩) HG2.out (by have := HO.out; simp; omega) (by have := HO.out; omega) (fun _ => rfl) (fun _ => ⟨_, rfl, fun j v hv => by
                rw [Addr.add_add]
                refine HCq2.out ad (k + j) v rfl ?_
                rw [u16s, List.map_drop, List.getElem?_drop] at hv
                exact hv⟩)
              rw [hlk2] at hcp2
              rw [fill_eq q k o (by omega) (by omega) HO.out] at hg3
              have HR3 := Aside0.mk ((ho3 w.heap.size (by omega)).trans HRr2.out)
              have HB3 := Aside0.mk (HBA2.out.drew.trans hb3)
              have hw3 : w.heap.size < W3.heap.size := by rw [hs3]; show _ < W2.heap.size; omega
              have HZ := Lib.hid (show sixL s.data.toList = some (q.take k ++ List.replicate (8 - q.length) 0 ++ q.drop k) by rw [HFILL.out, fillL, if_neg (by omega), if_pos h8]; simp)
              have hz8 : (q.take k ++ List.replicate (8 - q.length) 0 ++ q.drop k).length = 8 := by simp; omega
              have hzb : ∀ y ∈ (q.take k ++ List.replicate (8 - q.length) 0 ++ q.drop k), 0 ≤ y ∧ y ≤ 65535 := fill_bd q k hqb.out
              clear ho3 hs3 hb3 hcap hq8 x1 x2 hw1 hw2
              generalize (q.take k ++ List.replicate (8 - q.length) 0 ++ q.drop k) = zs at hg3 HZ hz8 hzb
              obtain ⟨y0, y1, y2, y3, y4, y5, y6, y7, rfl⟩ := list8 zs hz8
              have HFIN := Lib.hid (HSS.out _ HZ.out)
              have n0 := hzb y0 (by simp)
              have n1 := hzb y1 (by simp)
              have n2 := hzb y2 (by simp)
              have n3 := hzb y3 (by simp)
              have n4 := hzb y4 (by simp)
              have n5 := hzb y5 (by simp)
              have n6 := hzb y6 (by simp)
              have n7 := hzb y7 (by simp)
              have k0 : W3.cell? ⟨g, 0, none⟩ = some (.int .u16 y0) := (heap_cell (j := 0) hg3 rfl).1
              have k1 : W3.cell? ⟨g, 1, none⟩ = some (.int .u16 y1) := (heap_cell (j := 1) hg3 rfl).1
              have k2 : W3.cell? ⟨g, 2, none⟩ = some (.int .u16 y2) := (heap_cell (j := 2) hg3 rfl).1
              have k3 : W3.cell? ⟨g, 3, none⟩ = some (.int .u16 y3) := (heap_cell (j := 3) hg3 rfl).1
              have k4 : W3.cell? ⟨g, 4, none⟩ = some (.int .u16 y4) := (heap_cell (j := 4) hg3 rfl).1
              have k5 : W3.cell? ⟨g, 5, none⟩ = some (.int .u16 y5) := (heap_cell (j := 5) hg3 rfl).1
              have k6 : W3.cell? ⟨g, 6, none⟩ = some (.int .u16 y6) := (heap_cell (j := 6) hg3 rfl).1
              have k7 : W3.cell? ⟨g, 7, none⟩ = some (.int .u16 y7) := (heap_cell (j := 7) hg3 rfl).1
              clear hg3 hzb hz8 HZ
              go_wp2_with fail
              refine (of_calls y0 y1 y2 y3 y4 y5 y6 y7 n0 n1 n2 n3 n4 n5 n6 n7 _).mono ?_
              rintro e w4 ⟨rfl, b4⟩
              have hr4 := (b4.block w.heap.size hw3).trans HR3.out
              have HB4 := Aside0.mk (below_then HB3.out HB3.out.size b4)
              obtain ⟨r0, g0⟩ := heap_cell (j := 0) hr4 rfl
              obtain ⟨r1, g1⟩ := heap_cell (j := 1) hr4 rfl
              have HR4 := Aside0.mk hr4
              clear hr4 b4
              go_wp2_with fail
              refine bodyPost_ret (results_cell_bool rfl _ _ w.heap.size 34 #[.int .u64 (half [y0, y1, y2, y3]), .int .u64 (half [y4, y5, y6, y7])] (0, 0) _ rfl (heap_set1 _ (heap_set0 _ HR4.out)) Tryz.underlying34 rfl (by kernel_rfl)) rfl ?_
              exact ⟨ret_six HFIN.out.1.symm HFIN.out.2.1.symm HFIN.out.2.2.symm, (HB4.out.setCell (Nat.le_refl _) _).setCell (Nat.le_refl _) _⟩
            · obtain rfl : k = q.length := by omega
              obtain rfl : o = 8 := by omega
              rcases A with _ | ad
              · clear ho
                go_still_tail 13, (by kernel_rfl)
                change wpList _ _ _ _ _ W2.drew
                obtain ⟨W3, hcp2, hg3, ho3, hs3, hb3⟩ := copyAt W2.drew w.heap.size g (by omega) none (c - q.length) ((List.replicate 8 0).take 0 ++ q.take q.length ++ (List.replicate 8 0).drop (0 + q.length)) [] 0 0 0 (some ⟨g, 0, none⟩) HG2.out (by simp) (by simp) (fun _ => rfl) (fun h => absurd h (by simp))
                rw [show ([] : List Int).length = 0 from rfl] at hcp2
                rw [fill_eq0 q] at hg3
                have HR3 := Aside0.mk ((ho3 w.heap.size (by omega)).trans HRr2.out)
                have HB3 := Aside0.mk (HBA2.out.drew.trans hb3)
                have hw3 : w.heap.size < W3.heap.size := by rw [hs3]; show _ < W2.heap.size; omega
                have HZ := Lib.hid (show sixL s.data.toList = some (q.take q.length ++ List.replicate (8 - q.length) 0 ++ q.drop q.length) by rw [HFILL.out, fillL, if_neg (by omega), if_pos h8]; simp)
                have hz8 : (q.take q.length ++ List.replicate (8 - q.length) 0 ++ q.drop q.length).length = 8 := by simp; omega
                have hzb : ∀ y ∈ (q.take q.length ++ List.replicate (8 - q.length) 0 ++ q.drop q.length), 0 ≤ y ∧ y ≤ 65535 := fill_bd q q.length hqb.out
                clear ho3 hs3 hb3 hcap hq8 x1 x2 hw1 hw2
                generalize (q.take q.length ++ List.replicate (8 - q.length) 0 ++ q.drop q.length) = zs at hg3 HZ hz8 hzb
                obtain ⟨y0, y1, y2, y3, y4, y5, y6, y7, rfl⟩ := list8 zs hz8
                have HFIN := Lib.hid (HSS.out _ HZ.out)
                have n0 := hzb y0 (by simp)
                have n1 := hzb y1 (by simp)
                have n2 := hzb y2 (by simp)
                have n3 := hzb y3 (by simp)
                have n4 := hzb y4 (by simp)
                have n5 := hzb y5 (by simp)
                have n6 := hzb y6 (by simp)
                have n7 := hzb y7 (by simp)
                have k0 : W3.cell? ⟨g, 0, none⟩ = some (.int .u16 y0) := (heap_cell (j := 0) hg3 rfl).1
                have k1 : W3.cell? ⟨g, 1, none⟩ = some (.int .u16 y1) := (heap_cell (j := 1) hg3 rfl).1
                have k2 : W3.cell? ⟨g, 2, none⟩ = some (.int .u16 y2) := (heap_cell (j := 2) hg3 rfl).1
                have k3 : W3.cell? ⟨g, 3, none⟩ = some (.int .u16 y3) := (heap_cell (j := 3) hg3 rfl).1
                have k4 : W3.cell? ⟨g, 4, none⟩ = some (.int .u16 y4) := (heap_cell (j := 4) hg3 rfl).1
                have k5 : W3.cell? ⟨g, 5, none⟩ = some (.int .u16 y5) := (heap_cell (j := 5) hg3 rfl).1
                have k6 : W3.cell? ⟨g, 6, none⟩ = some (.int .u16 y6) := (heap_cell (j := 6) hg3 rfl).1
                have k7 : W3.cell? ⟨g, 7, none⟩ = some (.int .u16 y7) := (heap_cell (j := 7) hg3 rfl).1
                clear hg3 hzb hz8 HZ
                go_wp2_with fail
                refine (of_calls y0 y1 y2 y3 y4 y5 y6 y7 n0 n1 n2 n3 n4 n5 n6 n7 _).mono ?_
                rintro e w4 ⟨rfl, b4⟩
                have hr4 := (b4.block w.heap.size hw3).trans HR3.out
                have HB4 := Aside0.mk (below_then HB3.out HB3.out.size b4)
                obtain ⟨r0, g0⟩ := heap_cell (j := 0) hr4 rfl
                obtain ⟨r1, g1⟩ := heap_cell (j := 1) hr4 rfl
                have HR4 := Aside0.mk hr4
                clear hr4 b4
                go_wp2_with fail
                refine bodyPost_ret (results_cell_bool rfl _ _ w.heap.size 34 #[.int .u64 (half [y0, y1, y2, y3]), .int .u64 (half [y4, y5, y6, y7])] (0, 0) _ rfl (heap_set1 _ (heap_set0 _ HR4.out)) Tryz.underlying34 rfl (by kernel_rfl)) rfl ?_
                exact ⟨ret_six HFIN.out.1.symm HFIN.out.2.1.symm HFIN.out.2.2.symm, (HB4.out.setCell (Nat.le_refl _) _).setCell (Nat.le_refl _) _⟩
              · clear ho
                by_cases hcc : c = q.length
                · go_still_tail 13, (by kernel_rfl)
                  change wpList _ _ _ _ _ W2.drew
                  obtain ⟨W3, hcp2, hg3, ho3, hs3, hb3⟩ := copyAt W2.drew w.heap.size g (by omega) (some ad) (0) ((List.replicate 8 0).take 0 ++ q.take q.length ++ (List.replicate 8 0).drop (0 + q.length)) [] 0 0 0 (some ⟨g, 0, none⟩) HG2.out (by simp) (by simp) (fun _ => rfl) (fun h => absurd h (by simp))
                  rw [show ([] : List Int).length = 0 from rfl] at hcp2
                  rw [fill_eq0 q] at hg3
                  have HR3 := Aside0.mk ((ho3 w.heap.size (by omega)).trans HRr2.out)
                  have HB3 := Aside0.mk (HBA2.out.drew.trans hb3)
                  have hw3 : w.heap.size < W3.heap.size := by rw [hs3]; show _ < W2.heap.size; omega
                  have HZ := Lib.hid (show sixL s.data.toList = some (q.take q.length ++ List.replicate (8 - q.length) 0 ++ q.drop q.length) by rw [HFILL.out, fillL, if_neg (by omega), if_pos h8]; simp)
                  have hz8 : (q.take q.length ++ List.replicate (8 - q.length) 0 ++ q.drop q.length).length = 8 := by simp; omega
                  have hzb : ∀ y ∈ (q.take q.length ++ List.replicate (8 - q.length) 0 ++ q.drop q.length), 0 ≤ y ∧ y ≤ 65535 := fill_bd q q.length hqb.out
                  clear ho3 hs3 hb3 hcap hq8 x1 x2 hw1 hw2
                  generalize (q.take q.length ++ List.replicate (8 - q.length) 0 ++ q.drop q.length) = zs at hg3 HZ hz8 hzb
                  obtain ⟨y0, y1, y2, y3, y4, y5, y6, y7, rfl⟩ := list8 zs hz8
                  have HFIN := Lib.hid (HSS.out _ HZ.out)
                  have n0 := hzb y0 (by simp)
                  have n1 := hzb y1 (by simp)
                  have n2 := hzb y2 (by simp)
                  have n3 := hzb y3 (by simp)
                  have n4 := hzb y4 (by simp)
                  have n5 := hzb y5 (by simp)
                  have n6 := hzb y6 (by simp)
                  have n7 := hzb y7 (by simp)
                  have k0 : W3.cell? ⟨g, 0, none⟩ = some (.int .u16 y0) := (heap_cell (j := 0) hg3 rfl).1
                  have k1 : W3.cell? ⟨g, 1, none⟩ = some (.int .u16 y1) := (heap_cell (j := 1) hg3 rfl).1
                  have k2 : W3.cell? ⟨g, 2, none⟩ = some (.int .u16 y2) := (heap_cell (j := 2) hg3 rfl).1
                  have k3 : W3.cell? ⟨g, 3, none⟩ = some (.int .u16 y3) := (heap_cell (j := 3) hg3 rfl).1
                  have k4 : W3.cell? ⟨g, 4, none⟩ = some (.int .u16 y4) := (heap_cell (j := 4) hg3 rfl).1
                  have k5 : W3.cell? ⟨g, 5, none⟩ = some (.int .u16 y5) := (heap_cell (j := 5) hg3 rfl).1
                  have k6 : W3.cell? ⟨g, 6, none⟩ = some (.int .u16 y6) := (heap_cell (j := 6) hg3 rfl).1
                  have k7 : W3.cell? ⟨g, 7, none⟩ = some (.int .u16 y7) := (heap_cell (j := 7) hg3 rfl).1
                  clear hg3 hzb hz8 HZ
                  go_wp2_with fail
                  refine (of_calls y0 y1 y2 y3 y4 y5 y6 y7 n0 n1 n2 n3 n4 n5 n6 n7 _).mono ?_
                  rintro e w4 ⟨rfl, b4⟩
                  have hr4 := (b4.block w.heap.size hw3).trans HR3.out
                  have HB4 := Aside0.mk (below_then HB3.out HB3.out.size b4)
                  obtain ⟨r0, g0⟩ := heap_cell (j := 0) hr4 rfl
                  obtain ⟨r1, g1⟩ := heap_cell (j := 1) hr4 rfl
                  have HR4 := Aside0.mk hr4
                  clear hr4 b4
                  go_wp2_with fail
                  refine bodyPost_ret (results_cell_bool rfl _ _ w.heap.size 34 #[.int .u64 (half [y0, y1, y2, y3]), .int .u64 (half [y4, y5, y6, y7])] (0, 0) _ rfl (heap_set1 _ (heap_set0 _ HR4.out)) Tryz.underlying34 rfl (by kernel_rfl)) rfl ?_
                  exact ⟨ret_six HFIN.out.1.symm HFIN.out.2.1.symm HFIN.out.2.2.symm, (HB4.out.setCell (Nat.le_refl _) _).setCell (Nat.le_refl _) _⟩
                · go_still_tail 13, (by kernel_rfl)
                  change wpList _ _ _ _ _ W2.drew
                  obtain ⟨W3, hcp2, hg3, ho3, hs3, hb3⟩ := copyAt W2.drew w.heap.size g (by omega) (some (ad.add q.length)) (c - q.length) ((List.replicate 8 0).take 0 ++ q.take q.length ++ (List.replicate 8 0).drop (0 + q.length)) [] 0 0 0 (some ⟨g, 0, none⟩) HG2.out (by simp) (by simp) (fun _ => rfl) (fun h => absurd h (by simp))
                  rw [show ([] : List Int).length = 0 from rfl] at hcp2
                  rw [fill_eq0 q] at hg3
                  have HR3 := Aside0.mk ((ho3 w.heap.size (by omega)).trans HRr2.out)
                  have HB3 := Aside0.mk (HBA2.out.drew.trans hb3)
                  have hw3 : w.heap.size < W3.heap.size := by rw [hs3]; show _ < W2.heap.size; omega
                  have HZ := Lib.hid (show sixL s.data.toList = some (q.take q.length ++ List.replicate (8 - q.length) 0 ++ q.drop q.length) by rw [HFILL.out, fillL, if_neg (by omega), if_pos h8]; simp)
                  have hz8 : (q.take q.length ++ List.replicate (8 - q.length) 0 ++ q.drop q.length).length = 8 := by simp; omega
                  have hzb : ∀ y ∈ (q.take q.length ++ List.replicate (8 - q.length) 0 ++ q.drop q.length), 0 ≤ y ∧ y ≤ 65535 := fill_bd q q.length hqb.out
                  clear ho3 hs3 hb3 hcap hq8 x1 x2 hw1 hw2
                  generalize (q.take q.length ++ List.replicate (8 - q.length) 0 ++ q.drop q.length) = zs at hg3 HZ hz8 hzb
                  obtain ⟨y0, y1, y2, y3, y4, y5, y6, y7, rfl⟩ := list8 zs hz8
                  have HFIN := Lib.hid (HSS.out _ HZ.out)
                  have n0 := hzb y0 (by simp)
                  have n1 := hzb y1 (by simp)
                  have n2 := hzb y2 (by simp)
                  have n3 := hzb y3 (by simp)
                  have n4 := hzb y4 (by simp)
                  have n5 := hzb y5 (by simp)
                  have n6 := hzb y6 (by simp)
                  have n7 := hzb y7 (by simp)
                  have k0 : W3.cell? ⟨g, 0, none⟩ = some (.int .u16 y0) := (heap_cell (j := 0) hg3 rfl).1
                  have k1 : W3.cell? ⟨g, 1, none⟩ = some (.int .u16 y1) := (heap_cell (j := 1) hg3 rfl).1
                  have k2 : W3.cell? ⟨g, 2, none⟩ = some (.int .u16 y2) := (heap_cell (j := 2) hg3 rfl).1
                  have k3 : W3.cell? ⟨g, 3, none⟩ = some (.int .u16 y3) := (heap_cell (j := 3) hg3 rfl).1
                  have k4 : W3.cell? ⟨g, 4, none⟩ = some (.int .u16 y4) := (heap_cell (j := 4) hg3 rfl).1
                  have k5 : W3.cell? ⟨g, 5, none⟩ = some (.int .u16 y5) := (heap_cell (j := 5) hg3 rfl).1
                  have k6 : W3.cell? ⟨g, 6, none⟩ = some (.int .u16 y6) := (heap_cell (j := 6) hg3 rfl).1
                  have k7 : W3.cell? ⟨g, 7, none⟩ = some (.int .u16 y7) := (heap_cell (j := 7) hg3 rfl).1
                  clear hg3 hzb hz8 HZ
                  go_wp2_with fail
                  refine (of_calls y0 y1 y2 y3 y4 y5 y6 y7 n0 n1 n2 n3 n4 n5 n6 n7 _).mono ?_
                  rintro e w4 ⟨rfl, b4⟩
                  have hr4 := (b4.block w.heap.size hw3).trans HR3.out
                  have HB4 := Aside0.mk (below_then HB3.out HB3.out.size b4)
                  obtain ⟨r0, g0⟩ := heap_cell (j := 0) hr4 rfl
                  obtain ⟨r1, g1⟩ := heap_cell (j := 1) hr4 rfl
                  have HR4 := Aside0.mk hr4
                  clear hr4 b4
                  go_wp2_with fail
                  refine bodyPost_ret (results_cell_bool rfl _ _ w.heap.size 34 #[.int .u64 (half [y0, y1, y2, y3]), .int .u64 (half [y4, y5, y6, y7])] (0, 0) _ rfl (heap_set1 _ (heap_set0 _ HR4.out)) Tryz.underlying34 rfl (by kernel_rfl)) rfl ?_
                  exact ⟨ret_six HFIN.out.1.symm HFIN.out.2.1.symm HFIN.out.2.2.symm, (HB4.out.setCell (Nat.le_refl _) _).setCell (Nat.le_refl _) _⟩
end Go.Proofs.YtplehdcnnaamkaaGreatDoor

/- What the document's Parse of an address of eight pieces needs: plain Lean. -/
namespace Go.Proofs.YtplehdcnnaamkaaGreatDoor
open Go.RowKit Go.Proofs.YtplehdcnnaamkaaGreatDoorW.PrintWords

theorem half_snoc (xs : List Int) (x : Int) : half (xs ++ [x]) = half xs * 65536 + x := by simp [half]
theorem half_take (l : List Int) (hb : ∀ x ∈ l, 0 ≤ x ∧ x ≤ 65535) : ∀ j, 0 ≤ half (l.take j) ∧ half (l.take j) < 65536 ^ j
  | 0 => by simp [half]
  | j + 1 => by
    have ih := half_take l hb j
    by_cases hj : j < l.length
    · rw [List.take_succ_eq_append_getElem hj, half_snoc]
      have := hb (l[j]'hj) (List.getElem_mem hj)
      rw [Int.pow_succ]
      omega
    · rw [List.take_of_length_le (by omega)] at ih ⊢
      rw [Int.pow_succ]
      omega
end Go.Proofs.YtplehdcnnaamkaaGreatDoor

/- An address of eight pieces as a wide number. -/
namespace Go.Proofs.YtplehdcnnaamkaaGreatDoor
open Go.RowKit Go.Proofs.YtplehdcnnaamkaaGreatDoorW.PrintWords Go.Proofs.YtplehdcnnaamkaaGreatDoorW.PrintMore

theorem Wide6_calls (hi lo : Int) (w : World) : Calls Tryz.prog 220 #[.agg #[.int .u64 hi, .int .u64 lo]] w fun e w' => e = .returned (.tuple #[.int .u64 hi, .int .u64 lo]) ∧ Below w.heap.size w w' := by
  go_enter Tryz.func220, Tryz.ntmps220
  go_wp2_with fail
  have hg : (w.alloc (.cells #[.int .u64 hi, .int .u64 lo] 34)).heap[w.heap.size]? = some (.cells #[.int .u64 hi, .int .u64 lo] 34 (0, 0)) := heap_alloc_new' _ _ _ rfl
  have hb : Below w.heap.size w (w.alloc (.cells #[.int .u64 hi, .int .u64 lo] 34)) := (Below.refl _ _).alloc (Nat.le_refl _) _
  generalize w.alloc (.cells #[.int .u64 hi, .int .u64 lo] 34) = W at hg hb ⊢
  have HB := Aside0.mk hb
  obtain ⟨c0, _⟩ := heap_cell (j := 0) hg rfl
  obtain ⟨c1, _⟩ := heap_cell (j := 1) hg rfl
  clear hb hg
  go_region
  all_goals
    go_wp2_with fail
    go_ret2
    exact ⟨rfl, HB.out.drew⟩
end Go.Proofs.YtplehdcnnaamkaaGreatDoor

/- math/bits.TrailingZeros at 8 and 16; internal/strconv.isPowerOfTwo there. -/
namespace Go.Proofs.YtplehdcnnaamkaaGreatDoor
open Go.RowKit Go.ChangeShapes Go.Proofs.YtplehdcnnaamkaaGreatDoorW.PrintWords Go.Proofs.YtplehdcnnaamkaaGreatDoorW.PrintMore

/-- The bits' table. -/
def tab64 : List Int := [0, 1, 56, 2, 57, 49, 28, 3, 61, 58, 42, 50, 38, 29, 17, 4, 62, 47, 59, 36, 45, 43, 51, 22, 53, 39, 33, 30, 24, 18, 12, 5, 63, 55, 48, 27, 60, 41, 37, 16, 46, 35, 44, 21, 52, 32, 23, 11, 54, 26, 40, 15, 34, 20, 31, 10, 25, 14, 19, 9, 13, 8, 7, 6]
def Debr (w : World) : Prop := Lib.TabIs Tryz.prog w "math/bits.deBruijn64tab" .u8 tab64
theorem gDebr : Tryz.prog.globalNamed "math/bits.deBruijn64tab" = some 8 := by kernel_rfl
theorem gDebrType : (Tryz.prog.globals[8]?).map (·.type) = some 259 := by kernel_rfl
theorem debrData : (Rows.laid_math_bits_deBruijn64tab : DataW Unit) = Lib.tabData .u8 tab64 := by rfl
theorem lCellsB : Tryz.prog.cellsOf 5 = 1 := by kernel_rfl
theorem lCellsD : Tryz.prog.cellsOf 259 = 64 := by kernel_rfl
theorem debr_of {r : List (String × DataW Unit)} {W : World} (h : laidMet Tryz.prog (("math/bits.deBruijn64tab", Rows.laid_math_bits_deBruijn64tab) :: r) W) : Debr W := by
  rw [debrData] at h
  exact Lib.tabIs_of_head gDebr gDebrType Tryz.underlying259 Tryz.underlying5 lCellsB lCellsD h
theorem Debr.stays {w w' : World} (h : Debr w) (hb : Below w.heap.size w w') : Debr w' := Joins.tab_stays gDebr h hb (Nat.le_refl _)

set_option maxHeartbeats 1000000 in
theorem Tz64_calls (b sh : Int) (h : b = 8 ∧ sh = 3 ∨ b = 16 ∧ sh = 4) (w : World) (hT : Debr w) :
    Calls Tryz.prog 181 #[.int .u64 b] w fun e w' => e = .returned (.int .i64 sh) ∧ w = w' := by
  have c3 : w.cell? ⟨8, 7, none⟩ = some (.int .u8 3) := hT.cell gDebr 7 (by decide)
  have c4 : w.cell? ⟨8, 15, none⟩ = some (.int .u8 4) := hT.cell gDebr 15 (by decide)
  have e8 : Go.bits .and .u64 8 (IntKind.u64.wrap (-8)) = 8 := by decide +kernel
  have e16 : Go.bits .and .u64 16 (IntKind.u64.wrap (-16)) = 16 := by decide +kernel
  have f8 : IntKind.u64.wrap (8 * 285870213051353865) = 2286961704410830920 := by decide +kernel
  have f16 : IntKind.u64.wrap (16 * 285870213051353865) = 4573923408821661840 := by decide +kernel
  rcases h with ⟨rfl, rfl⟩ | ⟨rfl, rfl⟩
  all_goals
    go_enter Tryz.func181, Tryz.ntmps181
    go_wp2
    go_ret
    exact ⟨rfl, rfl⟩
theorem Tz_calls (b sh : Int) (h : b = 8 ∧ sh = 3 ∨ b = 16 ∧ sh = 4) (w : World) (hT : Debr w) :
    Calls Tryz.prog 164 #[.int .u64 b] w fun e w' => e = .returned (.int .i64 sh) ∧ w = w' := by
  have hb : 0 ≤ b ∧ b ≤ 16 := by omega
  have HH := Lib.hid h
  clear h
  go_enter Tryz.func164, Tryz.ntmps164
  go_wp2_with fail
  refine (Tz64_calls b sh HH.out _ hT).mono ?_
  rintro e w1 ⟨rfl, rfl⟩
  go_wp2_with fail
  go_ret
  exact ⟨rfl, rfl⟩
theorem Pow2_calls (b : Int) (h : b = 8 ∨ b = 16) (w : World) :
    Calls Tryz.prog 163 #[.int .i64 b] w fun e w' => e = .returned (.bool true) ∧ w = w' := by
  have e8 : Go.bits .and .i64 8 7 = 0 := by decide +kernel
  have e16 : Go.bits .and .i64 16 15 = 0 := by decide +kernel
  rcases h with rfl | rfl
  all_goals
    go_enter Tryz.func163, Tryz.ntmps163
    go_wp2
    go_ret
    exact ⟨rfl, rfl⟩
end Go.Proofs.YtplehdcnnaamkaaGreatDoor

/- internal/strconv.formatBits at the bases 8 and 16. Printed by wip/mkbits.py. -/
namespace Go.Proofs.YtplehdcnnaamkaaGreatDoor
open Go.RowKit Go.Proofs.YtplehdcnnaamkaaGreatDoorW.PrintWords Go.Proofs.YtplehdcnnaamkaaGreatDoorW.PrintMore

def d36 : ByteArray := ⟨#[48, 49, 50, 51, 52, 53, 54, 55, 56, 57, 97, 98, 99, 100, 101, 102, 103, 104, 105, 106, 107, 108, 109, 110, 111, 112, 113, 114, 115, 116, 117, 118, 119, 120, 121, 122]⟩
theorem d36_fin : ∀ d : Fin 16, d36.data.toList.getD d.val 0 = hexCh d.val := by decide +kernel
theorem d36_at (d : Nat) (hd : d < 16) (h : d < d36.size) : d36[d]'h = hexCh d := by
  rw [Lib.getD_at d36 d h, d36_fin ⟨d, hd⟩]
theorem bound_pow (k x : Nat) (h : x * 8 ^ k < 18446744073709551616) (hx : 1 ≤ x) : k ≤ 21 := by
  rcases Nat.lt_or_ge 21 k with hk | hk
  · exfalso
    have h1 : 8 ^ 22 ≤ 8 ^ k := Nat.pow_le_pow_right (by omega) hk
    have h2 : 1 * 8 ^ k ≤ x * 8 ^ k := Nat.mul_le_mul_right _ hx
    have h3 : (8 : Nat) ^ 22 = 73786976294838206464 := by decide
    omega
  · exact hk
theorem range_put (G : Nat → UInt8) (c : UInt8) (m : Nat) (hm : m < 65) : c :: (List.range' (m + 1) (65 - (m + 1))).map G = (List.range' m (65 - m)).map (fun t => if t = m then c else G t) := by
  rw [show 65 - m = (65 - (m + 1)) + 1 by omega, List.range'_succ, List.map_cons, if_pos rfl]
  congr 1
  refine List.map_congr_left fun t ht => ?_
  rw [if_neg (by have := List.mem_range'_1.1 ht; omega)]

theorem mask8 (x : Nat) (hx : x < 18446744073709551616) : Go.bits .and .u64 (x : Int) 7 = ((x % 8 : Nat) : Int) := by
  have h := bits_and_u64_nat x 7 hx (by omega)
  have e : x &&& 7 = x % 8 := Nat.and_two_pow_sub_one_eq_mod x 3
  rw [e] at h
  exact h
theorem bound8 (x i : Nat) (_hx : 8 ≤ x) (hi : i ≤ 64) (h : x * 8 ^ (65 - (i + 1)) < 18446744073709551616) : (x / 8) * 8 ^ (65 - i) < 18446744073709551616 := by
  rw [show 65 - i = (65 - (i + 1)) + 1 by omega, Nat.pow_succ]
  have h1 : (x / 8) * 8 ≤ x := Nat.div_mul_le_self x 8
  have h2 : (x / 8) * 8 ≤ x := by omega
  have h3 : (x / 8) * 8 * 8 ^ (65 - (i + 1)) ≤ x * 8 ^ (65 - (i + 1)) := Nat.mul_le_mul_right _ h2
  rw [show (x / 8) * (8 ^ (65 - (i + 1)) * 8) = (x / 8) * 8 * 8 ^ (65 - (i + 1)) by rw [Nat.mul_assoc, Nat.mul_comm (8 ^ _) 8]]
  omega

set_option maxHeartbeats 4000000 in
set_option maxRecDepth 100000 in
theorem Bits8_calls (u : Nat) (hu : u < 18446744073709551616) (w : World) (hT : Debr w) :
    Calls Tryz.prog 136 #[.slice none 0 0, .int .u64 u, .int .i64 8, .bool false, .bool false] w fun e w' => e = .returned (.tuple #[.slice none 0 0, .string ⟨(digB 8 u).toArray⟩]) ∧ Below w.heap.size w w' := by
  go_enter Tryz.func136, Tryz.ntmps136
  go_wp2_with fail
  refine (Pow2_calls _ (by omega) _).mono ?_
  rintro e w1 ⟨rfl, rfl⟩
  go_wp2_with fail
  refine (Tz_calls 8 3 (by omega) _ (hT.stays ?_)).mono ?_
  · exact (Below.refl _ _).alloc (Nat.le_refl _) _
  rintro e w1 ⟨rfl, rfl⟩
  go_wp2_with fail
  go_loopw [1, 13] (fun uu ii wr => ∃ (x i : Nat) (G : Nat → UInt8), uu = .int .u64 x ∧ ii = .int .i64 i ∧ i ≤ 65 ∧ x ≤ u ∧ (i = 65 ∨ 1 ≤ x) ∧ Aside0 (digB 8 u = digB 8 x ++ (List.range' i (65 - i)).map G) ∧ Aside0 (x * 8 ^ (65 - i) < 18446744073709551616) ∧ Aside0 (∀ t, t < 65 → wr.cell? ⟨w.heap.size, t, none⟩ = some (.int .u8 ((G t).toNat : Int)) ∧ wr.frozen? ⟨w.heap.size, t, none⟩ = false) ∧ Aside0 (Below w.heap.size w wr) ∧ w.heap.size < wr.heap.size) (fun uu _ _ => (intOf uu).toNat)
  case atStart =>
    refine ⟨u, 65, fun _ => 0, rfl, rfl, by omega, by omega, .inl rfl, ⟨by simp⟩, ⟨by simpa using hu⟩, ⟨fun t ht => ⟨?_, World.frozen?_alloc_new _ _ _ _⟩⟩, ⟨(Below.refl _ _).alloc (Nat.le_refl _) _⟩, by simp⟩
    rw [World.cell?_alloc_new]
    have : Tryz.zeroCells226 = Array.replicate 65 (.int .u8 0) := by rfl
    rw [this, Array.getElem?_replicate, if_pos ht]
    rfl
  case round =>
    obtain ⟨x, i, G, rfl, rfl, hi, hxu, hix, hr, hp, hC, HB, hsz⟩ := hrel
    have hx64 : x < 18446744073709551616 := by omega
    have hi1 : 1 ≤ i := by
      rcases hix with rfl | h
      · omega
      · have := bound_pow _ _ hp.out h
        omega
    obtain ⟨m, rfl⟩ : ∃ m, i = m + 1 := ⟨i - 1, by omega⟩
    have hc := (hC.out m (by omega)).1
    have hf := (hC.out m (by omega)).2
    by_cases hlt : 8 ≤ x
    · have hX : ∀ h, (ByteArray.mk #[48, 49, 50, 51, 52, 53, 54, 55, 56, 57, 97, 98, 99, 100, 101, 102, 103, 104, 105, 106, 107, 108, 109, 110, 111, 112, 113, 114, 115, 116, 117, 118, 119, 120, 121, 122])[x % 8]'h = hexCh (x % 8) := d36_at _ (by omega)
      have hM := mask8 x hx64
      go_wp2_with fail
      refine ⟨⟨x / 8, m, fun t => if t = m then hexCh (x % 8) else G t, by go_num, by go_num, by omega, by omega, .inr (by omega), ⟨?_⟩, ⟨bound8 x m hlt (by omega) hp.out⟩, ⟨fun t ht => ?_⟩, ⟨HB.out.setCell (by simp) _⟩, by simpa using hsz⟩, by simp [intOf]; omega⟩
      · rw [hr.out, digB_big (by omega) hlt, List.append_assoc, ← range_put G _ m (by omega)]
        rfl
      · by_cases htm : t = m
        · subst htm
          exact ⟨by rw [World.cell?_setCell_same _ _ _ hc]; simp, by rw [World.frozen?_setCell]; exact hf⟩
        · exact ⟨by rw [World.cell?_setCell_other _ _ _ _ (by simp; try omega)]; simp only [if_neg htm]; exact (hC.out t ht).1, by rw [World.frozen?_setCell]; exact (hC.out t ht).2⟩
    · have hX : ∀ h, (ByteArray.mk #[48, 49, 50, 51, 52, 53, 54, 55, 56, 57, 97, 98, 99, 100, 101, 102, 103, 104, 105, 106, 107, 108, 109, 110, 111, 112, 113, 114, 115, 116, 117, 118, 119, 120, 121, 122])[x]'h = hexCh x := d36_at _ (by omega)
      have hsl1 : ∀ W, (Instr.sliceAt 226 (.pointer (some ⟨w.heap.size, 0, none⟩)) (some (.int .i64 (m : Int))) none none).run Tryz.prog W = .ok (.slice (some ⟨w.heap.size, m, none⟩) (65 - m) (65 - m)) W := fun W => by
        rw [run_sliceAt_array_l W 226 ⟨w.heap.size, 0, none⟩ (by simp [Program.arrayLen, Program.elem, Tryz.underlying226]) .i64 (m : Int) (by omega) (by simp [Program.arrayLen, Tryz.underlying226]; omega)]
        go_simp
        try omega
      have hL : digB 8 u = (List.range' m (65 - m)).map (fun t => if t = m then hexCh x else G t) := by
        rw [hr.out, digB_small (by omega), ← range_put G _ m (by omega)]
        rfl
      have hcv : ∀ W : World, (∀ t, t < 65 → W.cell? ⟨w.heap.size, t, none⟩ = some (.int .u8 (((if t = m then hexCh x else G t)).toNat : Int))) → (convert 158 9 (.slice (some ⟨w.heap.size, m, none⟩) (65 - m) (65 - m))).run Tryz.prog W = .ok (.string ⟨(digB 8 u).toArray⟩) W := by
        intro W hW
        have h := run_convert_bytes_back (P := Tryz.prog) W 158 9 5 ⟨w.heap.size, m, none⟩ (65 - m) (digB 8 u) Tryz.underlying158 Tryz.underlying5 Tryz.underlying9 (fun j hj => by
          have hj' : j < 65 - m := by rw [hL] at hj; simpa using hj
          rw [Lib.add_plain, hW (m + j) (by omega)]
          congr 3
          simp only [hL, List.getElem_map, List.getElem_range', Nat.one_mul])
        rw [show (digB 8 u).length = 65 - m by rw [hL]; simp] at h
        exact h
      have hcv2 := hcv (wr.setCell ⟨w.heap.size, m, none⟩ (.int .u8 ((hexCh x).toNat : Int))) (fun t ht => by
        by_cases htm : t = m
        · subst htm
          rw [World.cell?_setCell_same _ _ _ hc, if_pos rfl]
        · rw [World.cell?_setCell_other _ _ _ _ (by simp; try omega), if_neg htm]; exact (hC.out t ht).1)
      clear hcv hL
      go_wp2_with fail
      go_ret2
      exact ⟨rfl, HB.out.setCell (by simp) _⟩

theorem mask16 (x : Nat) (hx : x < 18446744073709551616) : Go.bits .and .u64 (x : Int) 15 = ((x % 16 : Nat) : Int) := by
  have h := bits_and_u64_nat x 15 hx (by omega)
  have e : x &&& 15 = x % 16 := Nat.and_two_pow_sub_one_eq_mod x 4
  rw [e] at h
  exact h
theorem bound16 (x i : Nat) (hx : 16 ≤ x) (hi : i ≤ 64) (h : x * 8 ^ (65 - (i + 1)) < 18446744073709551616) : (x / 16) * 8 ^ (65 - i) < 18446744073709551616 := by
  rw [show 65 - i = (65 - (i + 1)) + 1 by omega, Nat.pow_succ]
  have h1 : (x / 16) * 16 ≤ x := Nat.div_mul_le_self x 16
  have h2 : (x / 16) * 8 ≤ x := by omega
  have h3 : (x / 16) * 8 * 8 ^ (65 - (i + 1)) ≤ x * 8 ^ (65 - (i + 1)) := Nat.mul_le_mul_right _ h2
  rw [show (x / 16) * (8 ^ (65 - (i + 1)) * 8) = (x / 16) * 8 * 8 ^ (65 - (i + 1)) by rw [Nat.mul_assoc, Nat.mul_comm (8 ^ _) 8]]
  omega

set_option maxHeartbeats 4000000 in
set_option maxRecDepth 100000 in
theorem Bits16_calls (u : Nat) (hu : u < 18446744073709551616) (w : World) (hT : Debr w) :
    Calls Tryz.prog 136 #[.slice none 0 0, .int .u64 u, .int .i64 16, .bool false, .bool false] w fun e w' => e = .returned (.tuple #[.slice none 0 0, .string ⟨(digB 16 u).toArray⟩]) ∧ Below w.heap.size w w' := by
  go_enter Tryz.func136, Tryz.ntmps136
  go_wp2_with fail
  refine (Pow2_calls _ (by omega) _).mono ?_
  rintro e w1 ⟨rfl, rfl⟩
  go_wp2_with fail
  refine (Tz_calls 16 4 (by omega) _ (hT.stays ?_)).mono ?_
  · exact (Below.refl _ _).alloc (Nat.le_refl _) _
  rintro e w1 ⟨rfl, rfl⟩
  go_wp2_with fail
  go_loopw [1, 13] (fun uu ii wr => ∃ (x i : Nat) (G : Nat → UInt8), uu = .int .u64 x ∧ ii = .int .i64 i ∧ i ≤ 65 ∧ x ≤ u ∧ (i = 65 ∨ 1 ≤ x) ∧ Aside0 (digB 16 u = digB 16 x ++ (List.range' i (65 - i)).map G) ∧ Aside0 (x * 8 ^ (65 - i) < 18446744073709551616) ∧ Aside0 (∀ t, t < 65 → wr.cell? ⟨w.heap.size, t, none⟩ = some (.int .u8 ((G t).toNat : Int)) ∧ wr.frozen? ⟨w.heap.size, t, none⟩ = false) ∧ Aside0 (Below w.heap.size w wr) ∧ w.heap.size < wr.heap.size) (fun uu _ _ => (intOf uu).toNat)
  case atStart =>
    refine ⟨u, 65, fun _ => 0, rfl, rfl, by omega, by omega, .inl rfl, ⟨by simp⟩, ⟨by simpa using hu⟩, ⟨fun t ht => ⟨?_, World.frozen?_alloc_new _ _ _ _⟩⟩, ⟨(Below.refl _ _).alloc (Nat.le_refl _) _⟩, by simp⟩
    rw [World.cell?_alloc_new]
    have : Tryz.zeroCells226 = Array.replicate 65 (.int .u8 0) := by rfl
    rw [this, Array.getElem?_replicate, if_pos ht]
    rfl
  case round =>
    obtain ⟨x, i, G, rfl, rfl, hi, hxu, hix, hr, hp, hC, HB, hsz⟩ := hrel
    have hx64 : x < 18446744073709551616 := by omega
    have hi1 : 1 ≤ i := by
      rcases hix with rfl | h
      · omega
      · have := bound_pow _ _ hp.out h
        omega
    obtain ⟨m, rfl⟩ : ∃ m, i = m + 1 := ⟨i - 1, by omega⟩
    have hc := (hC.out m (by omega)).1
    have hf := (hC.out m (by omega)).2
    by_cases hlt : 16 ≤ x
    · have hX : ∀ h, (ByteArray.mk #[48, 49, 50, 51, 52, 53, 54, 55, 56, 57, 97, 98, 99, 100, 101, 102, 103, 104, 105, 106, 107, 108, 109, 110, 111, 112, 113, 114, 115, 116, 117, 118, 119, 120, 121, 122])[x % 16]'h = hexCh (x % 16) := d36_at _ (by omega)
      have hM := mask16 x hx64
      go_wp2_with fail
      refine ⟨⟨x / 16, m, fun t => if t = m then hexCh (x % 16) else G t, by go_num, by go_num, by omega, by omega, .inr (by omega), ⟨?_⟩, ⟨bound16 x m hlt (by omega) hp.out⟩, ⟨fun t ht => ?_⟩, ⟨HB.out.setCell (by simp) _⟩, by simpa using hsz⟩, by simp [intOf]; omega⟩
      · rw [hr.out, digB_big (by omega) hlt, List.append_assoc, ← range_put G _ m (by omega)]
        rfl
      · by_cases htm : t = m
        · subst htm
          exact ⟨by rw [World.cell?_setCell_same _ _ _ hc]; simp, by rw [World.frozen?_setCell]; exact hf⟩
        · exact ⟨by rw [World.cell?_setCell_other _ _ _ _ (by simp; try omega)]; simp only [if_neg htm]; exact (hC.out t ht).1, by rw [World.frozen?_setCell]; exact (hC.out t ht).2⟩
    · have hX : ∀ h, (ByteArray.mk #[48, 49, 50, 51, 52, 53, 54, 55, 56, 57, 97, 98, 99, 100, 101, 102, 103, 104, 105, 106, 107, 108, 109, 110, 111, 112, 113, 114, 115, 116, 117, 118, 119, 120, 121, 122])[x]'h = hexCh x := d36_at _ (by omega)
      have hsl1 : ∀ W, (Instr.sliceAt 226 (.pointer (some ⟨w.heap.size, 0, none⟩)) (some (.int .i64 (m : Int))) none none).run Tryz.prog W = .ok (.slice (some ⟨w.heap.size, m, none⟩) (65 - m) (65 - m)) W := fun W => by
        rw [run_sliceAt_array_l W 226 ⟨w.heap.size, 0, none⟩ (by simp [Program.arrayLen, Program.elem, Tryz.underlying226]) .i64 (m : Int) (by omega) (by simp [Program.arrayLen, Tryz.underlying226]; omega)]
        go_simp
        try omega
      have hL : digB 16 u = (List.range' m (65 - m)).map (fun t => if t = m then hexCh x else G t) := by
        rw [hr.out, digB_small (by omega), ← range_put G _ m (by omega)]
        rfl
      have hcv : ∀ W : World, (∀ t, t < 65 → W.cell? ⟨w.heap.size, t, none⟩ = some (.int .u8 (((if t = m then hexCh x else G t)).toNat : Int))) → (convert 158 9 (.slice (some ⟨w.heap.size, m, none⟩) (65 - m) (65 - m))).run Tryz.prog W = .ok (.string ⟨(digB 16 u).toArray⟩) W := by
        intro W hW
        have h := run_convert_bytes_back (P := Tryz.prog) W 158 9 5 ⟨w.heap.size, m, none⟩ (65 - m) (digB 16 u) Tryz.underlying158 Tryz.underlying5 Tryz.underlying9 (fun j hj => by
          have hj' : j < 65 - m := by rw [hL] at hj; simpa using hj
          rw [Lib.add_plain, hW (m + j) (by omega)]
          congr 3
          simp only [hL, List.getElem_map, List.getElem_range', Nat.one_mul])
        rw [show (digB 16 u).length = 65 - m by rw [hL]; simp] at h
        exact h
      have hcv2 := hcv (wr.setCell ⟨w.heap.size, m, none⟩ (.int .u8 ((hexCh x).toNat : Int))) (fun t ht => by
        by_cases htm : t = m
        · subst htm
          rw [World.cell?_setCell_same _ _ _ hc, if_pos rfl]
        · rw [World.cell?_setCell_other _ _ _ _ (by simp; try omega), if_neg htm]; exact (hC.out t ht).1)
      clear hcv hL
      go_wp2_with fail
      go_ret2
      exact ⟨rfl, HB.out.setCell (by simp) _⟩
end Go.Proofs.YtplehdcnnaamkaaGreatDoor

/- strconv.FormatUint at the bases 8, 10 and 16: the digits. -/
namespace Go.Proofs.YtplehdcnnaamkaaGreatDoor
open Go.RowKit Go.Proofs.YtplehdcnnaamkaaGreatDoorW.PrintWords Go.Proofs.YtplehdcnnaamkaaGreatDoorW.PrintMore

theorem Bits_calls (b : Nat) (hb : b = 8 ∨ b = 16) (u : Nat) (hu : u < 18446744073709551616) (w : World) (hT : Debr w) :
    Calls Tryz.prog 136 #[.slice none 0 0, .int .u64 u, .int .i64 b, .bool false, .bool false] w fun e w' => e = .returned (.tuple #[.slice none 0 0, .string ⟨(digB b u).toArray⟩]) ∧ Below w.heap.size w w' := by
  rcases hb with rfl | rfl
  · exact Bits8_calls u hu w hT
  · exact Bits16_calls u hu w hT
theorem FormatB_calls (b : Nat) (hb : b = 8 ∨ b = 16) (u : Nat) (hu : u < 18446744073709551616) (w : World) (hT : Debr w) :
    Calls Tryz.prog 104 #[.int .u64 u, .int .i64 b] w fun e w' => e = .returned (.string ⟨(digB b u).toArray⟩) ∧ Below w.heap.size w w' := by
  have hb' : 8 ≤ b ∧ b ≤ 16 ∧ ¬ b = 10 := by omega
  have HB := Lib.hid hb
  clear hb
  go_enter Tryz.func104, Tryz.ntmps104
  go_wp2_with fail
  refine (Bits_calls b HB.out u hu _ hT).mono ?_
  rintro e w1 ⟨rfl, hb⟩
  go_wp2_with fail
  go_ret
  exact ⟨rfl, hb⟩
/-- FormatUint to one of the three bases. -/
theorem FormatUint_calls (b : Nat) (hb : b = 8 ∨ b = 10 ∨ b = 16) (u : Nat) (hu : u < 18446744073709551616) (w : World) (hP : Pows w) (hT : Debr w) :
    Calls Tryz.prog 60 #[.int .u64 u, .int .i64 b] w fun e w' => e = .returned (.string ⟨(digB b u).toArray⟩) ∧ Below w.heap.size w w' := by
  by_cases h10 : b = 10
  · subst h10
    refine (FormatUint10_calls u hu w hP).mono ?_
    rintro e w1 ⟨rfl, hb⟩
    exact ⟨by rw [dec_eq], hb⟩
  · have HB := Lib.hid (show b = 8 ∨ b = 16 by omega)
    clear hb
    go_enter Tryz.func60, Tryz.ntmps60
    go_wp2_with fail
    refine (FormatB_calls b HB.out u hu _ hT).mono ?_
    rintro e w1 ⟨rfl, hb⟩
    go_wp2_with fail
    go_ret
    exact ⟨rfl, hb⟩
end Go.Proofs.YtplehdcnnaamkaaGreatDoor

/- The pieces of an address, written, with a colon between two. -/
namespace Go.Proofs.YtplehdcnnaamkaaGreatDoor
open Go.RowKit Go.Proofs.YtplehdcnnaamkaaGreatDoorW.PrintWords Go.Proofs.YtplehdcnnaamkaaGreatDoorW.PrintMore

/-- A piece, written. -/
def hexB (x : Int) : ByteArray := ⟨(digB 16 x.toNat).toArray⟩
/-- Pieces, written, with a colon between two. -/
def wordsL (xs : List Int) : List UInt8 := Lib.join (xs.map fun x => digB 16 x.toNat) [58]
theorem hexB_list (xs : List Int) : (xs.map hexB).map (·.data.toList) = xs.map fun x => digB 16 x.toNat := by
  rw [List.map_map]
  rfl
theorem joinTail_len (n : Nat) : ∀ r : List (List UInt8), (∀ x ∈ r, x.length ≤ n) → (Lib.joinTail [58] r).length ≤ r.length * (n + 1)
  | [], _ => by simp [Lib.joinTail]
  | x :: r, h => by
    have ih := joinTail_len n r (fun y hy => h y (by simp [hy]))
    have hx := h x (by simp)
    have e : Lib.joinTail [58] (x :: r) = ([58] ++ x) ++ Lib.joinTail [58] r := by simp [Lib.joinTail]
    rw [e, List.length_append, List.length_append]
    show _ ≤ (r.length + 1) * (n + 1)
    rw [Nat.add_mul]
    simp
    omega
theorem wordsL_len (xs : List Int) (hb : ∀ x ∈ xs, x ≤ 65535) : (wordsL xs).length ≤ 18 * xs.length := by
  rcases xs with _ | ⟨x, r⟩
  · simp [wordsL, Lib.join_nil]
  · have h1 : (digB 16 x.toNat).length ≤ 17 := digB_len 16 (by omega) _ 16 (by have := hb x (by simp); omega)
    have h2 := joinTail_len 17 (r.map fun x => digB 16 x.toNat) (fun y hy => by
      obtain ⟨z, hz, rfl⟩ := List.mem_map.1 hy
      exact digB_len 16 (by omega) _ 16 (by have := hb z (by simp [hz]); omega))
    rw [List.length_map] at h2
    rw [wordsL, List.map_cons, Lib.join_cons, List.length_append, List.length_cons]
    omega

set_option maxHeartbeats 2000000 in
set_option maxRecDepth 100000 in
theorem words_calls (A : Option Addr) (c : Nat) (xs : List Int) (w : World) (hn : xs.length ≤ c) (h8 : xs.length ≤ 8) (hb : ∀ x ∈ xs, 0 ≤ x ∧ x ≤ 65535)
    (hA : 0 < xs.length → ∃ ad, A = some ad ∧ ∀ j v, (u16s xs)[j]? = some v → w.cell? (ad.add j) = some v) (hP : Aside0 (Pows w)) (hT : Aside0 (Debr w)) :
    Calls Tryz.prog 101 #[.slice A xs.length c] w fun e w' => e = .returned (.string ⟨(wordsL xs).toArray⟩) ∧ Below w.heap.size w w' := by
  have HA := Aside0.mk hA
  have HBD := Aside0.mk hb
  clear hA hb
  go_enter Tryz.func101, Tryz.ntmps101
  go_wp2_with fail
  go_loopw [3, 8] (fun v i wr => ∃ (j : Nat), i = .int .i64 j ∧ j ≤ xs.length ∧ Aside0 (Kd.R Kd.string 9 wr w.heap.size (fun _ => True) v ((xs.take j).map hexB)) ∧ Aside0 (Below w.heap.size w wr)) (fun _ i _ => xs.length - (intOf i).toNat)
  case atStart => exact ⟨0, rfl, by omega, ⟨Kd.R_nil _ _ _ _ _⟩, ⟨Below.refl _ _⟩⟩
  case round =>
    obtain ⟨j, rfl, hj, HO, HB⟩ := hrel
    by_cases hlt : j < xs.length
    · obtain ⟨ad, rfl, hcl⟩ := HA.out (by omega)
      obtain ⟨x, hx⟩ : ∃ x, xs[j]? = some x := ⟨_, List.getElem?_eq_getElem hlt⟩
      have hbx := HBD.out x (List.mem_of_getElem? hx)
      have h0 := hcl j (.int .u16 x) (by rw [u16s, List.getElem?_map, hx]; rfl)
      have hcj := (HB.out.cell (cell_lt h0)).trans h0
      have HX := Lib.hid hx
      obtain ⟨u, rfl⟩ : ∃ u : Nat, x = u := ⟨x.toNat, by omega⟩
      have hus : u ≤ 65535 := by omega
      have hsz : w.heap.size ≤ wr.heap.size := HB.out.size
      have hll : ((xs.take j).map hexB).length = j := by rw [List.length_map, List.length_take]; omega
      have HLL := Lib.hid hll
      clear h0 hcl hx hll
      go_wp2_with fail
      refine (FormatUint_calls 16 (by omega) u (by omega) _ (hP.out.stays HB.out) (hT.out.stays HB.out)).mono ?_
      rintro e w2 ⟨rfl, b2⟩
      have HO2 := Aside0.mk (Kd.R_below HO.out b2)
      have HB2 := Aside0.mk (below_then HB.out HB.out.size b2)
      have hsz2 : w.heap.size ≤ w2.heap.size := HB2.out.size
      rw [show (⟨(digB 16 u).toArray⟩ : ByteArray) = hexB (u : Int) by rw [hexB]; simp]
      clear b2
      go_wp2_with ((with_reducible refine gate_builtin (b := .append) (xs := #[.tmp 12, .tmp 16]) rfl ?_); at_builtin; refine Kd.R_append Kd.string (w0 := w) w.heap.size rfl (.tmp 12) (.tmp 16) 92 9 (.string ⟨#[]⟩) 16 rfl Tryz.underlying92 info_string rfl (by decide) (by omega) u3 ((xs.take j).map hexB) (hexB (u : Int)) [.string (hexB (u : Int))] (fun _ => True) (fun _ => False) rfl rfl ?aP (fun _ hk => hk.elim) ?aF ?aO ?aB ?aS ?aL ?_; (case aP => exact rfl); (case aF => exact fun _ _ => trivial); (case aO => exact HO2.out); (case aB => exact HB2.out); (case aS => omega); (case aL => rw [HLL.out]; omega); intro v1 w1 ho hb hg _)
      refine ⟨⟨j + 1, by go_num, by omega, ⟨?_⟩, ⟨hb⟩⟩, by simp [intOf]; omega⟩
      rw [List.take_add_one, HX.out, Option.toList_some, List.map_append]
      exact ho
    · obtain rfl : j = xs.length := by omega
      have hO := HO.out
      rw [List.take_of_length_le (Nat.le_refl _)] at hO
      have hl := wordsL_len xs (fun x hx => (HBD.out x hx).2)
      rcases Nat.eq_zero_or_pos xs.length with h0 | hpos
      · have he : xs = [] := List.eq_nil_of_length_eq_zero h0
        subst he
        obtain ⟨A2, c2, rfl, _, _⟩ := Kd.R_reads hO
        clear hO
        go_wp2_with fail
        refine (Tryz.strings_Join_none _ _ _ _).mono ?_
        rintro e w3 ⟨rfl, rfl⟩
        go_wp2_with fail
        go_ret
        exact ⟨rfl, HB.out⟩
      · have hlm : (xs.map hexB).length = xs.length := List.length_map _
        obtain ⟨A2, c2, hv, hcap, hC⟩ := Kd.R_reads hO
        obtain ⟨_, inner, hown, _⟩ := hO
        obtain ⟨g, rfl, hgl⟩ : ∃ g, u3 = .slice (some ⟨g, 0, none⟩) xs.length c2 ∧ g < wr.heap.size := by
          rcases hown.2 with ⟨h, _⟩ | ⟨g, cap, cur, h, hg, hh, _⟩
          · rw [hv] at h
            injection h with h1 h2 h3
            omega
          · rw [hv] at h
            injection h with h1 h2 h3
            exact ⟨g, by rw [hv, h1, hlm], (Array.getElem?_eq_some_iff.1 hh).1⟩
        rw [hlm] at hv
        injection hv with h1 h2 h3
        subst h1
        obtain ⟨hl1, hl2, hcc⟩ := hC
        obtain ⟨ad, e, hcc⟩ := hcc (by omega)
        obtain rfl := Option.some.inj e
        have hcells : ∀ (j : Nat) x, (xs.map hexB)[j]? = some x → wr.cell? ⟨g, 0 + j, none⟩ = some (.string x) := fun j x hx => by
          obtain ⟨cs, _, hk, hcs⟩ := hcc j x hx
          obtain rfl : cs = [.string x] := hk
          have h1 := hcs 0 (.string x) rfl
          rw [show j * Kd.string.sz + 0 = j from Nat.mul_one j, Go.Proofs.YtplehdcnnaamkaaGreatDoorW.PrintWords.add_plain] at h1
          rw [Nat.zero_add]
          exact h1
        have HJ := Aside0.mk (Tryz.strings_Join g 0 c2 (xs.map hexB) ⟨#[58]⟩ wr hcells hgl (by omega) (by omega) (by
          rw [hexB_list]
          show (wordsL xs).length ≤ _
          omega))
        have hlx := HJ.out
        rw [hexB_list, hlm] at hlx
        have HJ2 := Aside0.mk hlx
        clear hcells hcc HJ hlx hown hl1 hl2 h2 h3
        go_wp2_with fail
        refine HJ2.out.mono ?_
        rintro e w3 ⟨rfl, b3⟩
        have HB3 := Aside0.mk (below_then HB.out HB.out.size b3)
        go_wp2_with fail
        go_ret
        exact ⟨rfl, HB3.out⟩
end Go.Proofs.YtplehdcnnaamkaaGreatDoor

/- six.longest: the first of the longest rows of noughts. -/
namespace Go.Proofs.YtplehdcnnaamkaaGreatDoor
open Go.RowKit Go.Proofs.YtplehdcnnaamkaaGreatDoorW.PrintWords Go.Proofs.YtplehdcnnaamkaaGreatDoorW.PrintMore

/-- How many noughts stand ahead. -/
def zrun : List Int → Nat
  | [] => 0
  | x :: r => if x = 0 then zrun r + 1 else 0
/-- The first of the longest rows of noughts among the first j places. -/
def longF (xs : List Int) : Nat → Nat × Nat
  | 0 => (0, 0)
  | j + 1 => if (longF xs j).2 < zrun (xs.drop j) then (j, zrun (xs.drop j)) else longF xs j
theorem zrun_le : ∀ l : List Int, zrun l ≤ l.length
  | [] => Nat.le_refl _
  | x :: r => by
    have := zrun_le r
    unfold zrun
    split
    · simp
      omega
    · simp
theorem zrun_step (xs : List Int) (m : Nat) (h : m < xs.length) : zrun (xs.drop m) = if xs.getD m 0 = 0 then zrun (xs.drop (m + 1)) + 1 else 0 := by
  rw [List.drop_eq_getElem_cons h, zrun, List.getD_eq_getElem?_getD, List.getElem?_eq_getElem h]
  rfl
theorem longF_bd (xs : List Int) (h : xs.length = 8) : ∀ j, j ≤ 8 → (longF xs j).1 + (longF xs j).2 ≤ 8
  | 0, _ => by simp [longF]
  | j + 1, hj => by
    rw [longF]
    have := zrun_le (xs.drop j)
    rw [List.length_drop, h] at this
    split
    · show j + _ ≤ 8
      omega
    · exact longF_bd xs h j (by omega)

set_option maxHeartbeats 2000000 in
set_option maxRecDepth 100000 in
theorem longest_calls (x0 x1 x2 x3 x4 x5 x6 x7 : Int) (w : World) :
    Calls Tryz.prog 100 #[.agg #[.int .u16 x0, .int .u16 x1, .int .u16 x2, .int .u16 x3, .int .u16 x4, .int .u16 x5, .int .u16 x6, .int .u16 x7]] w fun e w' => e = .returned (.tuple #[.int .i64 ((longF [x0, x1, x2, x3, x4, x5, x6, x7] 8).1 : Nat), .int .i64 ((longF [x0, x1, x2, x3, x4, x5, x6, x7] 8).2 : Nat)]) ∧ Below w.heap.size w w' := by
  obtain ⟨xs, hxs⟩ : ∃ xs, xs = [x0, x1, x2, x3, x4, x5, x6, x7] := ⟨_, rfl⟩
  have hlen : xs.length = 8 := by rw [hxs]; rfl
  rw [← hxs]
  have HX := Lib.hid hxs
  have HL := Lib.hid hlen
  clear hxs hlen
  go_enter Tryz.func100, Tryz.ntmps100
  go_wp2_with fail
  obtain ⟨W0, hW0⟩ : ∃ W0, W0 = w.alloc (.cells #[.int .u16 x0, .int .u16 x1, .int .u16 x2, .int .u16 x3, .int .u16 x4, .int .u16 x5, .int .u16 x6, .int .u16 x7] 103) := ⟨_, rfl⟩
  rw [← hW0]
  have hcell : ∀ j, j < 8 → W0.cell? ⟨w.heap.size, j, none⟩ = some (.int .u16 (xs.getD j 0)) := by
    intro j hj
    rw [hW0, HX.out, World.cell?_alloc_new]
    have hj8 : j = 0 ∨ j = 1 ∨ j = 2 ∨ j = 3 ∨ j = 4 ∨ j = 5 ∨ j = 6 ∨ j = 7 := by omega
    rcases hj8 with rfl | rfl | rfl | rfl | rfl | rfl | rfl | rfl <;> rfl
  have HB : Aside0 (Below w.heap.size w W0) := ⟨by rw [hW0]; exact (Below.refl _ _).alloc (Nat.le_refl _) _⟩
  have HC := Aside0.mk hcell
  clear hW0 hcell
  go_loop [2, 3, 6] (fun aa nn ii => ∃ (j a n : Nat), ii = .int .i64 j ∧ aa = .int .i64 a ∧ nn = .int .i64 n ∧ j ≤ 8 ∧ n ≤ 8 ∧ a ≤ 8 ∧ Aside0 (longF xs j = (a, n))) (fun _ _ i => 8 - (intOf i).toNat)
  case atStart => exact ⟨0, 0, 0, rfl, rfl, rfl, by omega, by omega, by omega, ⟨rfl⟩⟩
  case round =>
    obtain ⟨j, a, n, rfl, rfl, rfl, hj, hn, ha, hF⟩ := hrel
    by_cases hlt : j < 8
    · go_wp2_with fail
      go_loop [5] (fun kk => ∃ (k : Nat), kk = .int .i64 k ∧ j + k ≤ 8 ∧ Aside0 (zrun (xs.drop j) = k + zrun (xs.drop (j + k)))) (fun k => 8 - j - (intOf k).toNat)
      case atStart => exact ⟨0, rfl, by omega, ⟨by simp⟩⟩
      case round =>
        obtain ⟨k, rfl, hk, hZ⟩ := hrel
        obtain ⟨m, hm⟩ : ∃ m, m = j + k := ⟨_, rfl⟩
        have hmi : (j : Int) + (k : Int) = (m : Int) := by omega
        have HM := Lib.hid hm
        clear hm
        have hk8 : k ≤ 8 := by omega
        by_cases hm8 : m < 8
        · have hc := HC.out m hm8
          have hst := zrun_step xs m (by rw [HL.out]; exact hm8)
          have hm8' : (m : Int) < 8 := by omega
          generalize xs.getD m 0 = y at hc hst
          by_cases hy : y = 0
          · subst hy
            have HS := Aside0.mk (show zrun (xs.drop j) = (k + 1) + zrun (xs.drop (j + (k + 1))) by
              rw [hZ.out, ← HM.out, hst, if_pos rfl, show j + (k + 1) = m + 1 by rw [HM.out]; omega]
              omega)
            clear hst
            go_wp2_with fail
            exact ⟨⟨k + 1, by go_num, by have := HM.out; omega, HS⟩, by simp [intOf]; have := HM.out; omega⟩
          · have HST := Lib.hid hst
            clear hst
            have hzk : zrun (xs.drop j) = k := by
              rw [hZ.out, ← HM.out, HST.out, if_neg hy]
              rfl
            by_cases hnk : n < k
            · have HN := Aside0.mk (show longF xs (j + 1) = (j, k) by rw [longF, hF.out, hzk, if_pos hnk])
              clear hzk
              go_wp2_with fail
              exact ⟨⟨j + 1, j, k, by go_num, rfl, rfl, by omega, by omega, by omega, HN⟩, by simp [intOf]; omega⟩
            · have HN := Aside0.mk (show longF xs (j + 1) = (a, n) by rw [longF, hF.out, hzk, if_neg hnk])
              clear hzk
              go_wp2_with fail
              exact ⟨⟨j + 1, a, n, by go_num, rfl, rfl, by omega, by omega, by omega, HN⟩, by simp [intOf]; omega⟩
        · have hm8' : ¬ (m : Int) < 8 := by omega
          have hzk : zrun (xs.drop j) = k := by
            rw [hZ.out, ← HM.out, List.drop_of_length_le (by rw [HL.out]; omega)]
            rfl
          by_cases hnk : n < k
          · have HN := Aside0.mk (show longF xs (j + 1) = (j, k) by rw [longF, hF.out, hzk, if_pos hnk])
            clear hzk
            go_wp2_with fail
            exact ⟨⟨j + 1, j, k, by go_num, rfl, rfl, by omega, by omega, by omega, HN⟩, by simp [intOf]; omega⟩
          · have HN := Aside0.mk (show longF xs (j + 1) = (a, n) by rw [longF, hF.out, hzk, if_neg hnk])
            clear hzk
            go_wp2_with fail
            exact ⟨⟨j + 1, a, n, by go_num, rfl, rfl, by omega, by omega, by omega, HN⟩, by simp [intOf]; omega⟩
    · obtain rfl : j = 8 := by omega
      have HF := Lib.hid hF.out
      go_wp2_with fail
      go_ret2
      exact ⟨by rw [HF.out]; rfl, HB.out⟩
end Go.Proofs.YtplehdcnnaamkaaGreatDoor

/- (six.Addr).Text: as it is written. -/
namespace Go.Proofs.YtplehdcnnaamkaaGreatDoor
open Go.RowKit Go.Proofs.YtplehdcnnaamkaaGreatDoorW.PrintWords Go.Proofs.YtplehdcnnaamkaaGreatDoorW.PrintMore

theorem add_at (b off i : Nat) : (⟨b, off, none⟩ : Addr).add i = ⟨b, off + i, none⟩ := by unfold Addr.add; split <;> simp_all
theorem i64_small' (n : Int) (h0 : -1000000 ≤ n) (h1 : n ≤ 1000000) : IntKind.i64.wrap n = n := by
  simp [IntKind.wrap, IntKind.signed, IntKind.bits]
  omega
/-- An address of eight pieces, written. -/
def textL6 (xs : List Int) : List UInt8 := if (longF xs 8).2 < 2 then wordsL xs else wordsL (xs.take (longF xs 8).1) ++ [58, 58] ++ wordsL (xs.drop ((longF xs 8).1 + (longF xs 8).2))
theorem pieces_bd (hi lo : Int) (h0 : 0 ≤ hi ∧ hi < 18446744073709551616) (h1 : 0 ≤ lo ∧ lo < 18446744073709551616) : ∀ x ∈ piecesOf hi lo, 0 ≤ x ∧ x ≤ 65535 := by
  intro x hx
  simp only [piecesOf, List.mem_cons, List.not_mem_nil, or_false] at hx
  rcases hx with rfl | rfl | rfl | rfl | rfl | rfl | rfl | rfl <;> omega

set_option maxHeartbeats 4000000 in
set_option maxRecDepth 100000 in
theorem Text6_calls (hi lo : Int) (h0 : 0 ≤ hi ∧ hi < 18446744073709551616) (h1 : 0 ≤ lo ∧ lo < 18446744073709551616) (w : World) (hP : Aside0 (Pows w)) (hT : Aside0 (Debr w)) :
    Calls Tryz.prog 56 #[.agg #[.int .u64 hi, .int .u64 lo]] w fun e w' => e = .returned (.string ⟨(textL6 (piecesOf hi lo)).toArray⟩) ∧ Below w.heap.size w w' := by
  have hpb := pieces_bd hi lo h0 h1
  go_enter Tryz.func56, Tryz.ntmps56
  go_wp2_with fail
  refine (Pieces_calls hi lo h0 h1 _).mono ?_
  rintro e w1 ⟨rfl, b1⟩
  obtain ⟨p0, hp0⟩ : ∃ p0, p0 = hi / 281474976710656 := ⟨_, rfl⟩
  obtain ⟨p1, hp1⟩ : ∃ p1, p1 = hi / 4294967296 % 65536 := ⟨_, rfl⟩
  obtain ⟨p2, hp2⟩ : ∃ p2, p2 = hi / 65536 % 65536 := ⟨_, rfl⟩
  obtain ⟨p3, hp3⟩ : ∃ p3, p3 = hi % 65536 := ⟨_, rfl⟩
  obtain ⟨p4, hp4⟩ : ∃ p4, p4 = lo / 281474976710656 := ⟨_, rfl⟩
  obtain ⟨p5, hp5⟩ : ∃ p5, p5 = lo / 4294967296 % 65536 := ⟨_, rfl⟩
  obtain ⟨p6, hp6⟩ : ∃ p6, p6 = lo / 65536 % 65536 := ⟨_, rfl⟩
  obtain ⟨p7, hp7⟩ : ∃ p7, p7 = lo % 65536 := ⟨_, rfl⟩
  have HPO := Lib.hid (show piecesOf hi lo = [p0, p1, p2, p3, p4, p5, p6, p7] by rw [hp0, hp1, hp2, hp3, hp4, hp5, hp6, hp7]; rfl)
  rw [HPO.out] at hpb
  rw [← hp0, ← hp1, ← hp2, ← hp3, ← hp4, ← hp5, ← hp6, ← hp7]
  clear hp0 hp1 hp2 hp3 hp4 hp5 hp6 hp7
  have HB1 : Aside0 (Below w.heap.size w w1) := ⟨below_then ((Below.refl _ _).alloc (Nat.le_refl _) _) (by simp) b1⟩
  have HPB := Aside0.mk hpb
  clear b1 hpb
  go_wp2_with fail
  obtain ⟨W2, hW2⟩ : ∃ W2, W2 = w1.alloc (.cells #[.int .u16 p0, .int .u16 p1, .int .u16 p2, .int .u16 p3, .int .u16 p4, .int .u16 p5, .int .u16 p6, .int .u16 p7] 103) := ⟨_, rfl⟩
  rw [← hW2]
  have hg : W2.heap[w1.heap.size]? = some (.cells #[.int .u16 p0, .int .u16 p1, .int .u16 p2, .int .u16 p3, .int .u16 p4, .int .u16 p5, .int .u16 p6, .int .u16 p7] 103 (0, 0)) := by rw [hW2]; exact heap_alloc_new' _ _ _ rfl
  have hlt : w1.heap.size < W2.heap.size := by rw [hW2]; simp
  have HB2 : Aside0 (Below w.heap.size w W2) := ⟨by rw [hW2]; exact HB1.out.alloc HB1.out.size _⟩
  have HG := Aside0.mk hg
  clear hW2 hg
  generalize w1.heap.size = g at *
  refine (longest_calls p0 p1 p2 p3 p4 p5 p6 p7 _).mono ?_
  rintro e w3 ⟨rfl, b3⟩
  have hg3 := (b3.block g hlt).trans HG.out
  have HB3 := Aside0.mk (below_then HB2.out HB2.out.size b3)
  have hlt3 : g < w3.heap.size := Nat.lt_of_lt_of_le hlt b3.size
  have hbd := longF_bd [p0, p1, p2, p3, p4, p5, p6, p7] rfl 8 (Nat.le_refl _)
  have hcells : ∀ j v, (u16s [p0, p1, p2, p3, p4, p5, p6, p7])[j]? = some v → w3.cell? ⟨g, j, none⟩ = some v := fun j v hv => (heap_cell (cs := (u16s [p0, p1, p2, p3, p4, p5, p6, p7]).toArray) hg3 (by simpa using hv)).1
  have HC := Aside0.mk hcells
  clear hcells hg3 b3
  have HLL := Lib.hid (show ([p0, p1, p2, p3, p4, p5, p6, p7] : List Int).length = 8 from rfl)
  obtain ⟨xs, hxs⟩ : ∃ xs, xs = [p0, p1, p2, p3, p4, p5, p6, p7] := ⟨_, rfl⟩
  rw [← hxs] at HPO HPB HC HLL hbd ⊢
  clear hxs
  obtain ⟨a, ha⟩ : ∃ a, a = (longF xs 8).1 := ⟨_, rfl⟩
  obtain ⟨n, hn⟩ : ∃ n, n = (longF xs 8).2 := ⟨_, rfl⟩
  rw [← ha, ← hn] at hbd ⊢
  have HTX := Lib.hid (show textL6 (piecesOf hi lo) = if n < 2 then wordsL xs else wordsL (xs.take a) ++ [58, 58] ++ wordsL (xs.drop (a + n)) by rw [HPO.out, textL6, ← ha, ← hn])
  clear ha hn
  have hlx := HLL.out
  by_cases hn2 : n < 2
  · have hn2' : (n : Int) < 2 := by omega
    clear hlx
    go_wp2_with fail
    have hw := words_calls (some ⟨g, 0, none⟩) 8 xs w3 (by rw [HLL.out]; omega) (by rw [HLL.out]; omega) HPB.out (fun _ => ⟨_, rfl, fun j v hv => by rw [Go.Proofs.YtplehdcnnaamkaaGreatDoorW.PrintWords.add_plain]; exact HC.out j v hv⟩) ⟨hP.out.stays HB3.out⟩ ⟨hT.out.stays HB3.out⟩
    rw [HLL.out] at hw
    refine hw.mono ?_
    rintro e w4 ⟨rfl, b4⟩
    have HB4 := Aside0.mk (below_then HB3.out HB3.out.size b4)
    clear b4 hw
    go_wp2_with fail
    go_ret
    exact ⟨by rw [HTX.out, if_pos hn2]; rfl, HB4.out⟩
  · have hn2' : ¬ (n : Int) < 2 := by omega
    have hta : (xs.take a).length = a := by rw [List.length_take, HLL.out]; omega
    have hbt : ∀ x ∈ xs.take a, 0 ≤ x ∧ x ≤ 65535 := fun x hx => HPB.out x (List.mem_of_mem_take hx)
    have hbdr : ∀ x ∈ xs.drop (a + n), 0 ≤ x ∧ x ≤ 65535 := fun x hx => HPB.out x (List.mem_of_mem_drop hx)
    have hw1 := words_calls (some ⟨g, 0, none⟩) 8 (xs.take a) w3.drew (by rw [hta]; omega) (by rw [hta]; omega) hbt (fun _ => ⟨_, rfl, fun j v hv => by
      rw [Go.Proofs.YtplehdcnnaamkaaGreatDoorW.PrintWords.add_plain]
      refine HC.out j v ?_
      rw [u16s, List.map_take, List.getElem?_take] at hv
      split at hv
      · exact hv
      · cases hv⟩) ⟨hP.out.stays HB3.out.drew⟩ ⟨hT.out.stays HB3.out.drew⟩
    rw [hta] at hw1
    have HW1 := Aside0.mk hw1
    have hdl : (xs.drop (a + n)).length = 8 - (a + n) := by rw [List.length_drop, HLL.out]
    have HW2 : Aside0 (∀ W, Below w3.drew.heap.size w3.drew W → ∀ (A : Option Addr) (c : Nat), 8 - (a + n) ≤ c → (a + n < 8 → A = some ⟨g, a + n, none⟩) → Calls Tryz.prog 101 #[.slice A (8 - (a + n)) c] W fun e w' => e = .returned (.string ⟨(wordsL (xs.drop (a + n))).toArray⟩) ∧ Below W.heap.size W w') := ⟨fun W hW A c hc hA => by
      have hBW := below_then HB3.out.drew HB3.out.drew.size hW
      have h := words_calls A c (xs.drop (a + n)) W (by rw [hdl]; exact hc) (by rw [hdl]; omega) hbdr (fun hpos => ⟨_, hA (by rw [hdl] at hpos; omega), fun j v hv => by
        rw [u16s, List.map_drop, List.getElem?_drop] at hv
        have h1 := HC.out (a + n + j) v hv
        rw [show (⟨g, a + n, none⟩ : Addr).add j = ⟨g, a + n + j, none⟩ from add_at g (a + n) j]
        exact (hW.cell (p := ⟨g, a + n + j, none⟩) hlt3).trans h1⟩) ⟨hP.out.stays hBW⟩ ⟨hT.out.stays hBW⟩
      rw [hdl] at h
      exact h⟩
    have HS1 := wordsL_len (xs.take a) (fun x hx => (hbt x hx).2)
    have HS2 := wordsL_len (xs.drop (a + n)) (fun x hx => (hbdr x hx).2)
    rw [hta] at HS1
    rw [hdl] at HS2
    have HBD3 : Aside0 (Below w.heap.size w w3.drew) := ⟨HB3.out.drew⟩
    clear hw1 hbt hbdr hta hdl hlx
    obtain ⟨m, hm⟩ : ∃ m, m = a + n := ⟨_, rfl⟩
    have hmi : IntKind.i64.wrap ((a : Int) + (n : Int)) = (m : Int) := by
      rw [i64_small' _ (by omega) (by omega)]
      omega
    have hm8 : (m : Int) ≤ 8 := by omega
    have hm0 : (0 : Int) ≤ (m : Int) := by omega
    have ha8 : (a : Int) ≤ 8 := by omega
    have ha0 : (0 : Int) ≤ (a : Int) := by omega
    rw [← hm] at HW2 HS2 HTX
    obtain ⟨S1, hS1⟩ : ∃ S1 : ByteArray, S1 = ⟨(wordsL (xs.take a)).toArray⟩ := ⟨_, rfl⟩
    obtain ⟨S2, hS2⟩ : ∃ S2 : ByteArray, S2 = ⟨(wordsL (xs.drop m)).toArray⟩ := ⟨_, rfl⟩
    rw [← hS1] at HW1
    rw [← hS2] at HW2
    have hz1 : S1.size ≤ 200 := by rw [hS1]; show (wordsL (xs.take a)).toArray.size ≤ 200; rw [List.size_toArray]; omega
    have hz2 : S2.size ≤ 200 := by rw [hS2]; show (wordsL (xs.drop m)).toArray.size ≤ 200; rw [List.size_toArray]; omega
    have hz3 : (S1 ++ ⟨#[58, 58]⟩).size ≤ 300 := by rw [ByteArray.size_append]; show S1.size + 2 ≤ 300; omega
    have HTX2 := Lib.hid (show (S1 ++ ⟨#[58, 58]⟩ ++ S2).data.toList = textL6 (piecesOf hi lo) by rw [HTX.out, if_neg hn2, hS1, hS2]; simp)
    clear hS1 hS2 HS1 HS2 hm hbd
    by_cases hm7 : m < 8
    · have hne : ¬ 8 = m := by omega
      go_wp2_with fail
      go_region_with (first
        | (go_at_call_of 101 (Value.slice (some ⟨g, 0, none⟩) a 8); refine HW1.out.mono ?_; rintro e w4 ⟨rfl, b4⟩)
        | (go_at_call 101; refine (HW2.out _ (by assumption) _ _ (Nat.le_refl _) (fun _ => rfl)).mono ?_; rintro e w5 ⟨rfl, b5⟩))
      all_goals
        go_wp2_with fail
        go_ret
        refine ⟨congrArg (fun s => Ending.returned (.string s)) (bytes_of _ _ HTX2.out), ?_⟩
        exact below_then HBD3.out HBD3.out.size (below_then b4 b4.size b5)
    · obtain rfl : m = 8 := by omega
      rw [show 8 - 8 = 0 from rfl] at HW2
      go_wp2_with fail
      go_region_with (first
        | (go_at_call_of 101 (Value.slice (some ⟨g, 0, none⟩) a 8); refine HW1.out.mono ?_; rintro e w4 ⟨rfl, b4⟩)
        | (go_at_call 101; refine (HW2.out _ (by assumption) _ _ (Nat.le_refl _) (fun h => absurd h (by omega))).mono ?_; rintro e w5 ⟨rfl, b5⟩))
      all_goals
        go_wp2_with fail
        go_ret
        refine ⟨congrArg (fun s => Ending.returned (.string s)) (bytes_of _ _ HTX2.out), ?_⟩
        exact below_then HBD3.out HBD3.out.size (below_then b4 b4.size b5)
end Go.Proofs.YtplehdcnnaamkaaGreatDoor

/- Addresses of either sort: made, compared; walked. -/
namespace Go.Proofs.YtplehdcnnaamkaaGreatDoor
open Go.RowKit Go.Proofs.YtplehdcnnaamkaaGreatDoorW.PrintWords Go.Proofs.YtplehdcnnaamkaaGreatDoorW.PrintMore

/-- An address: of eight pieces its halves; of four bytes its number. -/
def adV : Bool × Int × Int → Value
  | (true, hi, lo) => .iface 34 (.agg #[.int .u64 hi, .int .u64 lo])
  | (false, _, n) => .iface 111 (.int .u32 n)
def adHi : Bool × Int × Int → Int
  | (true, hi, _) => hi
  | (false, _, _) => 0
def adLo : Bool × Int × Int → Int
  | (true, _, lo) => lo
  | (false, _, n) => 281470681743360 + n
def adOk : Bool × Int × Int → Prop
  | (true, hi, lo) => (0 ≤ hi ∧ hi < 18446744073709551616) ∧ 0 ≤ lo ∧ lo < 18446744073709551616
  | (false, hi, n) => hi = 0 ∧ 0 ≤ n ∧ n < 4294967296
theorem Make_calls (is : Bool) (hi lo : Int) (_h0 : 0 ≤ hi ∧ hi < 18446744073709551616) (_h1 : 0 ≤ lo ∧ lo < 18446744073709551616) (w : World) :
    Calls Tryz.prog 24 #[.bool is, .int .u64 hi, .int .u64 lo] w fun e w' => e = .returned (adV (is, if is = true then hi else 0, if is = true then lo else lo % 4294967296)) ∧ w' = w := by
  cases is
  · go_enter Tryz.func24, Tryz.ntmps24
    go_wp2_with fail
    go_ret
    exact ⟨rfl, rfl⟩
  · go_enter Tryz.func24, Tryz.ntmps24
    go_wp2_with fail
    go_ret
    exact ⟨rfl, rfl⟩
theorem ta_44 (n : Int) (w : World) : (Instr.typeAssert (.iface 111 (.int .u32 n)) 43 111 true).run Tryz.prog w = .ok (.tuple #[.int .u32 n, .bool true]) w := by kernel_rfl
theorem ta_64 (hi lo : Int) (w : World) : (Instr.typeAssert (.iface 34 (.agg #[.int .u64 hi, .int .u64 lo])) 43 111 true).run Tryz.prog w = .ok (.tuple #[.int .u32 0, .bool false]) w := by kernel_rfl
theorem ta_66 (hi lo : Int) (w : World) : (Instr.typeAssert (.iface 34 (.agg #[.int .u64 hi, .int .u64 lo])) 43 34 true).run Tryz.prog w = .ok (.tuple #[.agg #[.int .u64 hi, .int .u64 lo], .bool true]) w := by kernel_rfl
theorem Wide4_calls (n : Int) (h0 : 0 ≤ n) (h1 : n < 4294967296) (w : World) :
    Calls Tryz.prog 221 #[.int .u32 n] w fun e w' => e = .returned (.tuple #[.int .u64 0, .int .u64 (281470681743360 + n)]) ∧ Below w.heap.size w w' := (Wide_calls n h0 h1 w).mono fun e w' h => ⟨h.1, by rw [← h.2]; exact Below.refl _ _⟩
theorem mw_4 (n : Int) (w : World) : (method 321 111 (.int .u32 n) "Wide").run Tryz.prog w = .ok (221, .int .u32 n) w := by kernel_rfl
theorem mw_6 (hi lo : Int) (w : World) : (method 321 34 (.agg #[.int .u64 hi, .int .u64 lo]) "Wide").run Tryz.prog w = .ok (220, .agg #[.int .u64 hi, .int .u64 lo]) w := by kernel_rfl
end Go.Proofs.YtplehdcnnaamkaaGreatDoor

/- Addresses that a text is: plain Lean. -/
namespace Go.Proofs.YtplehdcnnaamkaaGreatDoor
open Go.RowKit Go.Proofs.YtplehdcnnaamkaaGreatDoorW.PrintWords

theorem docL_bd (l : List UInt8) (xs : List Int) (h : docL l = some xs) : xs.length = 8 ∧ ∀ x ∈ xs, 0 ≤ x ∧ x ≤ 65535 := by
  rw [docL] at h
  split at h
  · split at h
    · cases h
    · rename_i q hq
      split at h
      · rename_i h8
        obtain rfl := Option.some.inj h
        exact ⟨h8, listD_bd _ _ _ hq⟩
      · cases h
  · split at h
    · rename_i p r hp hr
      split at h
      · rename_i h7
        obtain rfl := Option.some.inj h
        refine ⟨by simp; omega, fun x hx => ?_⟩
        rcases List.mem_append.1 hx with hx | hx
        · rcases List.mem_append.1 hx with hx | hx
          · exact listD_bd _ _ _ hp x hx
          · rw [(List.mem_replicate.1 hx).2]
            omega
        · exact listD_bd _ _ _ hr x hx
      · cases h
    · cases h
theorem half4_bd (l : List Int) (hl : l.length = 4) (hb : ∀ x ∈ l, 0 ≤ x ∧ x ≤ 65535) : 0 ≤ half l ∧ half l < 18446744073709551616 := by
  have := half_take l hb 4
  rwa [List.take_of_length_le (by omega)] at this
theorem six_bd (l : List UInt8) : (0 ≤ sixHi l ∧ sixHi l < 18446744073709551616) ∧ 0 ≤ sixLo l ∧ sixLo l < 18446744073709551616 := by
  cases h : sixL l with
  | none =>
    obtain ⟨h1, h2, _⟩ := six_none h
    rw [h1, h2]
    omega
  | some xs =>
    obtain ⟨h1, h2, _⟩ := six_some h
    rw [six_doc] at h
    obtain ⟨h8, hb⟩ := docL_bd l xs h
    rw [h1, h2]
    exact ⟨half4_bd _ (by rw [List.length_take]; omega) fun x hx => hb x (List.mem_of_mem_take hx), half4_bd _ (by rw [List.length_drop]; omega) fun x hx => hb x (List.mem_of_mem_drop hx)⟩
/-- The address that a text is. -/
def adOf (l : List UInt8) : Option (Bool × Int × Int) := if strictOk l = true then some (false, 0, strictN l) else if sixOk l = true then some (true, sixHi l, sixLo l) else none
def adVo : Option (Bool × Int × Int) → Value
  | none => .nilIface
  | some a => adV a
theorem adOf_ok (l : List UInt8) (a : Bool × Int × Int) (h : adOf l = some a) : adOk a := by
  rw [adOf] at h
  split at h
  · obtain rfl := Option.some.inj h
    rcases strict_val l with ⟨_, _, h3⟩ | ⟨n, hn, _, _, h3, _⟩ <;> rw [h3] <;> exact ⟨rfl, by omega, by omega⟩
  · split at h
    · obtain rfl := Option.some.inj h
      exact six_bd l
    · cases h
end Go.Proofs.YtplehdcnnaamkaaGreatDoor

/- Addresses of either sort: read, told as the document's; walked. -/
namespace Go.Proofs.YtplehdcnnaamkaaGreatDoor
open Go.RowKit Go.Proofs.YtplehdcnnaamkaaGreatDoorW.PrintWords Go.Proofs.YtplehdcnnaamkaaGreatDoorW.PrintMore

theorem heap_set3 {w : World} {g : Nat} {t : TypeId} {z0 z1 z2 : Value} (v0 v1 v2 : Value) (hg : w.heap[g]? = some (.cells #[z0, z1, z2] t (0, 0))) : (((w.setCell ⟨g, 0, none⟩ v0).setCell ⟨g, 1, none⟩ v1).setCell ⟨g, 2, none⟩ v2).heap[g]? = some (.cells #[v0, v1, v2] t (0, 0)) := by
  have h0 : (w.setCell ⟨g, 0, none⟩ v0).heap[g]? = some (.cells #[v0, z1, z2] t (0, 0)) := heap_setN v0 hg
  have h1 : ((w.setCell ⟨g, 0, none⟩ v0).setCell ⟨g, 1, none⟩ v1).heap[g]? = some (.cells #[v0, v1, z2] t (0, 0)) := heap_setN v1 h0
  exact heap_setN v2 h1
theorem below_set3 {B : Nat} {w w' : World} {g : Nat} (h : Below B w w') (hg : B ≤ g) (v0 v1 v2 : Value) : Below B w (((w'.setCell ⟨g, 0, none⟩ v0).setCell ⟨g, 1, none⟩ v1).setCell ⟨g, 2, none⟩ v2) := ((h.setCell hg _).setCell hg _).setCell hg _

theorem ret_ad {a b : Value} {c d : Bool} (h : a = b) (h' : c = d) : Ending.returned (.tuple #[a, .bool c]) = .returned (.tuple #[b, .bool d]) := by rw [h, h']
set_option maxHeartbeats 2000000 in
set_option maxRecDepth 100000 in
theorem AdParse_calls (s : ByteArray) (w : World) (hs : s.size ≤ 900000) (hE : Aside0 (Errs w)) (hM : Aside0 (Mx w)) :
    Calls Tryz.prog 43 #[.string s] w fun e w' => e = .returned (.tuple #[adVo (adOf s.data.toList), .bool (adOf s.data.toList).isSome]) ∧ Below w.heap.size w w' := by
  go_enter Tryz.func43, Tryz.ntmps43
  go_wp2_with fail
  refine (Strict_calls s _ hs hE).mono ?_
  rintro e w1 ⟨rfl, b1⟩
  by_cases h4 : strictOk s.data.toList = true
  · have HA := Lib.hid (show adOf s.data.toList = some (false, 0, strictN s.data.toList) from if_pos h4)
    rw [h4]
    go_wp2_with fail
    go_ret2
    exact ⟨ret_ad (by rw [HA.out]; rfl) (by rw [HA.out]; rfl), b1⟩
  · have hf : strictOk s.data.toList = false := by simpa using h4
    rw [hf]
    have H4 := Lib.hid h4
    clear h4
    go_wp2_with fail
    refine (SixParse_calls s _ hs ⟨hE.out.stays b1⟩ ⟨hM.out.stays b1⟩).mono ?_
    rintro e w2 ⟨rfl, b2⟩
    have B2 := Aside0.mk (below_then b1 b1.size b2)
    by_cases h6 : sixOk s.data.toList = true
    · have HA := Lib.hid (show adOf s.data.toList = some (true, sixHi s.data.toList, sixLo s.data.toList) by rw [adOf, if_neg H4.out, if_pos h6])
      rw [h6]
      generalize sixHi s.data.toList = hi at HA ⊢
      generalize sixLo s.data.toList = lo at HA ⊢
      go_wp2_with fail
      go_ret2
      exact ⟨ret_ad (by rw [HA.out]; rfl) (by rw [HA.out]; rfl), B2.out.alloc B2.out.size _⟩
    · have HA := Lib.hid (show adOf s.data.toList = none by rw [adOf, if_neg H4.out, if_neg h6])
      rw [show sixOk s.data.toList = false by simpa using h6]
      generalize sixHi s.data.toList = hi
      generalize sixLo s.data.toList = lo
      clear h6
      go_wp2_with fail
      go_ret2
      exact ⟨ret_ad (by rw [HA.out]; rfl) (by rw [HA.out]; rfl), B2.out.alloc B2.out.size _⟩

end Go.Proofs.YtplehdcnnaamkaaGreatDoor

/- The document's prefix of an address, and what a prefix covers; walked. -/
namespace Go.Proofs.YtplehdcnnaamkaaGreatDoor
open Go.RowKit Go.Proofs.YtplehdcnnaamkaaGreatDoorW.PrintWords Go.Proofs.YtplehdcnnaamkaaGreatDoorW.PrintMore

/-- The prefix of an address. -/
def ofV (a b n : Int) : Value := if 0 ≤ n ∧ n ≤ 128 then .agg #[.int .u64 (mHi a n.toNat), .int .u64 (mLo b n.toNat), .int .i64 n] else .agg #[.int .u64 0, .int .u64 0, .int .i64 0]
def ofOk (n : Int) : Bool := decide (0 ≤ n ∧ n ≤ 128)
end Go.Proofs.YtplehdcnnaamkaaGreatDoor

/-! ### 53. '==' of structs as_ one Bool -/
namespace Go.Proofs.YtplehdcnnaamkaaGreatDoorW.PrintWords
open Go.RowKit
section
variable {P : Program} {d : Nat} {xs ys : Array Value} {f : Field} {fs : List Field} {a b : Value} {r s : Bool} {w : World}
/-- The last field that counts. -/
theorem eqf_last (hn : (f.name == "_") = false) (ha : (part f.type xs f.offset).run P w = .ok a w) (hb : (part f.type ys f.offset).run P w = .ok b w) (he : (Op.equalIn d f.type a b).run P w = .ok r w) : (Op.eqFields d xs ys [f]).run P w = .ok r w := by
  have hn' : f.name ≠ "_" := by simpa using hn
  simp only [Op.eqFields, if_pos hn', Sem.run_bind, ha, hb, he, Result.andThen_ok]
  cases r <;> simp
theorem eqf_cons (hn : (f.name == "_") = false) (ha : (part f.type xs f.offset).run P w = .ok a w) (hb : (part f.type ys f.offset).run P w = .ok b w) (he : (Op.equalIn d f.type a b).run P w = .ok r w) (hr : (Op.eqFields d xs ys fs).run P w = .ok s w) : (Op.eqFields d xs ys (f :: fs)).run P w = .ok (r && s) w := by
  have hn' : f.name ≠ "_" := by simpa using hn
  rw [Op.eqFields]
  simp only [if_pos hn', Sem.run_bind, ha, hb, he, Result.andThen_ok]
  cases r
  · simp
  · simpa using hr
theorem eqA_of {t : TypeId} {fs : Array Field} (hu : P.underlying t = some (.struct fs)) (hp : P.stoodInHeld t = false) (h : (Op.eqFields d xs ys fs.toList).run P w = .ok r w) : (Op.equalIn (d + 1) t (.agg xs) (.agg ys)).run P w = .ok r w := by
  have hf : P.fieldsOf t = fs := by simp [Program.fieldsOf, hu]
  rw [run_equalIn_struct (P := P) w d t xs ys (by rw [hf]; exact hu) hp, hf]
  exact h
end
end Go.Proofs.YtplehdcnnaamkaaGreatDoorW.PrintWords

/- Prefixes: of an address, what one has and covers; walked. -/
namespace Go.Proofs.YtplehdcnnaamkaaGreatDoor
open Go.RowKit Go.Proofs.YtplehdcnnaamkaaGreatDoorW.PrintWords Go.Proofs.YtplehdcnnaamkaaGreatDoorW.PrintMore

set_option maxRecDepth 100000 in
theorem ep_ (d : Nat) (a b c a' b' c' : Int) (w : World) : (Op.equalIn (d + 2) 25 (.agg #[.int .u64 a, .int .u64 b, .int .i64 c]) (.agg #[.int .u64 a', .int .u64 b', .int .i64 c'])).run Tryz.prog w = .ok (a == a' && (b == b' && c == c')) w := by
  have e1 : (Op.equalIn (d + 1) 23 (.int .u64 a) (.int .u64 a')).run Tryz.prog w = .ok (a == a') w := run_equalIn_int w d 23 .u64 .u64 a a' Tryz.underlying23
  have e2 : (Op.equalIn (d + 1) 23 (.int .u64 b) (.int .u64 b')).run Tryz.prog w = .ok (b == b') w := run_equalIn_int w d 23 .u64 .u64 b b' Tryz.underlying23
  have e3 : (Op.equalIn (d + 1) 3 (.int .i64 c) (.int .i64 c')).run Tryz.prog w = .ok (c == c') w := run_equalIn_int w d 3 .i64 .i64 c c' Tryz.underlying3
  refine eqA_of Tryz.underlying25 (by kernel_rfl) ?_
  exact eqf_cons rfl (by kernel_rfl) (by kernel_rfl) e1 (eqf_cons rfl (by kernel_rfl) (by kernel_rfl) e2 (eqf_last rfl (by kernel_rfl) (by kernel_rfl) e3))
theorem ep_25 (a b c a' b' c' : Int) (w : World) : (binOp .eql 25 (.agg #[.int .u64 a, .int .u64 b, .int .i64 c]) (.agg #[.int .u64 a', .int .u64 b', .int .i64 c'])).run Tryz.prog w = .ok (.bool (a == a' && (b == b' && c == c'))) w := by
  have h := ep_ 9998 a b c a' b' c' w
  simp only [binOp]
  simp [Op.equal, Op.maxDepth, h]
theorem eg_25 (a b c a' b' c' : Int) (o1 o2 : Operand) (w : World) : (eqGuard .eql 25 o1 o2 (.agg #[.int .u64 a, .int .u64 b, .int .i64 c]) (.agg #[.int .u64 a', .int .u64 b', .int .i64 c'])).run Tryz.prog w = .ok () w := by kernel_rfl

theorem ad_bd (a : Bool × Int × Int) (h : adOk a) : (0 ≤ adHi a ∧ adHi a < 18446744073709551616) ∧ 0 ≤ adLo a ∧ adLo a < 18446744073709551616 := by
  obtain ⟨s, hi, lo⟩ := a
  cases s
  · obtain ⟨h1, h2⟩ := h
    simp only [adHi, adLo]
    omega
  · exact h
/-- The prefix of an address, or none. -/
def ofP : Option (Bool × Int × Int) → Int → Value
  | none, _ => .agg #[.int .u64 0, .int .u64 0, .int .i64 0]
  | some a, n => ofV (adHi a) (adLo a) n
def ofPok : Option (Bool × Int × Int) → Int → Bool
  | none, _ => false
  | some _, n => ofOk n
/-- Does a prefix have an address? Of nil it has none. -/
def hasO (hi lo n : Int) : Option (Bool × Int × Int) → Bool
  | none => false
  | some a => hasP hi lo n (adHi a) (adLo a)

set_option maxHeartbeats 4000000 in
set_option maxRecDepth 100000 in
theorem PfOf_calls (o : Option (Bool × Int × Int)) (ho : ∀ a, o = some a → adOk a) (n : Int) (w : World) :
    Calls Tryz.prog 18 #[adVo o, .int .i64 n] w fun e w' => e = .returned (.tuple #[ofP o n, .bool (ofPok o n)]) ∧ Below w.heap.size w w' := by
  have q4 := mw_4
  have q6 := mw_6
  obtain ⟨W0, hW0⟩ : ∃ W0, W0 = w.alloc (.cells #[.int .u64 0, .int .u64 0, .int .i64 0] 25) := ⟨_, rfl⟩
  obtain ⟨hg, hl, hb⟩ := box3 hW0
  have B0 := Aside0.mk hb
  have HW := Lib.hid hW0
  have HG := Aside0.mk hg
  clear hg hW0 hb
  rcases o with _ | a
  · simp only [adVo]
    go_enter Tryz.func18, Tryz.ntmps18
    go_wp2_with fail
    refine bodyPost_ret (results_cell_bool rfl _ _ w.heap.size 25 #[.int .u64 0, .int .u64 0, .int .i64 0] (0, 0) _ rfl (by rw [← HW.out]; exact HG.out) Tryz.underlying25 rfl (by kernel_rfl)) rfl ?_
    exact ⟨rfl, by rw [← HW.out]; exact B0.out⟩
  · have hbd := ad_bd a (ho a rfl)
    have HA := ho a rfl
    by_cases hn : 0 ≤ n ∧ n ≤ 128
    · obtain ⟨m, rfl⟩ : ∃ m : Nat, n = m := ⟨n.toNat, by omega⟩
      have E := Lib.hid (show ofP (some a) m = .agg #[.int .u64 (mHi (adHi a) m), .int .u64 (mLo (adLo a) m), .int .i64 m] by rw [ofP, ofV, if_pos hn, Int.toNat_natCast])
      have E2 := Lib.hid (show ofPok (some a) m = true from decide_eq_true hn)
      have MK := Aside0.mk (fun W => mask_calls' (adHi a) (adLo a) m (by omega) hbd.1 hbd.2 W)
      obtain ⟨sx, hi, lo⟩ := a
      cases sx
      all_goals
        simp only [adVo, adV]
        go_enter Tryz.func18, Tryz.ntmps18
        go_wp2_with fail
        try rw [← HW.out]
        first
          | refine (Wide4_calls lo HA.2.1 HA.2.2 _).mono ?_
          | refine (Wide6_calls hi lo _).mono ?_
        rintro e w1 ⟨rfl, b1⟩
        have hg1 := (b1.block _ hl).trans HG.out
        have hl1 := Nat.lt_of_lt_of_le hl b1.size
        have B1 := Aside0.mk (below_then B0.out B0.out.size b1)
        have HG1 := Aside0.mk hg1
        clear b1 hg1
        go_wp2_with fail
        refine (MK.out _).mono ?_
        rintro e w2 ⟨rfl, b2⟩
        have hg2 := (b2.block _ hl1).trans HG1.out
        have HG2 := Aside0.mk hg2
        have B2 := Aside0.mk (below_then B1.out B1.out.size b2)
        obtain ⟨k0, f0⟩ := heap_cell (j := 0) hg2 rfl
        obtain ⟨k1, f1⟩ := heap_cell (j := 1) hg2 rfl
        obtain ⟨k2, f2⟩ := heap_cell (j := 2) hg2 rfl
        clear b2 hg2
        generalize mHi _ m = x at E ⊢
        generalize mLo _ m = y at E ⊢
        go_wp2_with fail
        refine bodyPost_ret (results_cell_bool rfl _ _ w.heap.size 25 #[.int .u64 x, .int .u64 y, .int .i64 m] (0, 0) _ rfl (heap_set3 _ _ _ HG2.out) Tryz.underlying25 rfl (by kernel_rfl)) rfl ?_
        exact ⟨ret_ad E.out.symm E2.out.symm, below_set3 B2.out (Nat.le_refl _) _ _ _⟩
    · have E := Lib.hid (show ofP (some a) n = .agg #[.int .u64 0, .int .u64 0, .int .i64 0] by rw [ofP, ofV, if_neg hn])
      have E2 := Lib.hid (show ofPok (some a) n = false from decide_eq_false hn)
      obtain ⟨sx, hi, lo⟩ := a
      rcases (show n < 0 ∨ 128 < n by omega) with h0 | h0
      all_goals
        cases sx
        all_goals
          simp only [adVo, adV]
          go_enter Tryz.func18, Tryz.ntmps18
          go_wp2_with fail
          refine bodyPost_ret (results_cell_bool rfl _ _ w.heap.size 25 #[.int .u64 0, .int .u64 0, .int .i64 0] (0, 0) _ rfl (by rw [← HW.out]; exact HG.out) Tryz.underlying25 rfl (by kernel_rfl)) rfl ?_
          exact ⟨ret_ad E.out.symm E2.out.symm, by rw [← HW.out]; exact B0.out⟩
end Go.Proofs.YtplehdcnnaamkaaGreatDoor

/- Prefixes: what one has and covers; walked. -/
namespace Go.Proofs.YtplehdcnnaamkaaGreatDoor
open Go.RowKit Go.Proofs.YtplehdcnnaamkaaGreatDoorW.PrintWords Go.Proofs.YtplehdcnnaamkaaGreatDoorW.PrintMore

set_option maxHeartbeats 4000000 in
set_option maxRecDepth 100000 in
theorem PfHas_calls (hi lo n : Int) (o : Option (Bool × Int × Int)) (ho : ∀ a, o = some a → adOk a) (h0 : 0 ≤ hi ∧ hi < 18446744073709551616) (h1 : 0 ≤ lo ∧ lo < 18446744073709551616) (w : World) :
    Calls Tryz.prog 21 #[.agg #[.int .u64 hi, .int .u64 lo, .int .i64 n], adVo o] w fun e w' => e = .returned (.bool (hasO hi lo n o)) ∧ Below w.heap.size w w' := by
  obtain ⟨W0, hW0⟩ : ∃ W0, W0 = w.alloc (.cells #[.int .u64 hi, .int .u64 lo, .int .i64 n] 25) := ⟨_, rfl⟩
  obtain ⟨hg, hl, hb⟩ := box3 hW0
  have B0 := Aside0.mk hb
  have HW := Lib.hid hW0
  have HG := Aside0.mk hg
  clear hg hW0 hb
  have OF := Aside0.mk (PfOf_calls o ho n)
  have RI := Aside0.mk (Right_calls hi lo n h0 h1)
  have eq1 := ep_25
  have eq2 := eg_25
  generalize hv : adVo o = vo at OF
  have HV := Lib.hid hv
  clear hv
  cases hok : ofPok o n
  · have E := Lib.hid (show hasO hi lo n o = false by
      cases o with
      | none => rfl
      | some a => exact hasP_wrong _ _ _ _ _ (rightP_neg _ _ _ (of_decide_eq_false hok)))
    have E0 := Lib.hid (show ofP o n = .agg #[.int .u64 0, .int .u64 0, .int .i64 0] by
      cases o with
      | none => rfl
      | some a => exact if_neg (of_decide_eq_false hok))
    rw [hok, E0.out] at OF
    clear hok E0
    go_enter Tryz.func21, Tryz.ntmps21
    go_wp2_with fail
    rw [← HW.out]
    refine (OF.out _).mono ?_
    rintro e w1 ⟨rfl, b1⟩
    have B1 := Aside0.mk (below_then B0.out B0.out.size b1)
    clear b1
    go_wp2_with fail
    go_ret
    exact ⟨ret_bool E.out.symm, B1.out.alloc B1.out.size _⟩
  · obtain ⟨a, rfl⟩ : ∃ a, o = some a := by
      cases o with
      | none => cases hok
      | some a => exact ⟨a, rfl⟩
    have hn : 0 ≤ n ∧ n ≤ 128 := of_decide_eq_true hok
    obtain ⟨m, rfl⟩ : ∃ m : Nat, n = m := ⟨n.toNat, by omega⟩
    have E0 := Lib.hid (show ofP (some a) m = .agg #[.int .u64 (mHi (adHi a) m), .int .u64 (mLo (adLo a) m), .int .i64 m] by rw [ofP, ofV, if_pos hn, Int.toNat_natCast])
    have E1 := Lib.hid (show hasO hi lo m (some a) = (rightP hi lo m && (mHi (adHi a) m == hi && mLo (adLo a) m == lo)) from rfl)
    rw [hok, E0.out] at OF
    generalize mHi (adHi a) m = x at OF E1
    generalize mLo (adLo a) m = y at OF E1
    clear hok E0
    go_enter Tryz.func21, Tryz.ntmps21
    go_wp2_with fail
    rw [← HW.out]
    have hg := HG.out
    obtain ⟨k0, _⟩ := heap_cell (j := 0) hg rfl
    obtain ⟨k1, _⟩ := heap_cell (j := 1) hg rfl
    obtain ⟨k2, _⟩ := heap_cell (j := 2) hg rfl
    clear hg
    go_wp2_with fail
    refine (OF.out _).mono ?_
    rintro e w1 ⟨rfl, b1⟩
    have B1 := Aside0.mk (below_then B0.out B0.out.size b1)
    have hl1 := Nat.lt_of_lt_of_le hl b1.size
    have HG1 := Aside0.mk ((b1.block _ hl).trans HG.out)
    clear b1 k0 k1 k2
    obtain ⟨W1, hW1⟩ : ∃ W1, W1 = w1.alloc (.cells #[.int .u64 x, .int .u64 y, .int .i64 m] 25) := ⟨_, rfl⟩
    obtain ⟨hg2, hl2, hb2⟩ := box3 hW1
    have HW1 := Lib.hid hW1
    have HG2 := Aside0.mk hg2
    have B2 := Aside0.mk (below_then B1.out B1.out.size hb2)
    have HG3 := Aside0.mk ((hb2.block _ hl1).trans HG1.out)
    have hl3 := Nat.lt_of_lt_of_le hl1 hb2.size
    have hg3 := HG3.out
    clear hg2 hb2 hW1
    obtain ⟨k0, _⟩ := heap_cell (j := 0) hg3 rfl
    obtain ⟨k1, _⟩ := heap_cell (j := 1) hg3 rfl
    obtain ⟨k2, _⟩ := heap_cell (j := 2) hg3 rfl
    clear hg3
    rw [HW1.out] at k0 k1 k2
    go_wp2_with fail
    rw [← HW1.out] at k0 k1 k2 ⊢
    refine (RI.out _).mono ?_
    rintro e w2 ⟨rfl, b2⟩
    have B3 := Aside0.mk (below_then B2.out B2.out.size b2)
    have hg4 := (b2.block _ hl3).trans HG3.out
    have hg5 := (b2.block _ hl2).trans HG2.out
    clear k0 k1 k2
    obtain ⟨k0, _⟩ := heap_cell (j := 0) hg4 rfl
    obtain ⟨k1, _⟩ := heap_cell (j := 1) hg4 rfl
    obtain ⟨k2, _⟩ := heap_cell (j := 2) hg4 rfl
    obtain ⟨m0, _⟩ := heap_cell (j := 0) hg5 rfl
    obtain ⟨m1, _⟩ := heap_cell (j := 1) hg5 rfl
    obtain ⟨m2, _⟩ := heap_cell (j := 2) hg5 rfl
    clear hg4 hg5 b2
    cases hr : rightP hi lo m
    · have E := Lib.hid (show hasO hi lo m (some a) = false by rw [E1.out, hr, Bool.false_and])
      clear hr
      go_wp2_with fail
      go_ret
      exact ⟨ret_bool E.out.symm, B3.out⟩
    · have E := Lib.hid (show hasO hi lo m (some a) = (x == hi && y == lo) by rw [E1.out, hr, Bool.true_and])
      clear hr
      go_wp2_with fail
      go_ret
      exact ⟨ret_bool (by rw [E.out, Bool.beq_comm (a := x), Bool.beq_comm (a := y)]), B3.out⟩
end Go.Proofs.YtplehdcnnaamkaaGreatDoor

/- What prefixes of one address, and halves of one, have: plain Lean. -/
namespace Go.Proofs.YtplehdcnnaamkaaGreatDoor

/-- A block that is laid. -/
theorem boxN {w W0 : World} {cs : Array Value} {t : TypeId} (hW0 : W0 = w.alloc (.cells cs t)) : W0.heap[w.heap.size]? = some (.cells cs t (0, 0)) ∧ w.heap.size < W0.heap.size ∧ Go.RowKit.Below w.heap.size w W0 := by
  subst hW0
  exact ⟨heap_alloc_new' _ _ _ rfl, by simp, (Go.RowKit.Below.refl _ _).alloc (Nat.le_refl _) _⟩
end Go.Proofs.YtplehdcnnaamkaaGreatDoor

