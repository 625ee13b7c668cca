/- (*six.reader).step: one step of the reader. -/
import Derived.Test.YtfieiigefllekaaGreatDoorJH
import Derived.Test.YtfieiigefllekaaGreatDoorJF
import Derived.Test.YtfieiigefllekaaGreatDoorShD
import Derived.BigRegion
import Derived.Deep.RegionHeld3
import Derived.StillTailTactics
import Derived.Laws.ResultCell
import Derived.Test.YtfieiigefllekaaGreatDoorJE
import Derived.Test.YtfieiigefllekaaGreatDoorJB
import Derived.Deep.RegionWith
namespace Go.Proofs.YtfieiigefllekaaGreatDoor
open Go.RowKit Go.Proofs.YtfieiigefllekaaGreatDoorW.PrintWords Go.Proofs.YtfieiigefllekaaGreatDoorW.PrintMore

/-- A step at a word: the word, what is behind the colon, and whether there is one. -/
def stepW (C : List UInt8 × List UInt8 × Bool) (p : List Int) (gap : Int) : Option (List UInt8 × List Int × Int × Bool) :=
  if strictOk C.1 = true ∧ C.2.2 = false then some ([], p ++ [strictN C.1 / 65536, strictN C.1 % 65536], gap, true)
  else match pieceL C.1 with
    | none => none
    | some x => if C.2.2 = true ∧ C.2.1 = [] then none else some (C.2.1, p ++ [x], gap, !C.2.2)
/-- One step: a piece, or an address of four bytes, or two colons. -/
def stepL (rest : List UInt8) (p : List Int) (gap : Int) : Option (List UInt8 × List Int × Int × Bool) :=
  if Lib.hasPrefix rest [58] = true then (if 0 ≤ gap then none else some (rest.drop 1, p, (p.length : Int), (rest.drop 1).isEmpty))
  else stepW (Lib.cut rest [58]) p gap

/-- What a reader holds, and where. -/
def Holds (w : World) (B b : Nat) (rest : ByteArray) (p : List Int) (gap : Int) (ended : Bool) : Prop :=
  ∃ v, w.heap[b]? = some (.cells #[.string rest, v, .int .i64 gap, .bool ended] 96 (0, 0)) ∧ Kd.R (Kd.int .u16) 31 w B (fun k => k ≠ b) v p

theorem heap_set203 {w : World} {b : Nat} {a0 a1 a2 a3 : Value} {t : TypeId} (v2 v0 v3 : Value) (hh : w.heap[b]? = some (.cells #[a0, a1, a2, a3] t (0, 0))) : (((w.setCell ⟨b, 2, none⟩ v2).setCell ⟨b, 0, none⟩ v0).setCell ⟨b, 3, none⟩ v3).drew.heap[b]? = some (.cells #[v0, a1, v2, v3] t (0, 0)) := by
  have h1 : (w.setCell ⟨b, 2, none⟩ v2).heap[b]? = some (.cells #[a0, a1, v2, a3] t (0, 0)) := heap_setN v2 hh
  have h2 : ((w.setCell ⟨b, 2, none⟩ v2).setCell ⟨b, 0, none⟩ v0).heap[b]? = some (.cells #[v0, a1, v2, a3] t (0, 0)) := heap_setN v0 h1
  exact heap_setN v3 h2
set_option maxHeartbeats 4000000 in
set_option maxRecDepth 100000 in
theorem step_colon (B b : Nat) (hBb : B ≤ b) (rest : ByteArray) (p : List Int) (gap : Int) (ended : Bool) (w : World) (hs : rest.size ≤ 900000) (_hp : p.length ≤ 1000) (hg0 : -1 ≤ gap) (hg1 : gap ≤ 1000) (hpre : Lib.hasPrefix rest.data.toList [58] = true) (hH : Holds w B b rest p gap ended) :
    Calls Tryz.prog 57 #[.pointer (some ⟨b, 0, none⟩)] w fun e w' => Below B w w' ∧ ((0 ≤ gap ∧ e = .returned (.bool false)) ∨ (gap < 0 ∧ e = .returned (.bool true) ∧ ∃ rest' : ByteArray, rest'.data.toList = rest.data.toList.drop 1 ∧ Holds w' B b rest' p (p.length : Int) (rest.data.toList.drop 1).isEmpty)) := by
  obtain ⟨v, hh, hR⟩ := hH
  obtain ⟨A, c, rfl, hcap, _⟩ := Kd.R_reads hR
  obtain ⟨c0, f0⟩ := heap_cell (j := 0) hh rfl
  obtain ⟨c1, f1⟩ := heap_cell (j := 1) hh rfl
  obtain ⟨c2, f2⟩ := heap_cell (j := 2) hh rfl
  obtain ⟨c3, f3⟩ := heap_cell (j := 3) hh rfl
  have hpos : 0 < rest.size := by
    rcases Nat.eq_zero_or_pos rest.size with h | h
    · have e : rest.data.toList = [] := List.eq_nil_of_length_eq_zero (by simpa using h)
      rw [e] at hpre
      cases hpre
    · exact h
  have HH := Aside0.mk hh
  have HR := Aside0.mk hR
  have HP := Lib.hid hpre
  clear hh hR hpre
  go_enter Tryz.func57, Tryz.ntmps57
  go_wp2_with fail
  refine (Tryz.strings_HasPrefix _ _ _).mono ?_
  rintro e w1 ⟨rfl, rfl⟩
  rw [show (ByteArray.mk #[58]).data.toList = [58] from rfl, HP.out]
  by_cases hg : 0 ≤ gap
  · go_wp2_with fail
    go_ret
    exact ⟨Below.refl _ _, .inl ⟨hg, rfl⟩⟩
  · go_wp2_with fail
    go_region
    go_wp2_with fail
    go_ret
    have he : (rest.extract 1 rest.size).data.toList = rest.data.toList.drop 1 := extract_list rest 1
    refine ⟨(((((Below.refl B w1).setCell hBb _).setCell hBb _).setCell hBb _)).drew, .inr ⟨by omega, rfl, _, he, ?_⟩⟩
    rw [toList_eq, he]
    exact ⟨_, heap_set203 _ _ _ HH.out, Kd.R_drew (Kd.R_far (Kd.R_far (Kd.R_far HR.out (fun _ h => h) _) (fun _ h => h) _) (fun _ h => h) _)⟩
end Go.Proofs.YtfieiigefllekaaGreatDoor

/- (*six.reader).step: a piece, or an address of four bytes. -/
namespace Go.Proofs.YtfieiigefllekaaGreatDoor
open Go.RowKit Go.Proofs.YtfieiigefllekaaGreatDoorW.PrintWords Go.Proofs.YtfieiigefllekaaGreatDoorW.PrintMore

theorem info_u16 : (Tryz.prog.info? 31).map (fun i => (i.zero, i.size, i.bytes)) = some (some (.int .u16 0), 1, 2) := by kernel_rfl
theorem wrap_u16_of (n : Int) (h0 : 0 ≤ n) (h1 : n < 65536) : IntKind.u16.wrap n = n := by
  simp [IntKind.wrap, IntKind.signed, IntKind.bits]
  omega
/-- What the variable of the greatest length holds is a number. -/
def Mx (w : World) : Prop := ∃ m, w.cell? ⟨1, 0, none⟩ = some (.int .i64 m)
theorem Mx.stays {w w' : World} (h : Mx w) (hb : Below w.heap.size w w') : Mx w' := by
  obtain ⟨m, h⟩ := h
  exact ⟨m, (hb.cell (cell_lt h)).trans h⟩
theorem cut_le (s sep : List UInt8) : (Lib.cut s sep).1.length ≤ s.length ∧ (Lib.cut s sep).2.1.length ≤ s.length := by
  unfold Lib.cut
  split
  · constructor
    · rw [List.length_take]
      omega
    · rw [List.length_drop]
      omega
  · exact ⟨Nat.le_refl _, by simp⟩

theorem heap_set103 {w : World} {b : Nat} {a0 a1 a2 a3 : Value} {t : TypeId} (v1 v0 v3 : Value) (hh : w.heap[b]? = some (.cells #[a0, a1, a2, a3] t (0, 0))) : (((w.setCell ⟨b, 1, none⟩ v1).setCell ⟨b, 0, none⟩ v0).setCell ⟨b, 3, none⟩ v3).heap[b]? = some (.cells #[v0, v1, a2, v3] t (0, 0)) := by
  have h1 : (w.setCell ⟨b, 1, none⟩ v1).heap[b]? = some (.cells #[a0, v1, a2, a3] t (0, 0)) := heap_setN v1 hh
  have h2 : ((w.setCell ⟨b, 1, none⟩ v1).setCell ⟨b, 0, none⟩ v0).heap[b]? = some (.cells #[v0, v1, a2, a3] t (0, 0)) := heap_setN v0 h1
  exact heap_setN v3 h2
set_option maxHeartbeats 4000000 in
set_option maxRecDepth 100000 in
theorem step_word (B b : Nat) (hBb : B ≤ b) (rest : ByteArray) (p : List Int) (gap : Int) (ended : Bool) (w : World) (hs : rest.size ≤ 900000) (hp : p.length ≤ 1000) (hpre : Lib.hasPrefix rest.data.toList [58] = false) (hH : Holds w B b rest p gap ended) (hE : Aside0 (Errs w)) (hM : Aside0 (Mx w)) :
    Calls Tryz.prog 57 #[.pointer (some ⟨b, 0, none⟩)] w fun e w' => Below B w w' ∧ ((stepL rest.data.toList p gap = none ∧ e = .returned (.bool false)) ∨ ∃ (rest' : ByteArray) (p' : List Int) (ended' : Bool), stepL rest.data.toList p gap = some (rest'.data.toList, p', gap, ended') ∧ e = .returned (.bool true) ∧ Holds w' B b rest' p' gap ended') := by
  obtain ⟨v, hh, hR⟩ := hH
  obtain ⟨A, c, rfl, hcap, _⟩ := Kd.R_reads hR
  obtain ⟨c0, f0⟩ := heap_cell (j := 0) hh rfl
  have hbl : b < w.heap.size := cell_lt c0
  have HH := Aside0.mk hh
  have HR := Aside0.mk hR
  have HP := Lib.hid hpre
  have HST := Lib.hid (show stepL rest.data.toList p gap = stepW (Lib.cut rest.data.toList [58]) p gap by rw [stepL, if_neg (by rw [hpre]; decide)])
  have hcl := cut_le rest.data.toList [58]
  rw [show rest.data.toList.length = rest.size by simp] at hcl
  have HM := hM.out
  obtain ⟨mx, hmx⟩ := HM
  have HMX := Aside0.mk hmx
  clear hh hR hpre hmx
  go_enter Tryz.func57, Tryz.ntmps57
  go_wp2_with fail
  refine (Tryz.strings_HasPrefix _ _ _).mono ?_
  rintro e w1 ⟨rfl, rfl⟩
  rw [show (ByteArray.mk #[58]).data.toList = [58] from rfl, HP.out]
  go_wp2_with fail
  refine (Tryz.strings_Cut rest _ mx _ (by omega) HMX.out).mono ?_
  rintro e w2 ⟨rfl, n, hw2⟩
  rw [show (ByteArray.mk #[58]).data.toList = [58] from rfl]
  generalize Lib.cut rest.data.toList [58] = C at HST hcl ⊢
  obtain ⟨wl, rl, more⟩ := C
  simp only [] at HST hcl ⊢
  have hB2 : Below w1.heap.size w1 w2 := by rw [hw2]; exact pw_below_drewN (Below.refl _ _) n
  have hsz2 : w2.heap.size = w1.heap.size := by rw [hw2]; rfl
  have HB2 := Aside0.mk hB2
  clear hw2 hB2
  obtain ⟨word, hword⟩ : ∃ word : ByteArray, word = ⟨wl.toArray⟩ := ⟨_, rfl⟩
  obtain ⟨rst, hrst⟩ : ∃ rst : ByteArray, rst = ⟨rl.toArray⟩ := ⟨_, rfl⟩
  have hwz : word.size ≤ 900000 := by rw [hword, mk_size]; omega
  have hrz : rst.size ≤ 900000 := by rw [hrst, mk_size]; omega
  have hwl : word.data.toList = wl := by rw [hword]
  have hrl : rst.data.toList = rl := by rw [hrst]
  rw [← hword, ← hrst]
  have HW := Lib.hid hwl
  have HRL := Lib.hid hrl
  clear hword hrst hwl hrl hcl
  go_wp2_with fail
  refine (Strict_calls word _ hwz ⟨hE.out.stays HB2.out⟩).mono ?_
  rintro e w3 ⟨rfl, b3⟩
  rw [HW.out]
  have HB3 := Aside0.mk (below_then HB2.out HB2.out.size b3)
  clear b3
  have hb3 : b < w3.heap.size := Nat.lt_of_lt_of_le hbl HB3.out.size
  have hh3 : w3.heap[b]? = some (.cells #[.string rest, .slice A p.length c, .int .i64 gap, .bool ended] 96 (0, 0)) := (HB3.out.block b hbl).trans HH.out
  have HR3 := Aside0.mk (Kd.R_below HR.out HB3.out)
  have HB3' : Aside0 (Below B w1 w3) := ⟨HB3.out.mono (by omega)⟩
  obtain ⟨k0, g0⟩ := heap_cell (j := 0) hh3 rfl
  obtain ⟨k1, g1⟩ := heap_cell (j := 1) hh3 rfl
  obtain ⟨k2, g2⟩ := heap_cell (j := 2) hh3 rfl
  obtain ⟨k3, g3⟩ := heap_cell (j := 3) hh3 rfl
  have HH3 := Aside0.mk hh3
  clear hh3 c0 f0
  rcases strict_val wl with ⟨s1, s2, s3⟩ | ⟨n4, hn4, s1, s2, s3, _⟩
  · rw [s2, s3]
    have HS := Lib.hid (HST.out.trans (show stepW (wl, rl, more) p gap = match pieceL wl with
      | none => none
      | some x => if more = true ∧ rl = [] then none else some (rl, p ++ [x], gap, !more) by rw [stepW, if_neg (by rw [s2]; simp)] <;> rfl))
    clear s1 s2 s3
    go_wp2_with fail
    refine (Piece_calls word _ (by omega)).mono ?_
    rintro e w4 ⟨rfl, b4⟩
    rw [HW.out]
    have hb4 : b < w4.heap.size := Nat.lt_of_lt_of_le hb3 b4.size
    have hB4 : B ≤ w4.heap.size := by omega
    have hh4 := (b4.block b hb3).trans HH3.out
    have HR4 := Aside0.mk (Kd.R_below HR3.out b4)
    have HB4 := Aside0.mk (below_then HB3'.out (by omega) b4)
    clear k0 g0 k1 g1 k2 g2 k3 g3
    obtain ⟨k1, g1⟩ := heap_cell (j := 1) hh4 rfl
    have HH4 := Aside0.mk hh4
    clear hh4 b4
    have hno : some b ≠ (Value.slice A p.length c).ownBlock := fun e => HR4.out.1 b e.symm rfl
    have HNO := Lib.hid hno
    clear hno
    rcases hpl : pieceL wl with _ | y
    · have HS2 := Lib.hid (show stepL rest.data.toList p gap = none by rw [HS.out, hpl])
      rw [show pieceN wl = 0 by rw [pieceN, hpl]; rfl, show pieceOk wl = false by rw [pieceOk, hpl]; rfl]
      clear hpl
      go_wp2_with ((with_reducible refine gate_builtin (b := .append) (xs := #[.tmp 106, .tmp 108]) rfl ?_); at_builtin; refine Kd.R_append (Kd.int .u16) (w0 := w1) B rfl (.tmp 106) (.tmp 108) 41 31 (.int .u16 0) 2 rfl Tryz.underlying41 info_u16 rfl (by decide) (by omega) (.slice A p.length c) p 0 [.int .u16 0] (fun k => k ≠ b) (fun _ => False) rfl rfl ?aP (fun _ hk => hk.elim) ?aF ?aO ?aB ?aS ?aL ?_; (case aP => exact rfl); (case aF => exact fun k hk => by omega); (case aO => exact HR4.out); (case aB => exact HB4.out); (case aS => omega); (case aL => omega); intro v1 w5 ho hbw5 hgr _; (have hh5 := (hgr.block b hb4 HNO.out).trans HH4.out); (obtain ⟨A1, e1, rfl, _, _⟩ := Kd.R_reads ho); (obtain ⟨q0, z0⟩ := heap_cell (j := 0) hh5 rfl); (obtain ⟨q1, z1⟩ := heap_cell (j := 1) hh5 rfl); (obtain ⟨q3, z3⟩ := heap_cell (j := 3) hh5 rfl); (have HH5 := Aside0.mk hh5); (have HO5 := Aside0.mk ho); (have HB5 := Aside0.mk hbw5); clear hh5 ho hbw5 hgr)
      go_ret
      exact ⟨(((HB5.out.setCell hBb _).setCell hBb _).setCell hBb _), .inl ⟨HS2.out, rfl⟩⟩
    · rw [show pieceN wl = y by rw [pieceN, hpl]; rfl, show pieceOk wl = true by rw [pieceOk, hpl]; rfl]
      cases more
      · have HS2 := Lib.hid (show stepL rest.data.toList p gap = some (rl, p ++ [y], gap, true) by rw [HS.out, hpl]; rfl)
        clear hpl
        go_wp2_with ((with_reducible refine gate_builtin (b := .append) (xs := #[.tmp 106, .tmp 108]) rfl ?_); at_builtin; refine Kd.R_append (Kd.int .u16) (w0 := w1) B rfl (.tmp 106) (.tmp 108) 41 31 (.int .u16 0) 2 rfl Tryz.underlying41 info_u16 rfl (by decide) (by omega) (.slice A p.length c) p y [.int .u16 y] (fun k => k ≠ b) (fun _ => False) rfl rfl ?aP (fun _ hk => hk.elim) ?aF ?aO ?aB ?aS ?aL ?_; (case aP => exact rfl); (case aF => exact fun k hk => by omega); (case aO => exact HR4.out); (case aB => exact HB4.out); (case aS => omega); (case aL => omega); intro v1 w5 ho hbw5 hgr _; (have hh5 := (hgr.block b hb4 HNO.out).trans HH4.out); (obtain ⟨A1, e1, rfl, _, _⟩ := Kd.R_reads ho); (obtain ⟨q0, z0⟩ := heap_cell (j := 0) hh5 rfl); (obtain ⟨q1, z1⟩ := heap_cell (j := 1) hh5 rfl); (obtain ⟨q3, z3⟩ := heap_cell (j := 3) hh5 rfl); (have HH5 := Aside0.mk hh5); (have HO5 := Aside0.mk ho); (have HB5 := Aside0.mk hbw5); clear hh5 ho hbw5 hgr)
        go_ret
        exact ⟨(((HB5.out.setCell hBb _).setCell hBb _).setCell hBb _), .inr ⟨rst, p ++ [y], true, by rw [HS2.out, HRL.out], rfl, _, heap_set103 _ _ _ HH5.out, by have h6 := HO5.out; rw [show (p ++ [y]).length = p.length + 1 by simp] at h6; exact Kd.R_far (Kd.R_far (Kd.R_far h6 (fun _ h => h) _) (fun _ h => h) _) (fun _ h => h) _⟩⟩
      · by_cases hrl : rl = []
        · have HS2 := Lib.hid (show stepL rest.data.toList p gap = none by rw [HS.out, hpl]; simp [hrl])
          have er : rst.toList.isEmpty = true := by rw [toList_eq, HRL.out, hrl]; rfl
          clear hpl hrl
          go_wp2_with ((with_reducible refine gate_builtin (b := .append) (xs := #[.tmp 106, .tmp 108]) rfl ?_); at_builtin; refine Kd.R_append (Kd.int .u16) (w0 := w1) B rfl (.tmp 106) (.tmp 108) 41 31 (.int .u16 0) 2 rfl Tryz.underlying41 info_u16 rfl (by decide) (by omega) (.slice A p.length c) p y [.int .u16 y] (fun k => k ≠ b) (fun _ => False) rfl rfl ?aP (fun _ hk => hk.elim) ?aF ?aO ?aB ?aS ?aL ?_; (case aP => exact rfl); (case aF => exact fun k hk => by omega); (case aO => exact HR4.out); (case aB => exact HB4.out); (case aS => omega); (case aL => omega); intro v1 w5 ho hbw5 hgr _; (have hh5 := (hgr.block b hb4 HNO.out).trans HH4.out); (obtain ⟨A1, e1, rfl, _, _⟩ := Kd.R_reads ho); (obtain ⟨q0, z0⟩ := heap_cell (j := 0) hh5 rfl); (obtain ⟨q1, z1⟩ := heap_cell (j := 1) hh5 rfl); (obtain ⟨q3, z3⟩ := heap_cell (j := 3) hh5 rfl); (have HH5 := Aside0.mk hh5); (have HO5 := Aside0.mk ho); (have HB5 := Aside0.mk hbw5); clear hh5 ho hbw5 hgr)
          go_ret
          exact ⟨(((HB5.out.setCell hBb _).setCell hBb _).setCell hBb _), .inl ⟨HS2.out, rfl⟩⟩
        · have HS2 := Lib.hid (show stepL rest.data.toList p gap = some (rl, p ++ [y], gap, false) by rw [HS.out, hpl]; simp [hrl])
          have er : rst.toList.isEmpty = false := by rw [toList_eq, HRL.out]; simpa using hrl
          clear hpl hrl
          go_wp2_with ((with_reducible refine gate_builtin (b := .append) (xs := #[.tmp 106, .tmp 108]) rfl ?_); at_builtin; refine Kd.R_append (Kd.int .u16) (w0 := w1) B rfl (.tmp 106) (.tmp 108) 41 31 (.int .u16 0) 2 rfl Tryz.underlying41 info_u16 rfl (by decide) (by omega) (.slice A p.length c) p y [.int .u16 y] (fun k => k ≠ b) (fun _ => False) rfl rfl ?aP (fun _ hk => hk.elim) ?aF ?aO ?aB ?aS ?aL ?_; (case aP => exact rfl); (case aF => exact fun k hk => by omega); (case aO => exact HR4.out); (case aB => exact HB4.out); (case aS => omega); (case aL => omega); intro v1 w5 ho hbw5 hgr _; (have hh5 := (hgr.block b hb4 HNO.out).trans HH4.out); (obtain ⟨A1, e1, rfl, _, _⟩ := Kd.R_reads ho); (obtain ⟨q0, z0⟩ := heap_cell (j := 0) hh5 rfl); (obtain ⟨q1, z1⟩ := heap_cell (j := 1) hh5 rfl); (obtain ⟨q3, z3⟩ := heap_cell (j := 3) hh5 rfl); (have HH5 := Aside0.mk hh5); (have HO5 := Aside0.mk ho); (have HB5 := Aside0.mk hbw5); clear hh5 ho hbw5 hgr)
          go_ret
          exact ⟨(((HB5.out.setCell hBb _).setCell hBb _).setCell hBb _), .inr ⟨rst, p ++ [y], false, by rw [HS2.out, HRL.out], rfl, _, heap_set103 _ _ _ HH5.out, by have h6 := HO5.out; rw [show (p ++ [y]).length = p.length + 1 by simp] at h6; exact Kd.R_far (Kd.R_far (Kd.R_far h6 (fun _ h => h) _) (fun _ h => h) _) (fun _ h => h) _⟩⟩
  · rw [s2, s3]
    cases more
    · have HS2 := Lib.hid (HST.out.trans (show stepW (wl, rl, false) p gap = some ([], p ++ [(n4 : Int) / 65536, (n4 : Int) % 65536], gap, true) by rw [stepW, if_pos ⟨s2, rfl⟩, s3]))
      clear s1 s2 s3
      go_wp2_with fail
      refine (Bytes_calls n4 (by omega) (by omega) _).mono ?_
      rintro e w4 ⟨rfl, b4⟩
      have hb4 : b < w4.heap.size := Nat.lt_of_lt_of_le hb3 b4.size
      have hh4 := (b4.block b hb3).trans HH3.out
      have HR4 := Aside0.mk (Kd.R_below HR3.out b4)
      have HB4 := Aside0.mk (below_then HB3'.out (by omega) b4)
      clear k0 g0 k1 g1 k2 g2 k3 g3
      have HH4 := Aside0.mk hh4
      clear hh4 b4
      go_wp2_with fail
      -- region 11
      obtain ⟨g, hg⟩ : ∃ g, g = w4.heap.size := ⟨_, rfl⟩
      have hal : ∀ k, k < w4.heap.size → (w4.alloc (.cells #[.int .u8 ((n4 : Int) / 16777216), .int .u8 ((n4 : Int) / 65536 % 256), .int .u8 ((n4 : Int) / 256 % 256), .int .u8 ((n4 : Int) % 256)] 132)).heap[k]? = w4.heap[k]? := fun k hk => heap_alloc_old' _ _ _ hk
      have hnw := heap_alloc_new' w4 (.cells #[.int .u8 ((n4 : Int) / 16777216), .int .u8 ((n4 : Int) / 65536 % 256), .int .u8 ((n4 : Int) / 256 % 256), .int .u8 ((n4 : Int) % 256)] 132) g hg
      have hBA : Below w4.heap.size w4 (w4.alloc (.cells #[.int .u8 ((n4 : Int) / 16777216), .int .u8 ((n4 : Int) / 65536 % 256), .int .u8 ((n4 : Int) / 256 % 256), .int .u8 ((n4 : Int) % 256)] 132)) := (Below.refl _ _).alloc (Nat.le_refl _) _
      have hsA : (w4.alloc (.cells #[.int .u8 ((n4 : Int) / 16777216), .int .u8 ((n4 : Int) / 65536 % 256), .int .u8 ((n4 : Int) / 256 % 256), .int .u8 ((n4 : Int) % 256)] 132)).heap.size = g + 1 := by rw [hg]; simp
      have hgb : b < g := by omega
      rw [← hg]
      generalize w4.alloc (.cells #[.int .u8 ((n4 : Int) / 16777216), .int .u8 ((n4 : Int) / 65536 % 256), .int .u8 ((n4 : Int) / 256 % 256), .int .u8 ((n4 : Int) % 256)] 132) = w5 at hal hnw hBA hsA ⊢
      have hh5 := (hal b hb4).trans HH4.out
      have hR5 := Kd.R_below HR4.out hBA
      have hB5 := below_then HB4.out (by omega) hBA
      have hgo : some g ≠ (Value.slice A p.length c).ownBlock := fun e => by
        have h1 := Kd.R_bound HR4.out
        have h2 := (h1.1 g e.symm).2.2.1
        omega
      have hbo : some b ≠ (Value.slice A p.length c).ownBlock := fun e => HR4.out.1 b e.symm rfl
      clear hal hBA hg
      have hor1 := or_u16 8 ((n4 : Int) / 16777216) ((n4 : Int) / 65536 % 256) (by omega) (by omega) (by simp only [Int.reducePow]; omega) (by simp only [Int.reducePow]; omega) (by omega)
      have hor2 := or_u16 8 ((n4 : Int) / 256 % 256) ((n4 : Int) % 256) (by omega) (by omega) (by simp only [Int.reducePow]; omega) (by simp only [Int.reducePow]; omega) (by omega)
      simp only [Int.reducePow] at hor1 hor2
      have hv1 : (n4 : Int) / 16777216 * 256 + (n4 : Int) / 65536 % 256 = (n4 : Int) / 65536 := by omega
      have hv2 : (n4 : Int) / 256 % 256 * 256 + (n4 : Int) % 256 = (n4 : Int) % 65536 := by omega
      rw [hv1] at hor1
      rw [hv2] at hor2
      clear hv1 hv2
      have hq0 : IntKind.u16.wrap ((n4 : Int) / 16777216) = (n4 : Int) / 16777216 := wrap_u16_of _ (by omega) (by omega)
      have hq1 : IntKind.u16.wrap ((n4 : Int) / 65536 % 256) = (n4 : Int) / 65536 % 256 := wrap_u16_of _ (by omega) (by omega)
      have hq2 : IntKind.u16.wrap ((n4 : Int) / 256 % 256) = (n4 : Int) / 256 % 256 := wrap_u16_of _ (by omega) (by omega)
      have hq3 : IntKind.u16.wrap ((n4 : Int) % 256) = (n4 : Int) % 256 := wrap_u16_of _ (by omega) (by omega)
      have hq4 : IntKind.u16.wrap ((n4 : Int) / 16777216 * 256) = (n4 : Int) / 16777216 * 256 := wrap_u16_of _ (by omega) (by omega)
      have hq5 : IntKind.u16.wrap ((n4 : Int) / 256 % 256 * 256) = (n4 : Int) / 256 % 256 * 256 := wrap_u16_of _ (by omega) (by omega)
      refine wp_region_noPanic ?_
      have hSh : ∀ W : World, Below B w1 W → W.heap[g]? = some (.cells #[.int .u8 ((n4 : Int) / 16777216), .int .u8 ((n4 : Int) / 65536 % 256), .int .u8 ((n4 : Int) / 256 % 256), .int .u8 ((n4 : Int) % 256)] 132 (0, 0)) → (fun W => Below B w1 W ∧ W.cell? ⟨g, 0, none⟩ = some (.int .u8 ((n4 : Int) / 16777216)) ∧ W.cell? ⟨g, 1, none⟩ = some (.int .u8 ((n4 : Int) / 65536 % 256)) ∧ W.cell? ⟨g, 2, none⟩ = some (.int .u8 ((n4 : Int) / 256 % 256)) ∧ W.cell? ⟨g, 3, none⟩ = some (.int .u8 ((n4 : Int) % 256))) W := fun W h1 h2 => ⟨h1, (heap_cell (j := 0) h2 rfl).1, (heap_cell (j := 1) h2 rfl).1, (heap_cell (j := 2) h2 rfl).1, (heap_cell (j := 3) h2 rfl).1⟩
      have HSh := Aside0.mk hSh
      clear hSh
      refine wp_region_held_drew (S := (fun W => Below B w1 W ∧ W.cell? ⟨g, 0, none⟩ = some (.int .u8 ((n4 : Int) / 16777216)) ∧ W.cell? ⟨g, 1, none⟩ = some (.int .u8 ((n4 : Int) / 65536 % 256)) ∧ W.cell? ⟨g, 2, none⟩ = some (.int .u8 ((n4 : Int) / 256 % 256)) ∧ W.cell? ⟨g, 3, none⟩ = some (.int .u8 ((n4 : Int) % 256)))) (by kernel_rfl) (HSh.out w5.drew hB5.drew hnw) (fun _ => ?_)
      have hh6 : w5.drew.heap[b]? = some (.cells #[.string rest, .slice A p.length c, .int .i64 gap, .bool ended] 96 (0, 0)) := hh5
      have hn6 : w5.drew.heap[g]? = some (.cells #[.int .u8 ((n4 : Int) / 16777216), .int .u8 ((n4 : Int) / 65536 % 256), .int .u8 ((n4 : Int) / 256 % 256), .int .u8 ((n4 : Int) % 256)] 132 (0, 0)) := hnw
      have hR6 := Kd.R_drew hR5
      have hB6 := hB5.drew
      have hs6 : g < w5.drew.heap.size := by show g < w5.heap.size; omega
      clear hh5 hnw hR5 hB5 hsA
      generalize w5.drew = W0 at *
      have HS0 := HSh.out W0 hB6 hn6
      obtain ⟨m1, _⟩ := heap_cell (j := 1) hh6 rfl
      have HH6 := Aside0.mk hh6
      have HN6 := Aside0.mk hn6
      have HR6 := Aside0.mk hR6
      have HB6 := Aside0.mk hB6
      clear hh6 hn6 hR6 hB6
      refine wpAnyH_take (i := 0) (v := ?_) (by simp only [List.getElem?_toArray, List.getElem?_cons_zero]; rfl) (by kernel_rfl) (by kernel_rfl) (by kernel_rfl) (fun _ _ _ h => h) (Or.inl ⟨by rfl, ?_⟩) HS0 ?_
      rotate_left
      · intro W hW
        clear hW
        go_simp
        all_goals with_reducible rfl
      try simp only [Act.put, List.setIfInBounds_toArray, List.set_cons_zero, List.set_cons_succ]
      refine wpAnyH_take (i := 1) (v := ?_) (by simp only [List.getElem?_toArray, List.getElem?_cons_zero, List.getElem?_cons_succ]; rfl) (by kernel_rfl) (by kernel_rfl) (by kernel_rfl) (fun _ _ _ h => h) (Or.inl ⟨by rfl, ?_⟩) HS0 ?_
      rotate_left
      · intro W hW
        clear hW
        go_simp
        all_goals with_reducible rfl
      try simp only [Act.put, List.setIfInBounds_toArray, List.set_cons_zero, List.set_cons_succ]
      refine wpAnyH_take (i := 2) (v := ?_) (by simp only [List.getElem?_toArray, List.getElem?_cons_zero, List.getElem?_cons_succ]; rfl) (by kernel_rfl) (by kernel_rfl) (by kernel_rfl) (fun _ _ _ h => h) (Or.inl ⟨by rfl, ?_⟩) HS0 ?_
      rotate_left
      · intro W hW
        clear hW
        go_simp
        all_goals with_reducible rfl
      try simp only [Act.put, List.setIfInBounds_toArray, List.set_cons_zero, List.set_cons_succ]
      refine wpAnyH_take (i := 3) (v := ?_) (by simp only [List.getElem?_toArray, List.getElem?_cons_zero, List.getElem?_cons_succ]; rfl) (by kernel_rfl) (by kernel_rfl) (by kernel_rfl) (fun _ _ _ h => h) (Or.inl ⟨by rfl, ?_⟩) HS0 ?_
      rotate_left
      · intro W hW
        clear hW
        go_simp
        all_goals with_reducible rfl
      try simp only [Act.put, List.setIfInBounds_toArray, List.set_cons_zero, List.set_cons_succ]
      refine wpAnyH_take (i := 5) (v := ?_) (by simp only [List.getElem?_toArray, List.getElem?_cons_zero, List.getElem?_cons_succ]; rfl) (by kernel_rfl) (by kernel_rfl) (by kernel_rfl) (fun _ _ _ h => h) (Or.inl ⟨by rfl, ?_⟩) HS0 ?_
      rotate_left
      · intro W hW
        clear hW
        go_simp
        all_goals with_reducible rfl
      try simp only [Act.put, List.setIfInBounds_toArray, List.set_cons_zero, List.set_cons_succ]
      refine wpAnyH_take (i := 6) (v := ?_) (by simp only [List.getElem?_toArray, List.getElem?_cons_zero, List.getElem?_cons_succ]; rfl) (by kernel_rfl) (by kernel_rfl) (by kernel_rfl) (fun _ _ _ h => h) (Or.inl ⟨by rfl, ?_⟩) HS0 ?_
      rotate_left
      · intro W hW
        obtain ⟨_, l0, l1, l2, l3⟩ := hW
        go_simp
        all_goals with_reducible rfl
      try simp only [Act.put, List.setIfInBounds_toArray, List.set_cons_zero, List.set_cons_succ]
      refine wpAnyH_take (i := 7) (v := ?_) (by simp only [List.getElem?_toArray, List.getElem?_cons_zero, List.getElem?_cons_succ]; rfl) (by kernel_rfl) (by kernel_rfl) (by kernel_rfl) (fun _ _ _ h => h) (Or.inl ⟨by rfl, ?_⟩) HS0 ?_
      rotate_left
      · intro W hW
        clear hW
        go_simp
        all_goals with_reducible rfl
      try simp only [Act.put, List.setIfInBounds_toArray, List.set_cons_zero, List.set_cons_succ]
      refine wpAnyH_take (i := 8) (v := ?_) (by simp only [List.getElem?_toArray, List.getElem?_cons_zero, List.getElem?_cons_succ]; rfl) (by kernel_rfl) (by kernel_rfl) (by kernel_rfl) (fun _ _ _ h => h) (Or.inl ⟨by rfl, ?_⟩) HS0 ?_
      rotate_left
      · intro W hW
        clear hW
        go_simp
        all_goals with_reducible rfl
      try simp only [Act.put, List.setIfInBounds_toArray, List.set_cons_zero, List.set_cons_succ]
      refine wpAnyH_take (i := 9) (v := ?_) (by simp only [List.getElem?_toArray, List.getElem?_cons_zero, List.getElem?_cons_succ]; rfl) (by kernel_rfl) (by kernel_rfl) (by kernel_rfl) (fun _ _ _ h => h) (Or.inl ⟨by rfl, ?_⟩) HS0 ?_
      rotate_left
      · intro W hW
        clear hW
        go_simp
        all_goals with_reducible rfl
      try simp only [Act.put, List.setIfInBounds_toArray, List.set_cons_zero, List.set_cons_succ]
      refine wpAnyH_take (i := 10) (v := ?_) (by simp only [List.getElem?_toArray, List.getElem?_cons_zero, List.getElem?_cons_succ]; rfl) (by kernel_rfl) (by kernel_rfl) (by kernel_rfl) (fun _ _ _ h => h) (Or.inl ⟨by rfl, ?_⟩) HS0 ?_
      rotate_left
      · intro W hW
        obtain ⟨_, l0, l1, l2, l3⟩ := hW
        go_simp
        all_goals with_reducible rfl
      try simp only [Act.put, List.setIfInBounds_toArray, List.set_cons_zero, List.set_cons_succ]
      refine wpAnyH_take (i := 11) (v := ?_) (by simp only [List.getElem?_toArray, List.getElem?_cons_zero, List.getElem?_cons_succ]; rfl) (by kernel_rfl) (by kernel_rfl) (by kernel_rfl) (fun _ _ _ h => h) (Or.inl ⟨by rfl, ?_⟩) HS0 ?_
      rotate_left
      · intro W hW
        clear hW
        go_simp
        all_goals with_reducible rfl
      try simp only [Act.put, List.setIfInBounds_toArray, List.set_cons_zero, List.set_cons_succ]
      refine wpAnyH_take (i := 12) (v := ?_) (by simp only [List.getElem?_toArray, List.getElem?_cons_zero, List.getElem?_cons_succ]; rfl) (by kernel_rfl) (by kernel_rfl) (by kernel_rfl) (fun _ _ _ h => h) (Or.inl ⟨by rfl, ?_⟩) HS0 ?_
      rotate_left
      · intro W hW
        clear hW
        go_simp
        all_goals with_reducible rfl
      try simp only [Act.put, List.setIfInBounds_toArray, List.set_cons_zero, List.set_cons_succ]
      refine wpAnyH_take (i := 13) (v := ?_) (by simp only [List.getElem?_toArray, List.getElem?_cons_zero, List.getElem?_cons_succ]; rfl) (by kernel_rfl) (by kernel_rfl) (by kernel_rfl) (fun _ _ _ h => h) (Or.inl ⟨by rfl, ?_⟩) HS0 ?_
      rotate_left
      · intro W hW
        clear hW
        go_simp
        all_goals with_reducible rfl
      try simp only [Act.put, List.setIfInBounds_toArray, List.set_cons_zero, List.set_cons_succ]
      refine wpAnyH_take (i := 14) (v := ?_) (by simp only [List.getElem?_toArray, List.getElem?_cons_zero, List.getElem?_cons_succ]; rfl) (by kernel_rfl) (by kernel_rfl) (by kernel_rfl) (fun _ _ _ h => h) (Or.inl ⟨by rfl, ?_⟩) HS0 ?_
      rotate_left
      · intro W hW
        obtain ⟨_, l0, l1, l2, l3⟩ := hW
        go_simp
        all_goals with_reducible rfl
      try simp only [Act.put, List.setIfInBounds_toArray, List.set_cons_zero, List.set_cons_succ]
      refine wpAnyH_take (i := 15) (v := ?_) (by simp only [List.getElem?_toArray, List.getElem?_cons_zero, List.getElem?_cons_succ]; rfl) (by kernel_rfl) (by kernel_rfl) (by kernel_rfl) (fun _ _ _ h => h) (Or.inl ⟨by rfl, ?_⟩) HS0 ?_
      rotate_left
      · intro W hW
        clear hW
        go_simp
        all_goals with_reducible rfl
      try simp only [Act.put, List.setIfInBounds_toArray, List.set_cons_zero, List.set_cons_succ]
      refine wpAnyH_take (i := 16) (v := ?_) (by simp only [List.getElem?_toArray, List.getElem?_cons_zero, List.getElem?_cons_succ]; rfl) (by kernel_rfl) (by kernel_rfl) (by kernel_rfl) (fun _ _ _ h => h) (Or.inl ⟨by rfl, ?_⟩) HS0 ?_
      rotate_left
      · intro W hW
        clear hW
        go_simp
        all_goals with_reducible rfl
      try simp only [Act.put, List.setIfInBounds_toArray, List.set_cons_zero, List.set_cons_succ]
      refine wpAnyH_take (i := 17) (v := ?_) (by simp only [List.getElem?_toArray, List.getElem?_cons_zero, List.getElem?_cons_succ]; rfl) (by kernel_rfl) (by kernel_rfl) (by kernel_rfl) (fun _ _ _ h => h) (Or.inl ⟨by rfl, ?_⟩) HS0 ?_
      rotate_left
      · intro W hW
        clear hW
        go_simp
        all_goals with_reducible rfl
      try simp only [Act.put, List.setIfInBounds_toArray, List.set_cons_zero, List.set_cons_succ]
      refine wpAnyH_take (i := 18) (v := ?_) (by simp only [List.getElem?_toArray, List.getElem?_cons_zero, List.getElem?_cons_succ]; rfl) (by kernel_rfl) (by kernel_rfl) (by kernel_rfl) (fun _ _ _ h => h) (Or.inl ⟨by rfl, ?_⟩) HS0 ?_
      rotate_left
      · intro W hW
        obtain ⟨_, l0, l1, l2, l3⟩ := hW
        go_simp
        all_goals with_reducible rfl
      try simp only [Act.put, List.setIfInBounds_toArray, List.set_cons_zero, List.set_cons_succ]
      refine wpAnyH_take (i := 19) (v := ?_) (by simp only [List.getElem?_toArray, List.getElem?_cons_zero, List.getElem?_cons_succ]; rfl) (by kernel_rfl) (by kernel_rfl) (by kernel_rfl) (fun _ _ _ h => h) (Or.inl ⟨by rfl, ?_⟩) HS0 ?_
      rotate_left
      · intro W hW
        clear hW
        go_simp
        all_goals with_reducible rfl
      try simp only [Act.put, List.setIfInBounds_toArray, List.set_cons_zero, List.set_cons_succ]
      refine wpAnyH_take (i := 20) (v := ?_) (by simp only [List.getElem?_toArray, List.getElem?_cons_zero, List.getElem?_cons_succ]; rfl) (by kernel_rfl) (by kernel_rfl) (by kernel_rfl) (fun _ _ _ h => h) (Or.inl ⟨by rfl, ?_⟩) HS0 ?_
      rotate_left
      · intro W hW
        clear hW
        go_simp
        all_goals with_reducible rfl
      try simp only [Act.put, List.setIfInBounds_toArray, List.set_cons_zero, List.set_cons_succ]
      refine wpAnyH_ready (rs := [4, 21]) (by kernel_rfl) (by simp) ?_
      refine AllReadyH.cons (by simp only [List.getElem?_toArray, List.getElem?_cons_zero, List.getElem?_cons_succ]; rfl) (fun K hK => ?_) ?_
      · go_simp
        refine hK.out _ _ HS0 (fun _ => ?_)
        clear hK K
        try simp only [Act.put, List.setIfInBounds_toArray, List.set_cons_zero, List.set_cons_succ]
        refine wpAnyH_ready (rs := [21]) (by kernel_rfl) (by simp) ?_
        obtain ⟨W1, hW1⟩ : ∃ W', W' = W0.alloc (.cells #[.int .u16 ((n4 : Int) / 65536), .int .u16 ((n4 : Int) % 65536)] 31) := ⟨_, rfl⟩
        have hB7 : Below B w1 W1 := by rw [hW1]; exact HB6.out.alloc (by omega) _
        have hh7 : W1.heap[b]? = some (.cells #[.string rest, .slice A p.length c, .int .i64 gap, .bool ended] 96 (0, 0)) := by rw [hW1, heap_alloc_old' _ _ _ (by omega)]; exact HH6.out
        have hn7 : W1.heap[g]? = some (.cells #[.int .u8 ((n4 : Int) / 16777216), .int .u8 ((n4 : Int) / 65536 % 256), .int .u8 ((n4 : Int) / 256 % 256), .int .u8 ((n4 : Int) % 256)] 132 (0, 0)) := by rw [hW1, heap_alloc_old' _ _ _ (by omega)]; exact HN6.out
        have hR7 : Kd.R (Kd.int .u16) 31 W1 B (fun k => k ≠ b) (.slice A p.length c) p := by rw [hW1]; exact Kd.R_below HR6.out ((Below.refl _ _).alloc (Nat.le_refl _) _)
        have hC7 : Kd.C (Kd.int .u16) W1 (some ⟨W0.heap.size, 0, none⟩) 2 [(n4 : Int) / 65536, (n4 : Int) % 65536] := by rw [hW1]; exact C_new .u16 W0 [(n4 : Int) / 65536, (n4 : Int) % 65536] _ (by simp)
        have hs7 : g < W1.heap.size := by rw [hW1]; simp; omega
        have HS7 := HSh.out W1 hB7 hn7
        obtain ⟨n1, _⟩ := heap_cell (j := 1) hh7 rfl
        have HH7 := Aside0.mk hh7
        have HN7 := Aside0.mk hn7
        have HR7 := Aside0.mk hR7
        have HB7 := Aside0.mk hB7
        have HC7 := Aside0.mk hC7
        clear hh7 hn7 hR7 hB7 hC7
        have HW1 := Lib.hid hW1
        clear hW1
        refine AllReadyH.cons (by simp only [List.getElem?_toArray, List.getElem?_cons_zero, List.getElem?_cons_succ]; rfl) (fun K hK => ?_) ?_
        · go_simp
          rw [← HW1.out]
          refine hK.out _ _ HS7 (fun _ => ?_)
          clear hK K HW1
          try simp only [Act.put, List.setIfInBounds_toArray, List.set_cons_zero, List.set_cons_succ]
          refine wpAnyH_ready (rs := [22]) (by kernel_rfl) (by simp) ?_
          refine AllReadyH.cons (by simp only [List.getElem?_toArray, List.getElem?_cons_zero, List.getElem?_cons_succ]; rfl) (fun K hK => ?_) AllReadyH.nil
          refine Kd.R_append_rows_step (Kd.int .u16) (Rr := (Kd.int .u16).K W1) (w0 := w1) B rfl (.tmp 70) (.tmp 87) 41 31 (.int .u16 0) 2 rfl Tryz.underlying41 info_u16 rfl (by decide) (by omega) (.slice A p.length c) p [(n4 : Int) / 65536, (n4 : Int) % 65536] (some ⟨W0.heap.size, 0, none⟩) 2 2 (fun k => k ≠ b) (fun _ => False) rfl rfl HR7.out HC7.out (fun _ _ h => h) (fun _ h => h.elim) (fun k hk => by omega) HB7.out (by omega) (by omega) ?_
          intro v1 w6 ho hb6 hgr _
          have hh8 := (hgr.block b (by omega) hbo).trans HH7.out
          have hn8 := (hgr.block g (by omega) hgo).trans HN7.out
          obtain ⟨A1, e1, rfl, _, _⟩ := Kd.R_reads ho
          have HS8 := HSh.out w6 hb6 hn8
          obtain ⟨q1, z1⟩ := heap_cell (j := 1) hh8 rfl
          have HH8 := Aside0.mk hh8
          have HN8 := Aside0.mk hn8
          have HO8 := Aside0.mk ho
          have HB8 := Aside0.mk hb6
          clear hh8 hn8 ho hb6 hgr
          refine hK.out _ _ HS8 (fun _ => ?_)
          clear hK K
          try simp only [Act.put, List.setIfInBounds_toArray, List.set_cons_zero, List.set_cons_succ]
          refine wpAnyH_take (i := 23) (v := ?_) (by simp only [List.getElem?_toArray, List.getElem?_cons_zero, List.getElem?_cons_succ]; rfl) (by kernel_rfl) (by kernel_rfl) (by kernel_rfl) (fun _ _ _ h => h) (Or.inl ⟨by rfl, ?_⟩) HS8 ?_
          rotate_left
          · intro W hW
            clear hW
            go_simp
            all_goals with_reducible rfl
          try simp only [Act.put, List.setIfInBounds_toArray, List.set_cons_zero, List.set_cons_succ]
          refine wpAnyH_take (i := 24) (v := ?_) (by simp only [List.getElem?_toArray, List.getElem?_cons_zero, List.getElem?_cons_succ]; rfl) (by kernel_rfl) (by kernel_rfl) (by kernel_rfl) (fun _ _ _ h => h) (Or.inl ⟨by rfl, ?_⟩) HS8 ?_
          rotate_left
          · intro W hW
            clear hW
            go_simp
            all_goals with_reducible rfl
          try simp only [Act.put, List.setIfInBounds_toArray, List.set_cons_zero, List.set_cons_succ]
          refine wpAnyH_ready (rs := [25]) (by kernel_rfl) (by simp) ?_
          refine AllReadyH.cons (by simp only [List.getElem?_toArray, List.getElem?_cons_zero, List.getElem?_cons_succ]; rfl) (fun K hK => ?_) ?_
          · go_simp
            refine hK.out _ _ (HSh.out _ (HB8.out.setCell hBb _) ((heap_set_other _ (by omega)).trans HN8.out)) (fun _ => ?_)
            clear hK K
            try simp only [Act.put, List.setIfInBounds_toArray, List.set_cons_zero, List.set_cons_succ]
            refine wpAnyH_done (by kernel_rfl) ?_ _
            refine NoPanic.normal ?_
            obtain ⟨q3, z3⟩ := heap_cell (j := 3) HH8.out rfl
            obtain ⟨q0, z0⟩ := heap_cell (j := 0) HH8.out rfl
            go_wp2_with fail
            go_ret
            have h6 := HO8.out
            rw [show (p ++ [(n4 : Int) / 65536, (n4 : Int) % 65536]).length = p.length + 2 by simp] at h6
            exact ⟨(((HB8.out.setCell hBb _).setCell hBb _).setCell hBb _), .inr ⟨⟨#[]⟩, p ++ [(n4 : Int) / 65536, (n4 : Int) % 65536], .inr ⟨by rw [HS2.out], rfl, _, heap_set103 _ _ _ HH8.out, Kd.R_far (Kd.R_far (Kd.R_far h6 (fun _ h => h) _) (fun _ h => h) _) (fun _ h => h) _⟩⟩⟩
          exact AllReadyH.nil
        exact AllReadyH.nil
      obtain ⟨W1, hW1⟩ : ∃ W', W' = W0.alloc (.cells #[.int .u16 ((n4 : Int) / 65536), .int .u16 ((n4 : Int) % 65536)] 31) := ⟨_, rfl⟩
      have hB7 : Below B w1 W1 := by rw [hW1]; exact HB6.out.alloc (by omega) _
      have hh7 : W1.heap[b]? = some (.cells #[.string rest, .slice A p.length c, .int .i64 gap, .bool ended] 96 (0, 0)) := by rw [hW1, heap_alloc_old' _ _ _ (by omega)]; exact HH6.out
      have hn7 : W1.heap[g]? = some (.cells #[.int .u8 ((n4 : Int) / 16777216), .int .u8 ((n4 : Int) / 65536 % 256), .int .u8 ((n4 : Int) / 256 % 256), .int .u8 ((n4 : Int) % 256)] 132 (0, 0)) := by rw [hW1, heap_alloc_old' _ _ _ (by omega)]; exact HN6.out
      have hR7 : Kd.R (Kd.int .u16) 31 W1 B (fun k => k ≠ b) (.slice A p.length c) p := by rw [hW1]; exact Kd.R_below HR6.out ((Below.refl _ _).alloc (Nat.le_refl _) _)
      have hC7 : Kd.C (Kd.int .u16) W1 (some ⟨W0.heap.size, 0, none⟩) 2 [(n4 : Int) / 65536, (n4 : Int) % 65536] := by rw [hW1]; exact C_new .u16 W0 [(n4 : Int) / 65536, (n4 : Int) % 65536] _ (by simp)
      have hs7 : g < W1.heap.size := by rw [hW1]; simp; omega
      have HS7 := HSh.out W1 hB7 hn7
      obtain ⟨n1, _⟩ := heap_cell (j := 1) hh7 rfl
      have HH7 := Aside0.mk hh7
      have HN7 := Aside0.mk hn7
      have HR7 := Aside0.mk hR7
      have HB7 := Aside0.mk hB7
      have HC7 := Aside0.mk hC7
      clear hh7 hn7 hR7 hB7 hC7
      have HW1 := Lib.hid hW1
      clear hW1
      refine AllReadyH.cons (by simp only [List.getElem?_toArray, List.getElem?_cons_zero, List.getElem?_cons_succ]; rfl) (fun K hK => ?_) ?_
      · go_simp
        rw [← HW1.out]
        refine hK.out _ _ HS7 (fun _ => ?_)
        clear hK K HW1
        try simp only [Act.put, List.setIfInBounds_toArray, List.set_cons_zero, List.set_cons_succ]
        refine wpAnyH_ready (rs := [4]) (by kernel_rfl) (by simp) ?_
        refine AllReadyH.cons (by simp only [List.getElem?_toArray, List.getElem?_cons_zero, List.getElem?_cons_succ]; rfl) (fun K hK => ?_) ?_
        · go_simp
          refine hK.out _ _ HS7 (fun _ => ?_)
          clear hK K
          try simp only [Act.put, List.setIfInBounds_toArray, List.set_cons_zero, List.set_cons_succ]
          refine wpAnyH_ready (rs := [22]) (by kernel_rfl) (by simp) ?_
          refine AllReadyH.cons (by simp only [List.getElem?_toArray, List.getElem?_cons_zero, List.getElem?_cons_succ]; rfl) (fun K hK => ?_) AllReadyH.nil
          refine Kd.R_append_rows_step (Kd.int .u16) (Rr := (Kd.int .u16).K W1) (w0 := w1) B rfl (.tmp 70) (.tmp 87) 41 31 (.int .u16 0) 2 rfl Tryz.underlying41 info_u16 rfl (by decide) (by omega) (.slice A p.length c) p [(n4 : Int) / 65536, (n4 : Int) % 65536] (some ⟨W0.heap.size, 0, none⟩) 2 2 (fun k => k ≠ b) (fun _ => False) rfl rfl HR7.out HC7.out (fun _ _ h => h) (fun _ h => h.elim) (fun k hk => by omega) HB7.out (by omega) (by omega) ?_
          intro v1 w6 ho hb6 hgr _
          have hh8 := (hgr.block b (by omega) hbo).trans HH7.out
          have hn8 := (hgr.block g (by omega) hgo).trans HN7.out
          obtain ⟨A1, e1, rfl, _, _⟩ := Kd.R_reads ho
          have HS8 := HSh.out w6 hb6 hn8
          obtain ⟨q1, z1⟩ := heap_cell (j := 1) hh8 rfl
          have HH8 := Aside0.mk hh8
          have HN8 := Aside0.mk hn8
          have HO8 := Aside0.mk ho
          have HB8 := Aside0.mk hb6
          clear hh8 hn8 ho hb6 hgr
          refine hK.out _ _ HS8 (fun _ => ?_)
          clear hK K
          try simp only [Act.put, List.setIfInBounds_toArray, List.set_cons_zero, List.set_cons_succ]
          refine wpAnyH_take (i := 23) (v := ?_) (by simp only [List.getElem?_toArray, List.getElem?_cons_zero, List.getElem?_cons_succ]; rfl) (by kernel_rfl) (by kernel_rfl) (by kernel_rfl) (fun _ _ _ h => h) (Or.inl ⟨by rfl, ?_⟩) HS8 ?_
          rotate_left
          · intro W hW
            clear hW
            go_simp
            all_goals with_reducible rfl
          try simp only [Act.put, List.setIfInBounds_toArray, List.set_cons_zero, List.set_cons_succ]
          refine wpAnyH_take (i := 24) (v := ?_) (by simp only [List.getElem?_toArray, List.getElem?_cons_zero, List.getElem?_cons_succ]; rfl) (by kernel_rfl) (by kernel_rfl) (by kernel_rfl) (fun _ _ _ h => h) (Or.inl ⟨by rfl, ?_⟩) HS8 ?_
          rotate_left
          · intro W hW
            clear hW
            go_simp
            all_goals with_reducible rfl
          try simp only [Act.put, List.setIfInBounds_toArray, List.set_cons_zero, List.set_cons_succ]
          refine wpAnyH_ready (rs := [25]) (by kernel_rfl) (by simp) ?_
          refine AllReadyH.cons (by simp only [List.getElem?_toArray, List.getElem?_cons_zero, List.getElem?_cons_succ]; rfl) (fun K hK => ?_) ?_
          · go_simp
            refine hK.out _ _ (HSh.out _ (HB8.out.setCell hBb _) ((heap_set_other _ (by omega)).trans HN8.out)) (fun _ => ?_)
            clear hK K
            try simp only [Act.put, List.setIfInBounds_toArray, List.set_cons_zero, List.set_cons_succ]
            refine wpAnyH_done (by kernel_rfl) ?_ _
            refine NoPanic.normal ?_
            obtain ⟨q3, z3⟩ := heap_cell (j := 3) HH8.out rfl
            obtain ⟨q0, z0⟩ := heap_cell (j := 0) HH8.out rfl
            go_wp2_with fail
            go_ret
            have h6 := HO8.out
            rw [show (p ++ [(n4 : Int) / 65536, (n4 : Int) % 65536]).length = p.length + 2 by simp] at h6
            exact ⟨(((HB8.out.setCell hBb _).setCell hBb _).setCell hBb _), .inr ⟨⟨#[]⟩, p ++ [(n4 : Int) / 65536, (n4 : Int) % 65536], .inr ⟨by rw [HS2.out], rfl, _, heap_set103 _ _ _ HH8.out, Kd.R_far (Kd.R_far (Kd.R_far h6 (fun _ h => h) _) (fun _ h => h) _) (fun _ h => h) _⟩⟩⟩
          exact AllReadyH.nil
        exact AllReadyH.nil
      exact AllReadyH.nil
      -- region 11, end
    · have HS := Lib.hid (HST.out.trans (show stepW (wl, rl, true) p gap = match pieceL wl with
        | none => none
        | some x => if true = true ∧ rl = [] then none else some (rl, p ++ [x], gap, !true) by rw [stepW, if_neg (by simp)] <;> rfl))
      clear s1 s2 s3
      go_wp2_with fail
      refine (Piece_calls word _ (by omega)).mono ?_
      rintro e w4 ⟨rfl, b4⟩
      rw [HW.out]
      have hb4 : b < w4.heap.size := Nat.lt_of_lt_of_le hb3 b4.size
      have hB4 : B ≤ w4.heap.size := by omega
      have hh4 := (b4.block b hb3).trans HH3.out
      have HR4 := Aside0.mk (Kd.R_below HR3.out b4)
      have HB4 := Aside0.mk (below_then HB3'.out (by omega) b4)
      clear k0 g0 k1 g1 k2 g2 k3 g3
      obtain ⟨k1, g1⟩ := heap_cell (j := 1) hh4 rfl
      have HH4 := Aside0.mk hh4
      clear hh4 b4
      have hno : some b ≠ (Value.slice A p.length c).ownBlock := fun e => HR4.out.1 b e.symm rfl
      have HNO := Lib.hid hno
      clear hno
      rcases hpl : pieceL wl with _ | y
      · have HS2 := Lib.hid (show stepL rest.data.toList p gap = none by rw [HS.out, hpl])
        rw [show pieceN wl = 0 by rw [pieceN, hpl]; rfl, show pieceOk wl = false by rw [pieceOk, hpl]; rfl]
        clear hpl
        go_wp2_with ((with_reducible refine gate_builtin (b := .append) (xs := #[.tmp 106, .tmp 108]) rfl ?_); at_builtin; refine Kd.R_append (Kd.int .u16) (w0 := w1) B rfl (.tmp 106) (.tmp 108) 41 31 (.int .u16 0) 2 rfl Tryz.underlying41 info_u16 rfl (by decide) (by omega) (.slice A p.length c) p 0 [.int .u16 0] (fun k => k ≠ b) (fun _ => False) rfl rfl ?aP (fun _ hk => hk.elim) ?aF ?aO ?aB ?aS ?aL ?_; (case aP => exact rfl); (case aF => exact fun k hk => by omega); (case aO => exact HR4.out); (case aB => exact HB4.out); (case aS => omega); (case aL => omega); intro v1 w5 ho hbw5 hgr _; (have hh5 := (hgr.block b hb4 HNO.out).trans HH4.out); (obtain ⟨A1, e1, rfl, _, _⟩ := Kd.R_reads ho); (obtain ⟨q0, z0⟩ := heap_cell (j := 0) hh5 rfl); (obtain ⟨q1, z1⟩ := heap_cell (j := 1) hh5 rfl); (obtain ⟨q3, z3⟩ := heap_cell (j := 3) hh5 rfl); (have HH5 := Aside0.mk hh5); (have HO5 := Aside0.mk ho); (have HB5 := Aside0.mk hbw5); clear hh5 ho hbw5 hgr)
        go_ret
        exact ⟨(((HB5.out.setCell hBb _).setCell hBb _).setCell hBb _), .inl ⟨HS2.out, rfl⟩⟩
      · rw [show pieceN wl = y by rw [pieceN, hpl]; rfl, show pieceOk wl = true by rw [pieceOk, hpl]; rfl]
        · by_cases hrl : rl = []
          · have HS2 := Lib.hid (show stepL rest.data.toList p gap = none by rw [HS.out, hpl]; simp [hrl])
            have er : rst.toList.isEmpty = true := by rw [toList_eq, HRL.out, hrl]; rfl
            clear hpl hrl
            go_wp2_with ((with_reducible refine gate_builtin (b := .append) (xs := #[.tmp 106, .tmp 108]) rfl ?_); at_builtin; refine Kd.R_append (Kd.int .u16) (w0 := w1) B rfl (.tmp 106) (.tmp 108) 41 31 (.int .u16 0) 2 rfl Tryz.underlying41 info_u16 rfl (by decide) (by omega) (.slice A p.length c) p y [.int .u16 y] (fun k => k ≠ b) (fun _ => False) rfl rfl ?aP (fun _ hk => hk.elim) ?aF ?aO ?aB ?aS ?aL ?_; (case aP => exact rfl); (case aF => exact fun k hk => by omega); (case aO => exact HR4.out); (case aB => exact HB4.out); (case aS => omega); (case aL => omega); intro v1 w5 ho hbw5 hgr _; (have hh5 := (hgr.block b hb4 HNO.out).trans HH4.out); (obtain ⟨A1, e1, rfl, _, _⟩ := Kd.R_reads ho); (obtain ⟨q0, z0⟩ := heap_cell (j := 0) hh5 rfl); (obtain ⟨q1, z1⟩ := heap_cell (j := 1) hh5 rfl); (obtain ⟨q3, z3⟩ := heap_cell (j := 3) hh5 rfl); (have HH5 := Aside0.mk hh5); (have HO5 := Aside0.mk ho); (have HB5 := Aside0.mk hbw5); clear hh5 ho hbw5 hgr)
            go_ret
            exact ⟨(((HB5.out.setCell hBb _).setCell hBb _).setCell hBb _), .inl ⟨HS2.out, rfl⟩⟩
          · have HS2 := Lib.hid (show stepL rest.data.toList p gap = some (rl, p ++ [y], gap, false) by rw [HS.out, hpl]; simp [hrl])
            have er : rst.toList.isEmpty = false := by rw [toList_eq, HRL.out]; simpa using hrl
            clear hpl hrl
            go_wp2_with ((with_reducible refine gate_builtin (b := .append) (xs := #[.tmp 106, .tmp 108]) rfl ?_); at_builtin; refine Kd.R_append (Kd.int .u16) (w0 := w1) B rfl (.tmp 106) (.tmp 108) 41 31 (.int .u16 0) 2 rfl Tryz.underlying41 info_u16 rfl (by decide) (by omega) (.slice A p.length c) p y [.int .u16 y] (fun k => k ≠ b) (fun _ => False) rfl rfl ?aP (fun _ hk => hk.elim) ?aF ?aO ?aB ?aS ?aL ?_; (case aP => exact rfl); (case aF => exact fun k hk => by omega); (case aO => exact HR4.out); (case aB => exact HB4.out); (case aS => omega); (case aL => omega); intro v1 w5 ho hbw5 hgr _; (have hh5 := (hgr.block b hb4 HNO.out).trans HH4.out); (obtain ⟨A1, e1, rfl, _, _⟩ := Kd.R_reads ho); (obtain ⟨q0, z0⟩ := heap_cell (j := 0) hh5 rfl); (obtain ⟨q1, z1⟩ := heap_cell (j := 1) hh5 rfl); (obtain ⟨q3, z3⟩ := heap_cell (j := 3) hh5 rfl); (have HH5 := Aside0.mk hh5); (have HO5 := Aside0.mk ho); (have HB5 := Aside0.mk hbw5); clear hh5 ho hbw5 hgr)
            go_ret
            exact ⟨(((HB5.out.setCell hBb _).setCell hBb _).setCell hBb _), .inr ⟨rst, p ++ [y], false, by rw [HS2.out, HRL.out], rfl, _, heap_set103 _ _ _ HH5.out, by have h6 := HO5.out; rw [show (p ++ [y]).length = p.length + 1 by simp] at h6; exact Kd.R_far (Kd.R_far (Kd.R_far h6 (fun _ h => h) _) (fun _ h => h) _) (fun _ h => h) _⟩⟩

theorem step_calls (B b : Nat) (hBb : B ≤ b) (rest : ByteArray) (p : List Int) (gap : Int) (ended : Bool) (w : World) (hs : rest.size ≤ 900000) (hp : p.length ≤ 1000) (hg0 : -1 ≤ gap) (hg1 : gap ≤ 1000) (hH : Holds w B b rest p gap ended) (hE : Aside0 (Errs w)) (hM : Aside0 (Mx w)) :
    Calls Tryz.prog 57 #[.pointer (some ⟨b, 0, none⟩)] w fun e w' => Below B w w' ∧ ((stepL rest.data.toList p gap = none ∧ e = .returned (.bool false)) ∨ ∃ (rest' : ByteArray) (p' : List Int) (gap' : Int) (ended' : Bool), stepL rest.data.toList p gap = some (rest'.data.toList, p', gap', ended') ∧ e = .returned (.bool true) ∧ Holds w' B b rest' p' gap' ended') := by
  rcases hpre : Lib.hasPrefix rest.data.toList [58] with _ | _
  · refine (step_word B b hBb rest p gap ended w hs hp hpre hH hE hM).mono ?_
    rintro e w' ⟨hb, h | ⟨r, q, d, h1, h2, h3⟩⟩
    · exact ⟨hb, .inl h⟩
    · exact ⟨hb, .inr ⟨r, q, gap, d, h1, h2, h3⟩⟩
  · refine (step_colon B b hBb rest p gap ended w hs hp hg0 hg1 hpre hH).mono ?_
    rintro e w' ⟨hb, ⟨h1, h2⟩ | ⟨h1, h2, r, h3, h4⟩⟩
    · exact ⟨hb, .inl ⟨by rw [stepL, if_pos hpre, if_pos h1], h2⟩⟩
    · exact ⟨hb, .inr ⟨r, p, p.length, _, by rw [stepL, if_pos hpre, if_neg (by omega), h3], h2, h4⟩⟩
end Go.Proofs.YtfieiigefllekaaGreatDoor

/- The reader's run: plain Lean. -/
namespace Go.Proofs.YtfieiigefllekaaGreatDoor
open Go.RowKit Go.Proofs.YtfieiigefllekaaGreatDoorW.PrintWords

def startL (s : List UInt8) : Option (List UInt8) := if Lib.hasPrefix s [58] = true then (if Lib.hasPrefix s [58, 58] = true then some (s.drop 1) else none) else some s
def runL : Nat → List UInt8 → List Int → Int → Bool → Option (List Int × Int)
  | _, _, p, gap, true => some (p, gap)
  | 0, _, _, _, false => none
  | n + 1, rest, p, gap, false => match stepL rest p gap with
    | none => none
    | some (r', p', g', e') => if 8 < p'.length then none else runL n r' p' g' e'
/-- Pieces, with the gap filled. -/
def fillL (p : List Int) (gap : Int) : Option (List Int) :=
  if gap < 0 then (if p.length = 8 then some p else none)
  else if p.length < 8 then some (p.take gap.toNat ++ List.replicate (8 - p.length) 0 ++ p.drop gap.toNat) else none
/-- A text's eight pieces; none: it is no address. -/
def sixL (s : List UInt8) : Option (List Int) := match startL s with
  | none => none
  | some r => match runL (r.length + 1) r [] (-1) false with
    | none => none
    | some (p, gap) => fillL p gap
def sixOk (s : List UInt8) : Bool := (sixL s).isSome
def sixX (s : List UInt8) : List Int := (sixL s).getD []

theorem piece_bd (l : List UInt8) (x : Int) (h : pieceL l = some x) : 0 ≤ x ∧ x ≤ 65535 := by
  rw [pieceL] at h
  split at h
  · cases h
  · rename_i hl
    have key : ∀ (l : List Int) (m : Int) (k : Nat), 0 ≤ m → m < 16 ^ k → k + l.length ≤ 4 → ∀ x, accN 16 m l = some x → 0 ≤ x ∧ x ≤ 65535 := by
      intro l
      induction l with
      | nil =>
        intro m k h0 h1 hk x hx
        obtain rfl := Option.some.inj hx
        have h4 : k = 0 ∨ k = 1 ∨ k = 2 ∨ k = 3 ∨ k = 4 := by simp at hk; omega
        rcases h4 with rfl | rfl | rfl | rfl | rfl <;> simp only [Int.reducePow] at h1 <;> omega
      | cons r rs ih =>
        intro m k h0 h1 hk x hx
        rw [accN] at hx
        split at hx
        · cases hx
        · rename_i hr
          have hb := hexV_bd r
          have hs := pow_small m k h1 (by simp at hk; omega)
          have hm : min (m * 16 + hexV r) 1099511627776 = m * 16 + hexV r := by omega
          rw [hm] at hx
          refine ih (m * 16 + hexV r) (k + 1) (by omega) ?_ (by simp at hk; omega) x hx
          exact pow_step m (hexV r) k 1 h1 (by omega) (by omega)
    refine key (intsOf l) 0 0 (by omega) (by decide) ?_ x h
    have : (intsOf l).length = l.length := by simp [intsOf]
    simp only [not_or] at hl
    omega
theorem cut_dec (s : List UInt8) : ((Lib.cut s [58]).2.2 = true → (Lib.cut s [58]).2.1.length < s.length) ∧ ((Lib.cut s [58]).2.2 = false → (Lib.cut s [58]).2.1 = []) := by
  unfold Lib.cut
  split
  · rename_i h
    refine ⟨fun _ => ?_, fun h' => (by cases h')⟩
    rw [List.length_drop]
    rcases Nat.eq_zero_or_pos s.length with h0 | h0
    · exfalso
      have : s = [] := List.eq_nil_of_length_eq_zero h0
      subst this
      revert h
      decide
    · simp
      omega
  · exact ⟨fun h' => (by cases h'), fun _ => rfl⟩
/-- What a step leaves. -/
theorem step_inv (rest : List UInt8) (p : List Int) (gap : Int) (r' : List UInt8) (p' : List Int) (g' : Int) (e' : Bool) (h : stepL rest p gap = some (r', p', g', e')) (hp : ∀ x ∈ p, 0 ≤ x ∧ x ≤ 65535) (hg : -1 ≤ gap ∧ gap ≤ p.length) :
    (∀ x ∈ p', 0 ≤ x ∧ x ≤ 65535) ∧ (-1 ≤ g' ∧ g' ≤ p'.length) ∧ p'.length ≤ p.length + 2 ∧ r'.length ≤ rest.length ∧ (e' = false → r'.length < rest.length) := by
  rw [stepL] at h
  split at h
  · rename_i hpre
    have h0 : 0 < rest.length := by
      rcases rest with _ | ⟨c, r⟩
      · cases hpre
      · simp
    split at h
    · cases h
    · simp only [Option.some.injEq, Prod.mk.injEq] at h
      obtain ⟨rfl, rfl, rfl, rfl⟩ := h
      refine ⟨hp, ⟨by omega, by omega⟩, by omega, by rw [List.length_drop]; omega, fun _ => by rw [List.length_drop]; omega⟩
  · rw [stepW] at h
    have hc := cut_dec rest
    have hl := cut_le rest [58]
    split at h
    · simp only [Option.some.injEq, Prod.mk.injEq] at h
      obtain ⟨rfl, rfl, rfl, rfl⟩ := h
      have hb : 0 ≤ strictN (Lib.cut rest [58]).1 ∧ strictN (Lib.cut rest [58]).1 < 4294967296 := by
        rcases strict_val (Lib.cut rest [58]).1 with ⟨_, _, h3⟩ | ⟨n, hn, _, _, h3, _⟩ <;> rw [h3] <;> omega
      refine ⟨fun x hx => ?_, ⟨hg.1, by simp; omega⟩, by simp, by simp, fun h => (by cases h)⟩
      rcases List.mem_append.1 hx with hx | hx
      · exact hp x hx
      · simp at hx
        rcases hx with rfl | rfl <;> omega
    · split at h
      · cases h
      · rename_i x hx
        split at h
        · cases h
        · simp only [Option.some.injEq, Prod.mk.injEq] at h
          obtain ⟨rfl, rfl, rfl, rfl⟩ := h
          refine ⟨fun y hy => ?_, ⟨hg.1, by simp; omega⟩, by simp, hl.2, fun he => hc.1 (by simpa using he)⟩
          rcases List.mem_append.1 hy with hy | hy
          · exact hp y hy
          · rw [List.mem_singleton.1 hy]
            exact piece_bd _ _ hx
end Go.Proofs.YtfieiigefllekaaGreatDoor

/- six.Parse, walked. -/
namespace Go.Proofs.YtfieiigefllekaaGreatDoor
open Go.RowKit Go.Proofs.YtfieiigefllekaaGreatDoorW.PrintWords Go.Proofs.YtfieiigefllekaaGreatDoorW.PrintMore

def sixHi (l : List UInt8) : Int := half ((sixX l).take 4)
def sixLo (l : List UInt8) : Int := half ((sixX l).drop 4)
/-- How much a reader has left. -/
def restM (w : World) (b : Nat) : Nat := match w.cell? ⟨b, 0, none⟩, w.cell? ⟨b, 3, none⟩ with
  | some (.string s), some (.bool e) => s.size + (if e = true then 0 else 1)
  | _, _ => 0
theorem restM_of {w : World} {B b : Nat} {rest : ByteArray} {p : List Int} {gap : Int} {ended : Bool} (h : Holds w B b rest p gap ended) : restM w b = rest.size + (if ended = true then 0 else 1) := by
  obtain ⟨v, hh, _⟩ := h
  rw [restM, (heap_cell (j := 0) hh rfl).1, (heap_cell (j := 3) hh rfl).1]
  rfl
theorem results_cell_bool {P : Program} {fn : Func} {p u : Tmp} {ty : TypeId} (h : fn.results = #[.cell p ty, .tmp u]) (tmps : Array Value) (w : World) (g : Nat) (t : TypeId) (cs : Array Value) (fr : Nat × Nat) (d : TypeDesc)
    (hp : tmps.getD p undef = .pointer (some ⟨g, 0, none⟩)) (hg : w.heap[g]? = some (.cells cs t fr)) (hu : P.underlying ty = some d) (hd : (match d with | .struct _ | .array _ _ => true | _ => false) = true) (hi : (P.info? ty).map (·.size) = some cs.size) :
    (results fn tmps).run P w = .ok (.tuple #[.agg cs, tmps.getD u undef]) w := by
  rw [results_cell_tmp h, hp]
  have e : (asAddr (.pointer (some ⟨g, 0, none⟩))).run P w = .ok ⟨g, 0, none⟩ w := rfl
  rw [e]
  simp only [Result.andThen]
  rw [run_loadVar_row w g t ty cs fr d hg hu hd hi]
theorem ret_six {a b c d : Int} {x y : Bool} (h1 : a = c) (h2 : b = d) (h3 : x = y) : Ending.returned (.tuple #[.agg #[.int .u64 a, .int .u64 b], .bool x]) = .returned (.tuple #[.agg #[.int .u64 c, .int .u64 d], .bool y]) := by rw [h1, h2, h3]
theorem six_none {l : List UInt8} (h : sixL l = none) : sixHi l = 0 ∧ sixLo l = 0 ∧ sixOk l = false := by
  rw [sixHi, sixLo, sixX, sixOk, h]
  exact ⟨rfl, rfl, rfl⟩
theorem six_some {l : List UInt8} {xs : List Int} (h : sixL l = some xs) : sixHi l = half (xs.take 4) ∧ sixLo l = half (xs.drop 4) ∧ sixOk l = true := by
  rw [sixHi, sixLo, sixX, sixOk, h]
  exact ⟨rfl, rfl, rfl⟩
theorem run_step (n : Nat) (rest : List UInt8) (p : List Int) (gap : Int) : runL (n + 1) rest p gap false = match stepL rest p gap with
    | none => none
    | some (r', p', g', e') => if 8 < p'.length then none else runL n r' p' g' e' := rfl
theorem run_end (n : Nat) (rest : List UInt8) (p : List Int) (gap : Int) : runL n rest p gap true = some (p, gap) := by cases n <;> rfl
theorem below_in {B : Nat} {w w' : World} (h : Below (B + 1) w w') : Below B w w' := h.mono (Nat.le_succ B)

theorem i64_small (n : Int) (h0 : -1000000 ≤ n) (h1 : n ≤ 1000000) : IntKind.i64.wrap n = n := by
  simp [IntKind.wrap, IntKind.signed, IntKind.bits]
  omega
theorem fill_bd (q : List Int) (k : Nat) (h : ∀ x ∈ q, 0 ≤ x ∧ x ≤ 65535) : ∀ y ∈ q.take k ++ List.replicate (8 - q.length) 0 ++ q.drop k, 0 ≤ y ∧ y ≤ 65535 := by
  intro y hy
  rcases List.mem_append.1 hy with hy | hy
  · rcases List.mem_append.1 hy with hy | hy
    · exact h y (List.mem_of_mem_take hy)
    · rw [(List.mem_replicate.1 hy).2]
      omega
  · exact h y (List.mem_of_mem_drop hy)
theorem fill_eq (q : List Int) (k o : Nat) (hk : k < q.length) (h8 : q.length < 8) (ho : o = 8 - q.length + k) :
    ((List.replicate 8 (0 : Int)).take 0 ++ q.take k ++ (List.replicate 8 0).drop (0 + k)).take o ++ q.drop k ++ ((List.replicate 8 (0 : Int)).take 0 ++ q.take k ++ (List.replicate 8 0).drop (0 + k)).drop (o + (q.drop k).length) = q.take k ++ List.replicate (8 - q.length) 0 ++ q.drop k := by
  have hl : (q.take k).length = k := by rw [List.length_take]; omega
  have hd : (q.drop k).length = q.length - k := List.length_drop
  have e1 : (List.replicate 8 (0 : Int)).drop (0 + k) = List.replicate (8 - k) 0 := by rw [List.drop_replicate, Nat.zero_add]
  have e2 : (q.take k ++ List.replicate (8 - k) 0).take o = q.take k ++ List.replicate (8 - q.length) 0 := by
    rw [List.take_append, List.take_of_length_le (by omega), hl, List.take_replicate, show min (o - k) (8 - k) = 8 - q.length by omega]
  have e3 : (q.take k ++ List.replicate (8 - k) (0 : Int)).drop (o + (q.length - k)) = [] := by
    rw [List.drop_of_length_le]
    simp
    omega
  rw [hd, e1, List.take_zero, List.nil_append, e2, e3, List.append_nil]
theorem fill_eq0 (q : List Int) :
    ((List.replicate 8 (0 : Int)).take 0 ++ q.take q.length ++ (List.replicate 8 0).drop (0 + q.length)).take 0 ++ [] ++ ((List.replicate 8 (0 : Int)).take 0 ++ q.take q.length ++ (List.replicate 8 0).drop (0 + q.length)).drop (0 + ([] : List Int).length) = q.take q.length ++ List.replicate (8 - q.length) 0 ++ q.drop q.length := by
  simp only [List.take_zero, List.nil_append, List.append_nil, List.length_nil, Nat.add_zero, List.drop_zero, Nat.zero_add, List.drop_replicate, List.drop_length]
theorem list8 (zs : List Int) (h : zs.length = 8) : ∃ y0 y1 y2 y3 y4 y5 y6 y7, zs = [y0, y1, y2, y3, y4, y5, y6, y7] := by
  rcases zs with _ | ⟨a, _ | ⟨b, _ | ⟨c, _ | ⟨d, _ | ⟨e, _ | ⟨f, _ | ⟨g, _ | ⟨i, _ | ⟨j, l⟩⟩⟩⟩⟩⟩⟩⟩⟩ <;> simp at h
  exact ⟨_, _, _, _, _, _, _, _, rfl⟩
theorem C_u16 {W : World} {A : Option Addr} {n : Nat} {q : List Int} (h : Kd.C (Kd.int .u16) W A n q) (hp : 0 < q.length) : ∃ ad, A = some ad ∧ ∀ j v, (u16s q)[j]? = some v → W.cell? (ad.add j) = some v := by
  obtain ⟨hn, _, hh⟩ := h
  obtain ⟨ad, rfl, hc⟩ := hh (by omega)
  refine ⟨ad, rfl, fun j v hv => ?_⟩
  rw [u16s, List.getElem?_map] at hv
  obtain ⟨x, hx, rfl⟩ := Option.map_eq_some_iff.1 hv
  obtain ⟨cs, hl, hk, hcs⟩ := hc j x hx
  obtain rfl : cs = [.int .u16 x] := hk
  have h1 := hcs 0 (.int .u16 x) rfl
  rw [show j * (Kd.int .u16).sz + 0 = j from Nat.mul_one j] at h1
  exact h1
/-- Numbers copied into a row of numbers that lies above, at a place. -/
theorem copyAt (W : World) (B g : Nat) (hBg : B ≤ g) (A : Option Addr) (c : Nat) (ys xs : List Int) (off dl dc : Nat) (dp : Option Addr) (hg : W.heap[g]? = some (.cells (u16s ys).toArray 32 (0, 0))) (hfit : off + xs.length ≤ ys.length) (hdl : xs.length ≤ dl)
    (hdp : 0 < xs.length → dp = some ⟨g, off, none⟩) (hA : 0 < xs.length → ∃ ad, A = some ad ∧ ∀ j v, (u16s xs)[j]? = some v → W.cell? (ad.add j) = some v) :
    ∃ W' : World, (Builtin.copy_ #[41, 41] 3 #[.slice dp dl dc, .slice A xs.length c]).run Tryz.prog W = .ok (goInt xs.length) W' ∧ W'.heap[g]? = some (.cells (u16s (ys.take off ++ xs ++ ys.drop (off + xs.length))).toArray 32 (0, 0)) ∧ (∀ k, k ≠ g → W'.heap[k]? = W.heap[k]?) ∧ W'.heap.size = W.heap.size ∧ Below B W W' := by
  have hmin : Nat.min xs.length dl = xs.length := Nat.min_eq_left hdl
  rcases Nat.eq_zero_or_pos xs.length with h0 | hpos
  · refine ⟨W, ?_, ?_, fun _ _ => rfl, rfl, Below.refl _ _⟩
    · rw [run_copy_none W _ _ _ 31 dp A dl dc xs.length c Tryz.underlying41 (by kernel_rfl) (by rw [hmin, h0]), h0]
      rfl
    · rw [hg, List.eq_nil_of_length_eq_zero h0]
      simp
  · obtain ⟨ad, rfl, hc⟩ := hA hpos
    obtain rfl := hdp hpos
    have hl : (u16s xs).length = xs.length := u16s_length xs
    have hrun := run_copy_row Tryz.prog W 41 41 3 31 g off dl dc ad xs.length c _ 32 (u16s xs) Tryz.underlying41 (by kernel_rfl) hg (by rw [hl, hmin]) hc (by rw [hl, List.size_toArray, u16s_length]; exact hfit) (u16s_one _)
    refine ⟨_, by rw [hrun, hl], ?_, fun k hk => setRow_other W g k _ hk, by simp [World.setRow], below_setRow (Below.refl _ _) hBg _⟩
    rw [setRow_heap W g _ _ _ _ hg]
    simp [u16s, List.map_append, List.map_take, List.map_drop]

set_option maxHeartbeats 4000000 in
set_option maxRecDepth 100000 in
theorem SixParse_calls (s : ByteArray) (w : World) (hs : s.size ≤ 900000) (hE : Aside0 (Errs w)) (hM : Aside0 (Mx w)) :
    Calls Tryz.prog 15 #[.string s] w fun e w' => e = .returned (.tuple #[.agg #[.int .u64 (sixHi s.data.toList), .int .u64 (sixLo s.data.toList)], .bool (sixOk s.data.toList)]) ∧ Below w.heap.size w w' := by
  have HSN := Aside0.mk (show sixL s.data.toList = none → _ from six_none)
  have HSS := Aside0.mk (show ∀ xs, sixL s.data.toList = some xs → _ from fun xs => six_some)
  have hlen : s.data.toList.length = s.size := by simp
  have bel0 : ∀ (o1 o2 : Obj), Below w.heap.size w ((w.alloc o1).alloc o2) := fun o1 o2 => ((Below.refl _ _).alloc (Nat.le_refl _) _).alloc (by simp) _
  have BEL0 := Aside0.mk bel0
  clear bel0
  rcases hp1 : Lib.hasPrefix s.data.toList [58] with _ | _
  rotate_left
  · rcases hp2 : Lib.hasPrefix s.data.toList [58, 58] with _ | _
    · have HF := Lib.hid (HSN.out (by rw [sixL, startL, if_pos hp1, if_neg (by rw [hp2]; decide)]))
      have H1 := Lib.hid hp1
      have H2 := Lib.hid hp2
      clear hp1 hp2 hlen
      go_enter Tryz.func15, Tryz.ntmps15
      go_wp2_with fail
      refine (Tryz.strings_HasPrefix _ _ _).mono ?_
      rintro e w1 ⟨rfl, rfl⟩
      rw [show (ByteArray.mk #[58]).data.toList = [58] from rfl, H1.out]
      go_wp2_with fail
      refine (Tryz.strings_HasPrefix _ _ _).mono ?_
      rintro e w1 ⟨rfl, rfl⟩
      rw [show (ByteArray.mk #[58, 58]).data.toList = [58, 58] from rfl, H2.out]
      go_wp2_with fail
      refine bodyPost_ret (results_cell_bool rfl _ _ w.heap.size 25 #[.int .u64 0, .int .u64 0] (0, 0) _ rfl (by rw [heap_alloc_old' _ _ _ (by simp)]; exact heap_alloc_new' _ _ _ rfl) Tryz.underlying25 rfl (by kernel_rfl)) rfl ?_
      exact ⟨ret_six HF.out.1.symm HF.out.2.1.symm HF.out.2.2.symm, BEL0.out _ _⟩
    · obtain ⟨r, hr⟩ : ∃ r : ByteArray, r = s.extract 1 s.size := ⟨_, rfl⟩
      have hrd : r.data.toList = s.data.toList.drop 1 := by rw [hr]; exact extract_list s 1
      have hrz : r.size ≤ 900000 := by rw [hr]; rw [ByteArray.size_extract]; omega
      have HST := Lib.hid (show sixL s.data.toList = match runL (r.data.toList.length + 1) r.data.toList [] (-1) false with
        | none => none
        | some (p, gap) => fillL p gap by rw [sixL, startL, if_pos hp1, if_pos hp2, hrd] <;> rfl)
      have H1 := Lib.hid hp1
      have H2 := Lib.hid hp2
      have hpos : 0 < s.size := by
        rcases Nat.eq_zero_or_pos s.size with h | h
        · rw [List.eq_nil_of_length_eq_zero (hlen.trans h)] at hp1
          cases hp1
        · exact h
      clear hp1 hp2 hlen hrd
      go_enter Tryz.func15, Tryz.ntmps15
      go_wp2_with fail
      refine (Tryz.strings_HasPrefix _ _ _).mono ?_
      rintro e w1 ⟨rfl, rfl⟩
      rw [show (ByteArray.mk #[58]).data.toList = [58] from rfl, H1.out]
      go_wp2_with fail
      refine (Tryz.strings_HasPrefix _ _ _).mono ?_
      rintro e w1 ⟨rfl, rfl⟩
      rw [show (ByteArray.mk #[58, 58]).data.toList = [58, 58] from rfl, H2.out]
      have HRE := Lib.hid hr
      clear hr
      go_wp2_with fail
      have hr := HRE.out
      clear HRE
      obtain ⟨W0, hW0⟩ : ∃ W0, W0 = (w.alloc (.cells #[.int .u64 0, .int .u64 0] 25)).alloc (.cells #[.string (s.extract 1 s.size), .slice none 0 0, .int .i64 (-1), .bool false] 96) := ⟨_, rfl⟩
      rw [← hW0]
      rw [← hr] at hW0
      clear hr
      have hw0 : W0.heap[w.heap.size]? = some (.cells #[.int .u64 0, .int .u64 0] 25 (0, 0)) := by
        rw [hW0, heap_alloc_old' _ _ _ (by simp)]
        exact heap_alloc_new' _ _ _ rfl
      have hw1 : Holds W0 (w.heap.size + 1) (w.heap.size + 1) r [] (-1) false := ⟨_, by rw [hW0]; exact heap_alloc_new' _ _ _ (by simp), Kd.R_nil _ _ _ _ _⟩
      have hw2 : Below w.heap.size w W0 := by rw [hW0]; exact BEL0.out _ _
      have HW0 := Aside0.mk hw0
      have HW1 := Aside0.mk hw1
      have HW2 := Aside0.mk hw2
      clear hW0 hw0 hw1 hw2
      go_loopw [] (fun wr => ∃ (n : Nat) (rest : ByteArray) (q : List Int) (gap : Int) (ended : Bool), rest.size ≤ 900000 ∧ q.length ≤ 8 ∧ -1 ≤ gap ∧ gap ≤ q.length ∧ rest.size + (if ended = true then 0 else 1) ≤ n ∧ Aside0 (∀ x ∈ q, 0 ≤ x ∧ x ≤ 65535) ∧ Aside0 (runL n rest.data.toList q gap ended = runL (r.data.toList.length + 1) r.data.toList [] (-1) false) ∧ Aside0 (Holds wr (w.heap.size + 1) (w.heap.size + 1) rest q gap ended) ∧ Aside0 (wr.heap[w.heap.size]? = some (.cells #[.int .u64 0, .int .u64 0] 25 (0, 0))) ∧ Aside0 (Below w.heap.size w wr)) (fun wr => restM wr (w.heap.size + 1))
      case atStart => exact ⟨r.data.toList.length + 1, r, [], -1, false, hrz, by simp, by omega, by simp, by simp, ⟨by simp⟩, ⟨rfl⟩, HW1, HW0, HW2⟩
      case round =>
        obtain ⟨n, rest, q, gap, ended, hrs, hq8, hg0, hg1, hn, hqb, hrun, hH, hr0, hbw⟩ := hrel
        have HM0 := Lib.hid (restM_of hH.out)
        obtain ⟨v, hh, hR⟩ := hH.out
        obtain ⟨A, c, rfl, hcap, hC⟩ := Kd.R_reads hR
        obtain ⟨c0, f0⟩ := heap_cell (j := 0) hh rfl
        obtain ⟨c1, f1⟩ := heap_cell (j := 1) hh rfl
        obtain ⟨c2, f2⟩ := heap_cell (j := 2) hh rfl
        obtain ⟨c3, f3⟩ := heap_cell (j := 3) hh rfl
        have hbl := cell_lt c0
        have HHH := Aside0.mk hh
        have HC := Aside0.mk hC
        clear hh hR hC
        cases ended
        · obtain ⟨m, rfl⟩ : ∃ m, n = m + 1 := ⟨n - 1, by simp at hn; omega⟩
          have hm : rest.size ≤ m := by simp at hn; omega
          clear hn
          go_wp2_with fail
          refine (step_calls (w.heap.size + 1) (w.heap.size + 1) (Nat.le_refl _) rest q gap false _ hrs (by omega) hg0 (by omega) hH.out ⟨hE.out.stays hbw.out⟩ ⟨hM.out.stays hbw.out⟩).mono ?_
          rintro e w2 ⟨b2, ⟨hst, rfl⟩ | ⟨rest', q', gap', ended', hst, rfl, hH2⟩⟩
          · have hr2 := (b2.block w.heap.size (Nat.lt_succ_self _)).trans hr0.out
            have HF := Lib.hid (HSN.out (by rw [HST.out, ← hrun.out, run_step, hst]))
            have HB2 := Aside0.mk (hbw.out.trans (b2.mono (Nat.le_succ _)))
            obtain ⟨r0, g0⟩ := heap_cell (j := 0) hr2 rfl
            obtain ⟨r1, g1⟩ := heap_cell (j := 1) hr2 rfl
            have HR2 := Aside0.mk hr2
            clear c0 f0 c1 f1 c2 f2 c3 f3 hst b2 hr2
            go_wp2_with fail
            refine bodyPost_ret (results_cell_bool rfl _ _ w.heap.size 25 #[.int .u64 0, .int .u64 0] (0, 0) _ rfl (heap_set1 _ (heap_set0 _ HR2.out)) Tryz.underlying25 rfl (by kernel_rfl)) rfl ?_
            exact ⟨ret_six HF.out.1.symm HF.out.2.1.symm HF.out.2.2.symm, (HB2.out.setCell (Nat.le_refl _) _).setCell (Nat.le_refl _) _⟩
          · have hr2 := (b2.block w.heap.size (Nat.lt_succ_self _)).trans hr0.out
            have HB2 := Aside0.mk (hbw.out.trans (b2.mono (Nat.le_succ _)))
            have hinv := step_inv _ _ _ _ _ _ _ hst hqb.out ⟨hg0, hg1⟩
            obtain ⟨i1, i2, i3, i4, i5⟩ := hinv
            have HI1 := Aside0.mk i1
            have hl' : rest'.data.toList.length = rest'.size := by simp
            have hl0 : rest.data.toList.length = rest.size := by simp
            rw [hl', hl0] at i4 i5
            have HM2 := Lib.hid (restM_of hH2)
            have hH2' := hH2
            obtain ⟨v2, hh2, hR2⟩ := hH2'
            obtain ⟨A2, e2, rfl, hcap2, _⟩ := Kd.R_reads hR2
            obtain ⟨d1, k1⟩ := heap_cell (j := 1) hh2 rfl
            have HH2 := Aside0.mk hH2
            have HRUN := Lib.hid (show runL (m + 1) rest.data.toList q gap false = if 8 < q'.length then none else runL m rest'.data.toList q' gap' ended' by rw [run_step, hst])
            obtain ⟨r0, g0⟩ := heap_cell (j := 0) hr2 rfl
            obtain ⟨r1, g1⟩ := heap_cell (j := 1) hr2 rfl
            have HR2 := Aside0.mk hr2
            have hdec : rest'.size + (if ended' = true then 0 else 1) < rest.size + 1 := by
              cases ended'
              · have := i5 rfl
                simp
                omega
              · simp
                omega
            have HDEC := Aside0.mk hdec
            clear c0 f0 c1 f1 c2 f2 c3 f3 hst b2 hr2 hh2 hR2 hH2 i1 i5 hl' hl0 hdec
            by_cases h8 : 8 < q'.length
            · have HF := Lib.hid (HSN.out (by rw [HST.out, ← hrun.out, HRUN.out, if_pos h8]))
              go_wp2_with fail
              refine bodyPost_ret (results_cell_bool rfl _ _ w.heap.size 25 #[.int .u64 0, .int .u64 0] (0, 0) _ rfl (heap_set1 _ (heap_set0 _ HR2.out)) Tryz.underlying25 rfl (by kernel_rfl)) rfl ?_
              exact ⟨ret_six HF.out.1.symm HF.out.2.1.symm HF.out.2.2.symm, (HB2.out.setCell (Nat.le_refl _) _).setCell (Nat.le_refl _) _⟩
            · have HRUN2 := Aside0.mk (show runL m rest'.data.toList q' gap' ended' = runL (r.data.toList.length + 1) r.data.toList [] (-1) false by rw [← hrun.out, HRUN.out, if_neg h8])
              go_wp2_with fail
              go_roundw
              case rel => exact ⟨m, rest', q', gap', ended', by omega, by omega, i2.1, i2.2, by have := HDEC.out; omega, HI1, HRUN2, HH2, HR2, HB2⟩
              case measure =>
                rw [HM2.out, HM0.out]
                have := HDEC.out
                simp
                omega
        · have HFILL := Lib.hid (show sixL s.data.toList = fillL q gap by rw [HST.out, ← hrun.out, run_end])
          by_cases hgn : gap < 0
          · by_cases h8 : q.length = 8
            · clear c0 f0
              go_wp2_with fail
              obtain ⟨W1, hW1⟩ : ∃ W1, W1 = wr.alloc (.cells #[.int .u16 0, .int .u16 0, .int .u16 0, .int .u16 0, .int .u16 0, .int .u16 0, .int .u16 0, .int .u16 0] 32) := ⟨_, rfl⟩
              rw [← hW1]
              have hP : W1.heap[wr.heap.size]? = some (.cells (u16s (List.replicate 8 0)).toArray 32 (0, 0)) := by rw [hW1]; exact heap_alloc_new' _ _ _ rfl
              have hbA : Below wr.heap.size wr W1 := by rw [hW1]; exact (Below.refl _ _).alloc (Nat.le_refl _) _
              have hRr : W1.heap[w.heap.size]? = some (.cells #[.int .u64 0, .int .u64 0] 25 (0, 0)) := (hbA.block _ (by omega)).trans hr0.out
              have hRd := (hbA.block _ hbl).trans HHH.out
              have hCq := Kd.C_below HC.out hbA
              have hsz : W1.heap.size = wr.heap.size + 1 := by rw [hW1]; simp
              have HBA := Aside0.mk (hbw.out.trans (hbA.mono hbw.out.size))
              obtain ⟨e1, _⟩ := heap_cell (j := 1) hRd rfl
              obtain ⟨e2, _⟩ := heap_cell (j := 2) hRd rfl
              have HP := Aside0.mk hP
              have HRr := Aside0.mk hRr
              have HCq := Aside0.mk hCq
              have hPw : w.heap.size + 1 < wr.heap.size := hbl
              have hsz' : wr.heap.size < W1.heap.size := by omega
              clear hW1 hP hbA hRr hRd hCq hsz c1 f1 c2 f2 c3 f3
              generalize wr.heap.size = g at *
              go_still_tail 3, (by kernel_rfl)
              change wpList _ _ _ _ _ W1.drew
              have hsrc : 0 < q.length → ∃ ad, A = some ad ∧ ∀ j v, (u16s q)[j]? = some v → W1.drew.cell? (ad.add j) = some v := fun h => C_u16 HCq.out h
              obtain ⟨W3, hcp, hg3, ho3, hs3, hb3⟩ := copyAt W1.drew w.heap.size g (by omega) A c (List.replicate 8 0) q 0 8 8 (some ⟨g, 0, none⟩) HP.out (by simp; omega) (by omega) (fun _ => rfl) hsrc
              rw [show (List.replicate 8 (0 : Int)).take 0 ++ q ++ (List.replicate 8 (0 : Int)).drop (0 + q.length) = q by simp [h8]] at hg3
              rw [h8] at hcp
              have HR3 := Aside0.mk ((ho3 w.heap.size (by omega)).trans HRr.out)
              have HB3 := Aside0.mk (HBA.out.drew.trans hb3)
              have hw3 : w.heap.size < W3.heap.size := by rw [hs3]; show _ < W1.heap.size; omega
              have HZ := Lib.hid (show sixL s.data.toList = some q by rw [HFILL.out, fillL, if_pos hgn, if_pos h8])
              have hz8 := h8
              have hzb := hqb.out
              clear hsrc ho3 hs3 hb3 h8 hcap hq8
              clear e1 e2
              obtain ⟨zs, hzs⟩ : ∃ zs, zs = q := ⟨_, rfl⟩
              rw [← hzs] at hg3 HZ hz8 hzb
              clear hzs
              obtain ⟨y0, y1, y2, y3, y4, y5, y6, y7, rfl⟩ := list8 zs hz8
              have HFIN := Lib.hid (HSS.out _ HZ.out)
              have n0 := hzb y0 (by simp)
              have n1 := hzb y1 (by simp)
              have n2 := hzb y2 (by simp)
              have n3 := hzb y3 (by simp)
              have n4 := hzb y4 (by simp)
              have n5 := hzb y5 (by simp)
              have n6 := hzb y6 (by simp)
              have n7 := hzb y7 (by simp)
              have k0 : W3.cell? ⟨g, 0, none⟩ = some (.int .u16 y0) := (heap_cell (j := 0) hg3 rfl).1
              have k1 : W3.cell? ⟨g, 1, none⟩ = some (.int .u16 y1) := (heap_cell (j := 1) hg3 rfl).1
              have k2 : W3.cell? ⟨g, 2, none⟩ = some (.int .u16 y2) := (heap_cell (j := 2) hg3 rfl).1
              have k3 : W3.cell? ⟨g, 3, none⟩ = some (.int .u16 y3) := (heap_cell (j := 3) hg3 rfl).1
              have k4 : W3.cell? ⟨g, 4, none⟩ = some (.int .u16 y4) := (heap_cell (j := 4) hg3 rfl).1
              have k5 : W3.cell? ⟨g, 5, none⟩ = some (.int .u16 y5) := (heap_cell (j := 5) hg3 rfl).1
              have k6 : W3.cell? ⟨g, 6, none⟩ = some (.int .u16 y6) := (heap_cell (j := 6) hg3 rfl).1
              have k7 : W3.cell? ⟨g, 7, none⟩ = some (.int .u16 y7) := (heap_cell (j := 7) hg3 rfl).1
              clear hg3 hzb hz8 HZ
              go_wp2_with fail
              refine (of_calls y0 y1 y2 y3 y4 y5 y6 y7 n0 n1 n2 n3 n4 n5 n6 n7 _).mono ?_
              rintro e w4 ⟨rfl, b4⟩
              have hr4 := (b4.block w.heap.size hw3).trans HR3.out
              have HB4 := Aside0.mk (below_then HB3.out HB3.out.size b4)
              obtain ⟨r0, g0⟩ := heap_cell (j := 0) hr4 rfl
              obtain ⟨r1, g1⟩ := heap_cell (j := 1) hr4 rfl
              have HR4 := Aside0.mk hr4
              clear hr4 b4
              go_wp2_with fail
              refine bodyPost_ret (results_cell_bool rfl _ _ w.heap.size 25 #[.int .u64 (half [y0, y1, y2, y3]), .int .u64 (half [y4, y5, y6, y7])] (0, 0) _ rfl (heap_set1 _ (heap_set0 _ HR4.out)) Tryz.underlying25 rfl (by kernel_rfl)) rfl ?_
              exact ⟨ret_six HFIN.out.1.symm HFIN.out.2.1.symm HFIN.out.2.2.symm, (HB4.out.setCell (Nat.le_refl _) _).setCell (Nat.le_refl _) _⟩
            · have HF := Lib.hid (HSN.out (by rw [HFILL.out, fillL, if_pos hgn, if_neg h8]))
              obtain ⟨r0, g0⟩ := heap_cell (j := 0) hr0.out rfl
              obtain ⟨r1, g1⟩ := heap_cell (j := 1) hr0.out rfl
              go_wp2_with fail
              refine bodyPost_ret (results_cell_bool rfl _ _ w.heap.size 25 #[.int .u64 0, .int .u64 0] (0, 0) _ rfl (heap_set1 _ (heap_set0 _ hr0.out)) Tryz.underlying25 rfl (by kernel_rfl)) rfl ?_
              exact ⟨ret_six HF.out.1.symm HF.out.2.1.symm HF.out.2.2.symm, (hbw.out.setCell (Nat.le_refl _) _).setCell (Nat.le_refl _) _⟩
          · by_cases h8 : q.length < 8
            rotate_left
            · have HF := Lib.hid (HSN.out (by rw [HFILL.out, fillL, if_neg hgn, if_neg h8]))
              obtain ⟨r0, g0⟩ := heap_cell (j := 0) hr0.out rfl
              obtain ⟨r1, g1⟩ := heap_cell (j := 1) hr0.out rfl
              go_wp2_with fail
              refine bodyPost_ret (results_cell_bool rfl _ _ w.heap.size 25 #[.int .u64 0, .int .u64 0] (0, 0) _ rfl (heap_set1 _ (heap_set0 _ hr0.out)) Tryz.underlying25 rfl (by kernel_rfl)) rfl ?_
              exact ⟨ret_six HF.out.1.symm HF.out.2.1.symm HF.out.2.2.symm, (hbw.out.setCell (Nat.le_refl _) _).setCell (Nat.le_refl _) _⟩
            · obtain ⟨k, rfl⟩ : ∃ k : Nat, gap = k := ⟨gap.toNat, by omega⟩
              have hkq : k ≤ q.length := by omega
              have hlt8 : q.length < 8 := by omega
              clear c0 f0
              go_wp2_with fail
              obtain ⟨W1, hW1⟩ : ∃ W1, W1 = wr.alloc (.cells #[.int .u16 0, .int .u16 0, .int .u16 0, .int .u16 0, .int .u16 0, .int .u16 0, .int .u16 0, .int .u16 0] 32) := ⟨_, rfl⟩
              rw [← hW1]
              have hP : W1.heap[wr.heap.size]? = some (.cells (u16s (List.replicate 8 0)).toArray 32 (0, 0)) := by rw [hW1]; exact heap_alloc_new' _ _ _ rfl
              have hbA : Below wr.heap.size wr W1 := by rw [hW1]; exact (Below.refl _ _).alloc (Nat.le_refl _) _
              have hRr : W1.heap[w.heap.size]? = some (.cells #[.int .u64 0, .int .u64 0] 25 (0, 0)) := (hbA.block _ (by omega)).trans hr0.out
              have hRd := (hbA.block _ hbl).trans HHH.out
              have hCq := Kd.C_below HC.out hbA
              have hsz : W1.heap.size = wr.heap.size + 1 := by rw [hW1]; simp
              have HBA := Aside0.mk (hbw.out.trans (hbA.mono hbw.out.size))
              obtain ⟨e1, _⟩ := heap_cell (j := 1) hRd rfl
              obtain ⟨e2, _⟩ := heap_cell (j := 2) hRd rfl
              have HLT : Aside0 (∀ (ad : Addr) (j : Nat) (v : Value), A = some ad → (u16s q)[j]? = some v → (ad.add j).block < wr.heap.size) := ⟨fun ad j v e hv => by
                have hl := (List.getElem?_eq_some_iff.1 hv).1
                rw [u16s_length] at hl
                obtain ⟨ad', e', hc⟩ := C_u16 HC.out (by omega)
                obtain rfl := Option.some.inj (e.symm.trans e')
                exact cell_lt (hc j v hv)⟩
              have HP := Aside0.mk hP
              have HRr := Aside0.mk hRr
              have HRd := Aside0.mk hRd
              have HCq := Aside0.mk hCq
              have hPw : w.heap.size + 1 < wr.heap.size := hbl
              have hsz' : wr.heap.size < W1.heap.size := by omega
              clear hW1 hP hbA hRr hRd hCq hsz c1 f1 c2 f2 c3 f3
              generalize wr.heap.size = g at *
              go_wp2_with fail
              have hk0 : (0 : Int) ≤ (k : Int) := by omega
              have hkc : (k : Int) ≤ (c : Int) := by omega
              go_still_tail 6, (by kernel_rfl)
              change wpList _ _ _ _ _ W1.drew
              have hsrc : 0 < (q.take k).length → ∃ ad, A = some ad ∧ ∀ j v, (u16s (q.take k))[j]? = some v → W1.drew.cell? (ad.add j) = some v := fun h => by
                obtain ⟨ad, e, hc⟩ := C_u16 HCq.out (by rw [List.length_take] at h; omega)
                refine ⟨ad, e, fun j v hv => hc j v ?_⟩
                rw [u16s, List.map_take, List.getElem?_take] at hv
                split at hv
                · exact hv
                · cases hv
              have hlk : (q.take k).length = k := by rw [List.length_take]; omega
              obtain ⟨W2, hcp, hg2, ho2, hs2, hb2⟩ := copyAt W1.drew w.heap.size g (by omega) A c (List.replicate 8 0) (q.take k) 0 8 8 (some ⟨g, 0, none⟩) HP.out (by simp; omega) (by omega) (fun _ => rfl) hsrc
              rw [hlk] at hcp hg2
              have HG2 := Aside0.mk hg2
              have HRr2 := Aside0.mk ((ho2 w.heap.size (by omega)).trans HRr.out)
              have hRd2 := (ho2 (w.heap.size + 1) (by omega)).trans HRd.out
              have hB2' := HBA.out.drew.trans hb2
              have HBA2 := Aside0.mk hB2'
              have HCq2 : Aside0 (∀ (ad : Addr) (j : Nat) (v : Value), A = some ad → (u16s q)[j]? = some v → W2.cell? (ad.add j) = some v) := ⟨fun ad j v e hv => by
                have hl := (List.getElem?_eq_some_iff.1 hv).1
                rw [u16s_length] at hl
                obtain ⟨ad', e', hc⟩ := C_u16 HCq.out (by omega)
                obtain rfl := Option.some.inj (e.symm.trans e')
                have hb := HLT.out ad j v e hv
                exact (World.cell?_of_block (w := W1.drew) (ho2 _ (by omega))).trans (hc j v hv)⟩
              have hs2' : g < W2.heap.size := by rw [hs2]; exact hsz'
              obtain ⟨x1, _⟩ := heap_cell (j := 1) hRd2 rfl
              obtain ⟨x2, _⟩ := heap_cell (j := 2) hRd2 rfl
              clear hsrc hg2 ho2 hs2 hb2 hRd2 hB2' e1 e2
              go_wp2_with fail
              have hw1 : IntKind.i64.wrap (8 - (q.length : Int)) = ((8 - q.length : Nat) : Int) := by
                rw [i64_small _ (by omega) (by omega)]
                omega
              obtain ⟨o, ho⟩ : ∃ o : Nat, o = 8 - q.length + k := ⟨_, rfl⟩
              have hw2 : IntKind.i64.wrap (((8 - q.length : Nat) : Int) + (k : Int)) = (o : Int) := by
                rw [i64_small _ (by omega) (by omega)]
                omega
              have HO := Lib.hid ho
              have ho0 : (0 : Int) ≤ (o : Int) := by omega
              have ho8 : (o : Int) ≤ 8 := by omega
              have hkl : (k : Int) ≤ (q.length : Int) := by omega
              by_cases hkk : k < q.length
              · obtain ⟨ad, rfl, _⟩ := C_u16 HCq.out (by omega)
                have ho7 : o < 8 := by omega
                have hne1 : ¬ 8 = o := by omega
                have hne2 : ¬ c = k := by omega
                clear ho
                go_still_tail 13, (by kernel_rfl)
                change wpList _ _ _ _ _ W2.drew
                have hlk2 : (q.drop k).length = q.length - k := by rw [List.length_drop]
                obtain ⟨W3, hcp2, hg3, ho3, hs3, hb3⟩ := copyAt W2.drew w.heap.size g (by omega) (some (ad.add k)) (c - k) ((List.replicate 8 0).take 0 ++ q.take k ++ (List.replicate 8 0).drop (0 + k)) (q.drop k) o (8 - o) (8 - o) (some ⟨g, o, none⟩) HG2.out (by have := HO.out; simp; omega) (by have := HO.out; omega) (fun _ => rfl) (fun _ => ⟨_, rfl, fun j v hv => by
                  rw [Addr.add_add]
                  refine HCq2.out ad (k + j) v rfl ?_
                  rw [u16s, List.map_drop, List.getElem?_drop] at hv
                  exact hv⟩)
                rw [hlk2] at hcp2
                rw [fill_eq q k o (by omega) (by omega) HO.out] at hg3
                have HR3 := Aside0.mk ((ho3 w.heap.size (by omega)).trans HRr2.out)
                have HB3 := Aside0.mk (HBA2.out.drew.trans hb3)
                have hw3 : w.heap.size < W3.heap.size := by rw [hs3]; show _ < W2.heap.size; omega
                have HZ := Lib.hid (show sixL s.data.toList = some (q.take k ++ List.replicate (8 - q.length) 0 ++ q.drop k) by rw [HFILL.out, fillL, if_neg (by omega), if_pos h8]; simp)
                have hz8 : (q.take k ++ List.replicate (8 - q.length) 0 ++ q.drop k).length = 8 := by simp; omega
                have hzb : ∀ y ∈ (q.take k ++ List.replicate (8 - q.length) 0 ++ q.drop k), 0 ≤ y ∧ y ≤ 65535 := fill_bd q k hqb.out
                clear ho3 hs3 hb3 hcap hq8 x1 x2 hw1 hw2
                generalize (q.take k ++ List.replicate (8 - q.length) 0 ++ q.drop k) = zs at hg3 HZ hz8 hzb
                obtain ⟨y0, y1, y2, y3, y4, y5, y6, y7, rfl⟩ := list8 zs hz8
                have HFIN := Lib.hid (HSS.out _ HZ.out)
                have n0 := hzb y0 (by simp)
                have n1 := hzb y1 (by simp)
                have n2 := hzb y2 (by simp)
                have n3 := hzb y3 (by simp)
                have n4 := hzb y4 (by simp)
                have n5 := hzb y5 (by simp)
                have n6 := hzb y6 (by simp)
                have n7 := hzb y7 (by simp)
                have k0 : W3.cell? ⟨g, 0, none⟩ = some (.int .u16 y0) := (heap_cell (j := 0) hg3 rfl).1
                have k1 : W3.cell? ⟨g, 1, none⟩ = some (.int .u16 y1) := (heap_cell (j := 1) hg3 rfl).1
                have k2 : W3.cell? ⟨g, 2, none⟩ = some (.int .u16 y2) := (heap_cell (j := 2) hg3 rfl).1
                have k3 : W3.cell? ⟨g, 3, none⟩ = some (.int .u16 y3) := (heap_cell (j := 3) hg3 rfl).1
                have k4 : W3.cell? ⟨g, 4, none⟩ = some (.int .u16 y4) := (heap_cell (j := 4) hg3 rfl).1
                have k5 : W3.cell? ⟨g, 5, none⟩ = some (.int .u16 y5) := (heap_cell (j := 5) hg3 rfl).1
                have k6 : W3.cell? ⟨g, 6, none⟩ = some (.int .u16 y6) := (heap_cell (j := 6) hg3 rfl).1
                have k7 : W3.cell? ⟨g, 7, none⟩ = some (.int .u16 y7) := (heap_cell (j := 7) hg3 rfl).1
                clear hg3 hzb hz8 HZ
                go_wp2_with fail
                refine (of_calls y0 y1 y2 y3 y4 y5 y6 y7 n0 n1 n2 n3 n4 n5 n6 n7 _).mono ?_
                rintro e w4 ⟨rfl, b4⟩
                have hr4 := (b4.block w.heap.size hw3).trans HR3.out
                have HB4 := Aside0.mk (below_then HB3.out HB3.out.size b4)
                obtain ⟨r0, g0⟩ := heap_cell (j := 0) hr4 rfl
                obtain ⟨r1, g1⟩ := heap_cell (j := 1) hr4 rfl
                have HR4 := Aside0.mk hr4
                clear hr4 b4
                go_wp2_with fail
                refine bodyPost_ret (results_cell_bool rfl _ _ w.heap.size 25 #[.int .u64 (half [y0, y1, y2, y3]), .int .u64 (half [y4, y5, y6, y7])] (0, 0) _ rfl (heap_set1 _ (heap_set0 _ HR4.out)) Tryz.underlying25 rfl (by kernel_rfl)) rfl ?_
                exact ⟨ret_six HFIN.out.1.symm HFIN.out.2.1.symm HFIN.out.2.2.symm, (HB4.out.setCell (Nat.le_refl _) _).setCell (Nat.le_refl _) _⟩
              · obtain rfl : k = q.length := by omega
                obtain rfl : o = 8 := by omega
                rcases A with _ | ad
                · clear ho
                  go_still_tail 13, (by kernel_rfl)
                  change wpList _ _ _ _ _ W2.drew
                  obtain ⟨W3, hcp2, hg3, ho3, hs3, hb3⟩ := copyAt W2.drew w.heap.size g (by omega) none (c - q.length) ((List.replicate 8 0).take 0 ++ q.take q.length ++ (List.replicate 8 0).drop (0 + q.length)) [] 0 0 0 (some ⟨g, 0, none⟩) HG2.out (by simp) (by simp) (fun _ => rfl) (fun h => absurd h (by simp))
                  rw [show ([] : List Int).length = 0 from rfl] at hcp2
                  rw [fill_eq0 q] at hg3
                  have HR3 := Aside0.mk ((ho3 w.heap.size (by omega)).trans HRr2.out)
                  have HB3 := Aside0.mk (HBA2.out.drew.trans hb3)
                  have hw3 : w.heap.size < W3.heap.size := by rw [hs3]; show _ < W2.heap.size; omega
                  have HZ := Lib.hid (show sixL s.data.toList = some (q.take q.length ++ List.replicate (8 - q.length) 0 ++ q.drop q.length) by rw [HFILL.out, fillL, if_neg (by omega), if_pos h8]; simp)
                  have hz8 : (q.take q.length ++ List.replicate (8 - q.length) 0 ++ q.drop q.length).length = 8 := by simp; omega
                  have hzb : ∀ y ∈ (q.take q.length ++ List.replicate (8 - q.length) 0 ++ q.drop q.length), 0 ≤ y ∧ y ≤ 65535 := fill_bd q q.length hqb.out
                  clear ho3 hs3 hb3 hcap hq8 x1 x2 hw1 hw2
                  generalize (q.take q.length ++ List.replicate (8 - q.length) 0 ++ q.drop q.length) = zs at hg3 HZ hz8 hzb
                  obtain ⟨y0, y1, y2, y3, y4, y5, y6, y7, rfl⟩ := list8 zs hz8
                  have HFIN := Lib.hid (HSS.out _ HZ.out)
                  have n0 := hzb y0 (by simp)
                  have n1 := hzb y1 (by simp)
                  have n2 := hzb y2 (by simp)
                  have n3 := hzb y3 (by simp)
                  have n4 := hzb y4 (by simp)
                  have n5 := hzb y5 (by simp)
                  have n6 := hzb y6 (by simp)
                  have n7 := hzb y7 (by simp)
                  have k0 : W3.cell? ⟨g, 0, none⟩ = some (.int .u16 y0) := (heap_cell (j := 0) hg3 rfl).1
                  have k1 : W3.cell? ⟨g, 1, none⟩ = some (.int .u16 y1) := (heap_cell (j := 1) hg3 rfl).1
                  have k2 : W3.cell? ⟨g, 2, none⟩ = some (.int .u16 y2) := (heap_cell (j := 2) hg3 rfl).1
                  have k3 : W3.cell? ⟨g, 3, none⟩ = some (.int .u16 y3) := (heap_cell (j := 3) hg3 rfl).1
                  have k4 : W3.cell? ⟨g, 4, none⟩ = some (.int .u16 y4) := (heap_cell (j := 4) hg3 rfl).1
                  have k5 : W3.cell? ⟨g, 5, none⟩ = some (.int .u16 y5) := (heap_cell (j := 5) hg3 rfl).1
                  have k6 : W3.cell? ⟨g, 6, none⟩ = some (.int .u16 y6) := (heap_cell (j := 6) hg3 rfl).1
                  have k7 : W3.cell? ⟨g, 7, none⟩ = some (.int .u16 y7) := (heap_cell (j := 7) hg3 rfl).1
                  clear hg3 hzb hz8 HZ
                  go_wp2_with fail
                  refine (of_calls y0 y1 y2 y3 y4 y5 y6 y7 n0 n1 n2 n3 n4 n5 n6 n7 _).mono ?_
                  rintro e w4 ⟨rfl, b4⟩
                  have hr4 := (b4.block w.heap.size hw3).trans HR3.out
                  have HB4 := Aside0.mk (below_then HB3.out HB3.out.size b4)
                  obtain ⟨r0, g0⟩ := heap_cell (j := 0) hr4 rfl
                  obtain ⟨r1, g1⟩ := heap_cell (j := 1) hr4 rfl
                  have HR4 := Aside0.mk hr4
                  clear hr4 b4
                  go_wp2_with fail
                  refine bodyPost_ret (results_cell_bool rfl _ _ w.heap.size 25 #[.int .u64 (half [y0, y1, y2, y3]), .int .u64 (half [y4, y5, y6, y7])] (0, 0) _ rfl (heap_set1 _ (heap_set0 _ HR4.out)) Tryz.underlying25 rfl (by kernel_rfl)) rfl ?_
                  exact ⟨ret_six HFIN.out.1.symm HFIN.out.2.1.symm HFIN.out.2.2.symm, (HB4.out.setCell (Nat.le_refl _) _).setCell (Nat.le_refl _) _⟩
                · clear ho
                  by_cases hcc : c = q.length
                  · go_still_tail 13, (by kernel_rfl)
                    change wpList _ _ _ _ _ W2.drew
                    obtain ⟨W3, hcp2, hg3, ho3, hs3, hb3⟩ := copyAt W2.drew w.heap.size g (by omega) (some ad) (0) ((List.replicate 8 0).take 0 ++ q.take q.length ++ (List.replicate 8 0).drop (0 + q.length)) [] 0 0 0 (some ⟨g, 0, none⟩) HG2.out (by simp) (by simp) (fun _ => rfl) (fun h => absurd h (by simp))
                    rw [show ([] : List Int).length = 0 from rfl] at hcp2
                    rw [fill_eq0 q] at hg3
                    have HR3 := Aside0.mk ((ho3 w.heap.size (by omega)).trans HRr2.out)
                    have HB3 := Aside0.mk (HBA2.out.drew.trans hb3)
                    have hw3 : w.heap.size < W3.heap.size := by rw [hs3]; show _ < W2.heap.size; omega
                    have HZ := Lib.hid (show sixL s.data.toList = some (q.take q.length ++ List.replicate (8 - q.length) 0 ++ q.drop q.length) by rw [HFILL.out, fillL, if_neg (by omega), if_pos h8]; simp)
                    have hz8 : (q.take q.length ++ List.replicate (8 - q.length) 0 ++ q.drop q.length).length = 8 := by simp; omega
                    have hzb : ∀ y ∈ (q.take q.length ++ List.replicate (8 - q.length) 0 ++ q.drop q.length), 0 ≤ y ∧ y ≤ 65535 := fill_bd q q.length hqb.out
                    clear ho3 hs3 hb3 hcap hq8 x1 x2 hw1 hw2
                    generalize (q.take q.length ++ List.replicate (8 - q.length) 0 ++ q.drop q.length) = zs at hg3 HZ hz8 hzb
                    obtain ⟨y0, y1, y2, y3, y4, y5, y6, y7, rfl⟩ := list8 zs hz8
                    have HFIN := Lib.hid (HSS.out _ HZ.out)
                    have n0 := hzb y0 (by simp)
                    have n1 := hzb y1 (by simp)
                    have n2 := hzb y2 (by simp)
                    have n3 := hzb y3 (by simp)
                    have n4 := hzb y4 (by simp)
                    have n5 := hzb y5 (by simp)
                    have n6 := hzb y6 (by simp)
                    have n7 := hzb y7 (by simp)
                    have k0 : W3.cell? ⟨g, 0, none⟩ = some (.int .u16 y0) := (heap_cell (j := 0) hg3 rfl).1
                    have k1 : W3.cell? ⟨g, 1, none⟩ = some (.int .u16 y1) := (heap_cell (j := 1) hg3 rfl).1
                    have k2 : W3.cell? ⟨g, 2, none⟩ = some (.int .u16 y2) := (heap_cell (j := 2) hg3 rfl).1
                    have k3 : W3.cell? ⟨g, 3, none⟩ = some (.int .u16 y3) := (heap_cell (j := 3) hg3 rfl).1
                    have k4 : W3.cell? ⟨g, 4, none⟩ = some (.int .u16 y4) := (heap_cell (j := 4) hg3 rfl).1
                    have k5 : W3.cell? ⟨g, 5, none⟩ = some (.int .u16 y5) := (heap_cell (j := 5) hg3 rfl).1
                    have k6 : W3.cell? ⟨g, 6, none⟩ = some (.int .u16 y6) := (heap_cell (j := 6) hg3 rfl).1
                    have k7 : W3.cell? ⟨g, 7, none⟩ = some (.int .u16 y7) := (heap_cell (j := 7) hg3 rfl).1
                    clear hg3 hzb hz8 HZ
                    go_wp2_with fail
                    refine (of_calls y0 y1 y2 y3 y4 y5 y6 y7 n0 n1 n2 n3 n4 n5 n6 n7 _).mono ?_
                    rintro e w4 ⟨rfl, b4⟩
                    have hr4 := (b4.block w.heap.size hw3).trans HR3.out
                    have HB4 := Aside0.mk (below_then HB3.out HB3.out.size b4)
                    obtain ⟨r0, g0⟩ := heap_cell (j := 0) hr4 rfl
                    obtain ⟨r1, g1⟩ := heap_cell (j := 1) hr4 rfl
                    have HR4 := Aside0.mk hr4
                    clear hr4 b4
                    go_wp2_with fail
                    refine bodyPost_ret (results_cell_bool rfl _ _ w.heap.size 25 #[.int .u64 (half [y0, y1, y2, y3]), .int .u64 (half [y4, y5, y6, y7])] (0, 0) _ rfl (heap_set1 _ (heap_set0 _ HR4.out)) Tryz.underlying25 rfl (by kernel_rfl)) rfl ?_
                    exact ⟨ret_six HFIN.out.1.symm HFIN.out.2.1.symm HFIN.out.2.2.symm, (HB4.out.setCell (Nat.le_refl _) _).setCell (Nat.le_refl _) _⟩
                  · go_still_tail 13, (by kernel_rfl)
                    change wpList _ _ _ _ _ W2.drew
                    obtain ⟨W3, hcp2, hg3, ho3, hs3, hb3⟩ := copyAt W2.drew w.heap.size g (by omega) (some (ad.add q.length)) (c - q.length) ((List.replicate 8 0).take 0 ++ q.take q.length ++ (List.replicate 8 0).drop (0 + q.length)) [] 0 0 0 (some ⟨g, 0, none⟩) HG2.out (by simp) (by simp) (fun _ => rfl) (fun h => absurd h (by simp))
                    rw [show ([] : List Int).length = 0 from rfl] at hcp2
                    rw [fill_eq0 q] at hg3
                    have HR3 := Aside0.mk ((ho3 w.heap.size (by omega)).trans HRr2.out)
                    have HB3 := Aside0.mk (HBA2.out.drew.trans hb3)
                    have hw3 : w.heap.size < W3.heap.size := by rw [hs3]; show _ < W2.heap.size; omega
                    have HZ := Lib.hid (show sixL s.data.toList = some (q.take q.length ++ List.replicate (8 - q.length) 0 ++ q.drop q.length) by rw [HFILL.out, fillL, if_neg (by omega), if_pos h8]; simp)
                    have hz8 : (q.take q.length ++ List.replicate (8 - q.length) 0 ++ q.drop q.length).length = 8 := by simp; omega
                    have hzb : ∀ y ∈ (q.take q.length ++ List.replicate (8 - q.length) 0 ++ q.drop q.length), 0 ≤ y ∧ y ≤ 65535 := fill_bd q q.length hqb.out
                    clear ho3 hs3 hb3 hcap hq8 x1 x2 hw1 hw2
                    generalize (q.take q.length ++ List.replicate (8 - q.length) 0 ++ q.drop q.length) = zs at hg3 HZ hz8 hzb
                    obtain ⟨y0, y1, y2, y3, y4, y5, y6, y7, rfl⟩ := list8 zs hz8
                    have HFIN := Lib.hid (HSS.out _ HZ.out)
                    have n0 := hzb y0 (by simp)
                    have n1 := hzb y1 (by simp)
                    have n2 := hzb y2 (by simp)
                    have n3 := hzb y3 (by simp)
                    have n4 := hzb y4 (by simp)
                    have n5 := hzb y5 (by simp)
                    have n6 := hzb y6 (by simp)
                    have n7 := hzb y7 (by simp)
                    have k0 : W3.cell? ⟨g, 0, none⟩ = some (.int .u16 y0) := (heap_cell (j := 0) hg3 rfl).1
                    have k1 : W3.cell? ⟨g, 1, none⟩ = some (.int .u16 y1) := (heap_cell (j := 1) hg3 rfl).1
                    have k2 : W3.cell? ⟨g, 2, none⟩ = some (.int .u16 y2) := (heap_cell (j := 2) hg3 rfl).1
                    have k3 : W3.cell? ⟨g, 3, none⟩ = some (.int .u16 y3) := (heap_cell (j := 3) hg3 rfl).1
                    have k4 : W3.cell? ⟨g, 4, none⟩ = some (.int .u16 y4) := (heap_cell (j := 4) hg3 rfl).1
                    have k5 : W3.cell? ⟨g, 5, none⟩ = some (.int .u16 y5) := (heap_cell (j := 5) hg3 rfl).1
                    have k6 : W3.cell? ⟨g, 6, none⟩ = some (.int .u16 y6) := (heap_cell (j := 6) hg3 rfl).1
                    have k7 : W3.cell? ⟨g, 7, none⟩ = some (.int .u16 y7) := (heap_cell (j := 7) hg3 rfl).1
                    clear hg3 hzb hz8 HZ
                    go_wp2_with fail
                    refine (of_calls y0 y1 y2 y3 y4 y5 y6 y7 n0 n1 n2 n3 n4 n5 n6 n7 _).mono ?_
                    rintro e w4 ⟨rfl, b4⟩
                    have hr4 := (b4.block w.heap.size hw3).trans HR3.out
                    have HB4 := Aside0.mk (below_then HB3.out HB3.out.size b4)
                    obtain ⟨r0, g0⟩ := heap_cell (j := 0) hr4 rfl
                    obtain ⟨r1, g1⟩ := heap_cell (j := 1) hr4 rfl
                    have HR4 := Aside0.mk hr4
                    clear hr4 b4
                    go_wp2_with fail
                    refine bodyPost_ret (results_cell_bool rfl _ _ w.heap.size 25 #[.int .u64 (half [y0, y1, y2, y3]), .int .u64 (half [y4, y5, y6, y7])] (0, 0) _ rfl (heap_set1 _ (heap_set0 _ HR4.out)) Tryz.underlying25 rfl (by kernel_rfl)) rfl ?_
                    exact ⟨ret_six HFIN.out.1.symm HFIN.out.2.1.symm HFIN.out.2.2.symm, (HB4.out.setCell (Nat.le_refl _) _).setCell (Nat.le_refl _) _⟩
  · obtain ⟨r, hr⟩ : ∃ r : ByteArray, r = s := ⟨_, rfl⟩
    have hrd : r.data.toList = s.data.toList := by rw [hr]
    have hrz : r.size ≤ 900000 := by rw [hr]; exact hs
    have HST := Lib.hid (show sixL s.data.toList = match runL (r.data.toList.length + 1) r.data.toList [] (-1) false with
      | none => none
      | some (p, gap) => fillL p gap by rw [sixL, startL, if_neg (by rw [hp1]; decide), hrd] <;> rfl)
    have H1 := Lib.hid hp1
    clear hp1 hlen hrd
    go_enter Tryz.func15, Tryz.ntmps15
    go_wp2_with fail
    refine (Tryz.strings_HasPrefix _ _ _).mono ?_
    rintro e w1 ⟨rfl, rfl⟩
    rw [show (ByteArray.mk #[58]).data.toList = [58] from rfl, H1.out]
    have HRE := Lib.hid hr
    clear hr
    go_wp2_with fail
    have hr := HRE.out
    clear HRE
    obtain ⟨W0, hW0⟩ : ∃ W0, W0 = (w.alloc (.cells #[.int .u64 0, .int .u64 0] 25)).alloc (.cells #[.string s, .slice none 0 0, .int .i64 (-1), .bool false] 96) := ⟨_, rfl⟩
    rw [← hW0]
    rw [← hr] at hW0
    clear hr
    have hw0 : W0.heap[w.heap.size]? = some (.cells #[.int .u64 0, .int .u64 0] 25 (0, 0)) := by
      rw [hW0, heap_alloc_old' _ _ _ (by simp)]
      exact heap_alloc_new' _ _ _ rfl
    have hw1 : Holds W0 (w.heap.size + 1) (w.heap.size + 1) r [] (-1) false := ⟨_, by rw [hW0]; exact heap_alloc_new' _ _ _ (by simp), Kd.R_nil _ _ _ _ _⟩
    have hw2 : Below w.heap.size w W0 := by rw [hW0]; exact BEL0.out _ _
    have HW0 := Aside0.mk hw0
    have HW1 := Aside0.mk hw1
    have HW2 := Aside0.mk hw2
    clear hW0 hw0 hw1 hw2
    go_loopw [] (fun wr => ∃ (n : Nat) (rest : ByteArray) (q : List Int) (gap : Int) (ended : Bool), rest.size ≤ 900000 ∧ q.length ≤ 8 ∧ -1 ≤ gap ∧ gap ≤ q.length ∧ rest.size + (if ended = true then 0 else 1) ≤ n ∧ Aside0 (∀ x ∈ q, 0 ≤ x ∧ x ≤ 65535) ∧ Aside0 (runL n rest.data.toList q gap ended = runL (r.data.toList.length + 1) r.data.toList [] (-1) false) ∧ Aside0 (Holds wr (w.heap.size + 1) (w.heap.size + 1) rest q gap ended) ∧ Aside0 (wr.heap[w.heap.size]? = some (.cells #[.int .u64 0, .int .u64 0] 25 (0, 0))) ∧ Aside0 (Below w.heap.size w wr)) (fun wr => restM wr (w.heap.size + 1))
    case atStart => exact ⟨r.data.toList.length + 1, r, [], -1, false, hrz, by simp, by omega, by simp, by simp, ⟨by simp⟩, ⟨rfl⟩, HW1, HW0, HW2⟩
    case round =>
      obtain ⟨n, rest, q, gap, ended, hrs, hq8, hg0, hg1, hn, hqb, hrun, hH, hr0, hbw⟩ := hrel
      have HM0 := Lib.hid (restM_of hH.out)
      obtain ⟨v, hh, hR⟩ := hH.out
      obtain ⟨A, c, rfl, hcap, hC⟩ := Kd.R_reads hR
      obtain ⟨c0, f0⟩ := heap_cell (j := 0) hh rfl
      obtain ⟨c1, f1⟩ := heap_cell (j := 1) hh rfl
      obtain ⟨c2, f2⟩ := heap_cell (j := 2) hh rfl
      obtain ⟨c3, f3⟩ := heap_cell (j := 3) hh rfl
      have hbl := cell_lt c0
      have HHH := Aside0.mk hh
      have HC := Aside0.mk hC
      clear hh hR hC
      cases ended
      · obtain ⟨m, rfl⟩ : ∃ m, n = m + 1 := ⟨n - 1, by simp at hn; omega⟩
        have hm : rest.size ≤ m := by simp at hn; omega
        clear hn
        go_wp2_with fail
        refine (step_calls (w.heap.size + 1) (w.heap.size + 1) (Nat.le_refl _) rest q gap false _ hrs (by omega) hg0 (by omega) hH.out ⟨hE.out.stays hbw.out⟩ ⟨hM.out.stays hbw.out⟩).mono ?_
        rintro e w2 ⟨b2, ⟨hst, rfl⟩ | ⟨rest', q', gap', ended', hst, rfl, hH2⟩⟩
        · have hr2 := (b2.block w.heap.size (Nat.lt_succ_self _)).trans hr0.out
          have HF := Lib.hid (HSN.out (by rw [HST.out, ← hrun.out, run_step, hst]))
          have HB2 := Aside0.mk (hbw.out.trans (b2.mono (Nat.le_succ _)))
          obtain ⟨r0, g0⟩ := heap_cell (j := 0) hr2 rfl
          obtain ⟨r1, g1⟩ := heap_cell (j := 1) hr2 rfl
          have HR2 := Aside0.mk hr2
          clear c0 f0 c1 f1 c2 f2 c3 f3 hst b2 hr2
          go_wp2_with fail
          refine bodyPost_ret (results_cell_bool rfl _ _ w.heap.size 25 #[.int .u64 0, .int .u64 0] (0, 0) _ rfl (heap_set1 _ (heap_set0 _ HR2.out)) Tryz.underlying25 rfl (by kernel_rfl)) rfl ?_
          exact ⟨ret_six HF.out.1.symm HF.out.2.1.symm HF.out.2.2.symm, (HB2.out.setCell (Nat.le_refl _) _).setCell (Nat.le_refl _) _⟩
        · have hr2 := (b2.block w.heap.size (Nat.lt_succ_self _)).trans hr0.out
          have HB2 := Aside0.mk (hbw.out.trans (b2.mono (Nat.le_succ _)))
          have hinv := step_inv _ _ _ _ _ _ _ hst hqb.out ⟨hg0, hg1⟩
          obtain ⟨i1, i2, i3, i4, i5⟩ := hinv
          have HI1 := Aside0.mk i1
          have hl' : rest'.data.toList.length = rest'.size := by simp
          have hl0 : rest.data.toList.length = rest.size := by simp
          rw [hl', hl0] at i4 i5
          have HM2 := Lib.hid (restM_of hH2)
          have hH2' := hH2
          obtain ⟨v2, hh2, hR2⟩ := hH2'
          obtain ⟨A2, e2, rfl, hcap2, _⟩ := Kd.R_reads hR2
          obtain ⟨d1, k1⟩ := heap_cell (j := 1) hh2 rfl
          have HH2 := Aside0.mk hH2
          have HRUN := Lib.hid (show runL (m + 1) rest.data.toList q gap false = if 8 < q'.length then none else runL m rest'.data.toList q' gap' ended' by rw [run_step, hst])
          obtain ⟨r0, g0⟩ := heap_cell (j := 0) hr2 rfl
          obtain ⟨r1, g1⟩ := heap_cell (j := 1) hr2 rfl
          have HR2 := Aside0.mk hr2
          have hdec : rest'.size + (if ended' = true then 0 else 1) < rest.size + 1 := by
            cases ended'
            · have := i5 rfl
              simp
              omega
            · simp
              omega
          have HDEC := Aside0.mk hdec
          clear c0 f0 c1 f1 c2 f2 c3 f3 hst b2 hr2 hh2 hR2 hH2 i1 i5 hl' hl0 hdec
          by_cases h8 : 8 < q'.length
          · have HF := Lib.hid (HSN.out (by rw [HST.out, ← hrun.out, HRUN.out, if_pos h8]))
            go_wp2_with fail
            refine bodyPost_ret (results_cell_bool rfl _ _ w.heap.size 25 #[.int .u64 0, .int .u64 0] (0, 0) _ rfl (heap_set1 _ (heap_set0 _ HR2.out)) Tryz.underlying25 rfl (by kernel_rfl)) rfl ?_
            exact ⟨ret_six HF.out.1.symm HF.out.2.1.symm HF.out.2.2.symm, (HB2.out.setCell (Nat.le_refl _) _).setCell (Nat.le_refl _) _⟩
          · have HRUN2 := Aside0.mk (show runL m rest'.data.toList q' gap' ended' = runL (r.data.toList.length + 1) r.data.toList [] (-1) false by rw [← hrun.out, HRUN.out, if_neg h8])
            go_wp2_with fail
            go_roundw
            case rel => exact ⟨m, rest', q', gap', ended', by omega, by omega, i2.1, i2.2, by have := HDEC.out; omega, HI1, HRUN2, HH2, HR2, HB2⟩
            case measure =>
              rw [HM2.out, HM0.out]
              have := HDEC.out
              simp
              omega
      · have HFILL := Lib.hid (show sixL s.data.toList = fillL q gap by rw [HST.out, ← hrun.out, run_end])
        by_cases hgn : gap < 0
        · by_cases h8 : q.length = 8
          · clear c0 f0
            go_wp2_with fail
            obtain ⟨W1, hW1⟩ : ∃ W1, W1 = wr.alloc (.cells #[.int .u16 0, .int .u16 0, .int .u16 0, .int .u16 0, .int .u16 0, .int .u16 0, .int .u16 0, .int .u16 0] 32) := ⟨_, rfl⟩
            rw [← hW1]
            have hP : W1.heap[wr.heap.size]? = some (.cells (u16s (List.replicate 8 0)).toArray 32 (0, 0)) := by rw [hW1]; exact heap_alloc_new' _ _ _ rfl
            have hbA : Below wr.heap.size wr W1 := by rw [hW1]; exact (Below.refl _ _).alloc (Nat.le_refl _) _
            have hRr : W1.heap[w.heap.size]? = some (.cells #[.int .u64 0, .int .u64 0] 25 (0, 0)) := (hbA.block _ (by omega)).trans hr0.out
            have hRd := (hbA.block _ hbl).trans HHH.out
            have hCq := Kd.C_below HC.out hbA
            have hsz : W1.heap.size = wr.heap.size + 1 := by rw [hW1]; simp
            have HBA := Aside0.mk (hbw.out.trans (hbA.mono hbw.out.size))
            obtain ⟨e1, _⟩ := heap_cell (j := 1) hRd rfl
            obtain ⟨e2, _⟩ := heap_cell (j := 2) hRd rfl
            have HP := Aside0.mk hP
            have HRr := Aside0.mk hRr
            have HCq := Aside0.mk hCq
            have hPw : w.heap.size + 1 < wr.heap.size := hbl
            have hsz' : wr.heap.size < W1.heap.size := by omega
            clear hW1 hP hbA hRr hRd hCq hsz c1 f1 c2 f2 c3 f3
            generalize wr.heap.size = g at *
            go_still_tail 3, (by kernel_rfl)
            change wpList _ _ _ _ _ W1.drew
            have hsrc : 0 < q.length → ∃ ad, A = some ad ∧ ∀ j v, (u16s q)[j]? = some v → W1.drew.cell? (ad.add j) = some v := fun h => C_u16 HCq.out h
            obtain ⟨W3, hcp, hg3, ho3, hs3, hb3⟩ := copyAt W1.drew w.heap.size g (by omega) A c (List.replicate 8 0) q 0 8 8 (some ⟨g, 0, none⟩) HP.out (by simp; omega) (by omega) (fun _ => rfl) hsrc
            rw [show (List.replicate 8 (0 : Int)).take 0 ++ q ++ (List.replicate 8 (0 : Int)).drop (0 + q.length) = q by simp [h8]] at hg3
            rw [h8] at hcp
            have HR3 := Aside0.mk ((ho3 w.heap.size (by omega)).trans HRr.out)
            have HB3 := Aside0.mk (HBA.out.drew.trans hb3)
            have hw3 : w.heap.size < W3.heap.size := by rw [hs3]; show _ < W1.heap.size; omega
            have HZ := Lib.hid (show sixL s.data.toList = some q by rw [HFILL.out, fillL, if_pos hgn, if_pos h8])
            have hz8 := h8
            have hzb := hqb.out
            clear hsrc ho3 hs3 hb3 h8 hcap hq8
            clear e1 e2
            obtain ⟨zs, hzs⟩ : ∃ zs, zs = q := ⟨_, rfl⟩
            rw [← hzs] at hg3 HZ hz8 hzb
            clear hzs
            obtain ⟨y0, y1, y2, y3, y4, y5, y6, y7, rfl⟩ := list8 zs hz8
            have HFIN := Lib.hid (HSS.out _ HZ.out)
            have n0 := hzb y0 (by simp)
            have n1 := hzb y1 (by simp)
            have n2 := hzb y2 (by simp)
            have n3 := hzb y3 (by simp)
            have n4 := hzb y4 (by simp)
            have n5 := hzb y5 (by simp)
            have n6 := hzb y6 (by simp)
            have n7 := hzb y7 (by simp)
            have k0 : W3.cell? ⟨g, 0, none⟩ = some (.int .u16 y0) := (heap_cell (j := 0) hg3 rfl).1
            have k1 : W3.cell? ⟨g, 1, none⟩ = some (.int .u16 y1) := (heap_cell (j := 1) hg3 rfl).1
            have k2 : W3.cell? ⟨g, 2, none⟩ = some (.int .u16 y2) := (heap_cell (j := 2) hg3 rfl).1
            have k3 : W3.cell? ⟨g, 3, none⟩ = some (.int .u16 y3) := (heap_cell (j := 3) hg3 rfl).1
            have k4 : W3.cell? ⟨g, 4, none⟩ = some (.int .u16 y4) := (heap_cell (j := 4) hg3 rfl).1
            have k5 : W3.cell? ⟨g, 5, none⟩ = some (.int .u16 y5) := (heap_cell (j := 5) hg3 rfl).1
            have k6 : W3.cell? ⟨g, 6, none⟩ = some (.int .u16 y6) := (heap_cell (j := 6) hg3 rfl).1
            have k7 : W3.cell? ⟨g, 7, none⟩ = some (.int .u16 y7) := (heap_cell (j := 7) hg3 rfl).1
            clear hg3 hzb hz8 HZ
            go_wp2_with fail
            refine (of_calls y0 y1 y2 y3 y4 y5 y6 y7 n0 n1 n2 n3 n4 n5 n6 n7 _).mono ?_
            rintro e w4 ⟨rfl, b4⟩
            have hr4 := (b4.block w.heap.size hw3).trans HR3.out
            have HB4 := Aside0.mk (below_then HB3.out HB3.out.size b4)
            obtain ⟨r0, g0⟩ := heap_cell (j := 0) hr4 rfl
            obtain ⟨r1, g1⟩ := heap_cell (j := 1) hr4 rfl
            have HR4 := Aside0.mk hr4
            clear hr4 b4
            go_wp2_with fail
            refine bodyPost_ret (results_cell_bool rfl _ _ w.heap.size 25 #[.int .u64 (half [y0, y1, y2, y3]), .int .u64 (half [y4, y5, y6, y7])] (0, 0) _ rfl (heap_set1 _ (heap_set0 _ HR4.out)) Tryz.underlying25 rfl (by kernel_rfl)) rfl ?_
            exact ⟨ret_six HFIN.out.1.symm HFIN.out.2.1.symm HFIN.out.2.2.symm, (HB4.out.setCell (Nat.le_refl _) _).setCell (Nat.le_refl _) _⟩
          · have HF := Lib.hid (HSN.out (by rw [HFILL.out, fillL, if_pos hgn, if_neg h8]))
            obtain ⟨r0, g0⟩ := heap_cell (j := 0) hr0.out rfl
            obtain ⟨r1, g1⟩ := heap_cell (j := 1) hr0.out rfl
            go_wp2_with fail
            refine bodyPost_ret (results_cell_bool rfl _ _ w.heap.size 25 #[.int .u64 0, .int .u64 0] (0, 0) _ rfl (heap_set1 _ (heap_set0 _ hr0.out)) Tryz.underlying25 rfl (by kernel_rfl)) rfl ?_
            exact ⟨ret_six HF.out.1.symm HF.out.2.1.symm HF.out.2.2.symm, (hbw.out.setCell (Nat.le_refl _) _).setCell (Nat.le_refl _) _⟩
        · by_cases h8 : q.length < 8
          rotate_left
          · have HF := Lib.hid (HSN.out (by rw [HFILL.out, fillL, if_neg hgn, if_neg h8]))
            obtain ⟨r0, g0⟩ := heap_cell (j := 0) hr0.out rfl
            obtain ⟨r1, g1⟩ := heap_cell (j := 1) hr0.out rfl
            go_wp2_with fail
            refine bodyPost_ret (results_cell_bool rfl _ _ w.heap.size 25 #[.int .u64 0, .int .u64 0] (0, 0) _ rfl (heap_set1 _ (heap_set0 _ hr0.out)) Tryz.underlying25 rfl (by kernel_rfl)) rfl ?_
            exact ⟨ret_six HF.out.1.symm HF.out.2.1.symm HF.out.2.2.symm, (hbw.out.setCell (Nat.le_refl _) _).setCell (Nat.le_refl _) _⟩
          · obtain ⟨k, rfl⟩ : ∃ k : Nat, gap = k := ⟨gap.toNat, by omega⟩
            have hkq : k ≤ q.length := by omega
            have hlt8 : q.length < 8 := by omega
            clear c0 f0
            go_wp2_with fail
            obtain ⟨W1, hW1⟩ : ∃ W1, W1 = wr.alloc (.cells #[.int .u16 0, .int .u16 0, .int .u16 0, .int .u16 0, .int .u16 0, .int .u16 0, .int .u16 0, .int .u16 0] 32) := ⟨_, rfl⟩
            rw [← hW1]
            have hP : W1.heap[wr.heap.size]? = some (.cells (u16s (List.replicate 8 0)).toArray 32 (0, 0)) := by rw [hW1]; exact heap_alloc_new' _ _ _ rfl
            have hbA : Below wr.heap.size wr W1 := by rw [hW1]; exact (Below.refl _ _).alloc (Nat.le_refl _) _
            have hRr : W1.heap[w.heap.size]? = some (.cells #[.int .u64 0, .int .u64 0] 25 (0, 0)) := (hbA.block _ (by omega)).trans hr0.out
            have hRd := (hbA.block _ hbl).trans HHH.out
            have hCq := Kd.C_below HC.out hbA
            have hsz : W1.heap.size = wr.heap.size + 1 := by rw [hW1]; simp
            have HBA := Aside0.mk (hbw.out.trans (hbA.mono hbw.out.size))
            obtain ⟨e1, _⟩ := heap_cell (j := 1) hRd rfl
            obtain ⟨e2, _⟩ := heap_cell (j := 2) hRd rfl
            have HLT : Aside0 (∀ (ad : Addr) (j : Nat) (v : Value), A = some ad → (u16s q)[j]? = some v → (ad.add j).block < wr.heap.size) := ⟨fun ad j v e hv => by
              have hl := (List.getElem?_eq_some_iff.1 hv).1
              rw [u16s_length] at hl
              obtain ⟨ad', e', hc⟩ := C_u16 HC.out (by omega)
              obtain rfl := Option.some.inj (e.symm.trans e')
              exact cell_lt (hc j v hv)⟩
            have HP := Aside0.mk hP
            have HRr := Aside0.mk hRr
            have HRd := Aside0.mk hRd
            have HCq := Aside0.mk hCq
            have hPw : w.heap.size + 1 < wr.heap.size := hbl
            have hsz' : wr.heap.size < W1.heap.size := by omega
            clear hW1 hP hbA hRr hRd hCq hsz c1 f1 c2 f2 c3 f3
            generalize wr.heap.size = g at *
            go_wp2_with fail
            have hk0 : (0 : Int) ≤ (k : Int) := by omega
            have hkc : (k : Int) ≤ (c : Int) := by omega
            go_still_tail 6, (by kernel_rfl)
            change wpList _ _ _ _ _ W1.drew
            have hsrc : 0 < (q.take k).length → ∃ ad, A = some ad ∧ ∀ j v, (u16s (q.take k))[j]? = some v → W1.drew.cell? (ad.add j) = some v := fun h => by
              obtain ⟨ad, e, hc⟩ := C_u16 HCq.out (by rw [List.length_take] at h; omega)
              refine ⟨ad, e, fun j v hv => hc j v ?_⟩
              rw [u16s, List.map_take, List.getElem?_take] at hv
              split at hv
              · exact hv
              · cases hv
            have hlk : (q.take k).length = k := by rw [List.length_take]; omega
            obtain ⟨W2, hcp, hg2, ho2, hs2, hb2⟩ := copyAt W1.drew w.heap.size g (by omega) A c (List.replicate 8 0) (q.take k) 0 8 8 (some ⟨g, 0, none⟩) HP.out (by simp; omega) (by omega) (fun _ => rfl) hsrc
            rw [hlk] at hcp hg2
            have HG2 := Aside0.mk hg2
            have HRr2 := Aside0.mk ((ho2 w.heap.size (by omega)).trans HRr.out)
            have hRd2 := (ho2 (w.heap.size + 1) (by omega)).trans HRd.out
            have hB2' := HBA.out.drew.trans hb2
            have HBA2 := Aside0.mk hB2'
            have HCq2 : Aside0 (∀ (ad : Addr) (j : Nat) (v : Value), A = some ad → (u16s q)[j]? = some v → W2.cell? (ad.add j) = some v) := ⟨fun ad j v e hv => by
              have hl := (List.getElem?_eq_some_iff.1 hv).1
              rw [u16s_length] at hl
              obtain ⟨ad', e', hc⟩ := C_u16 HCq.out (by omega)
              obtain rfl := Option.some.inj (e.symm.trans e')
              have hb := HLT.out ad j v e hv
              exact (World.cell?_of_block (w := W1.drew) (ho2 _ (by omega))).trans (hc j v hv)⟩
            have hs2' : g < W2.heap.size := by rw [hs2]; exact hsz'
            obtain ⟨x1, _⟩ := heap_cell (j := 1) hRd2 rfl
            obtain ⟨x2, _⟩ := heap_cell (j := 2) hRd2 rfl
            clear hsrc hg2 ho2 hs2 hb2 hRd2 hB2' e1 e2
            go_wp2_with fail
            have hw1 : IntKind.i64.wrap (8 - (q.length : Int)) = ((8 - q.length : Nat) : Int) := by
              rw [i64_small _ (by omega) (by omega)]
              omega
            obtain ⟨o, ho⟩ : ∃ o : Nat, o = 8 - q.length + k := ⟨_, rfl⟩
            have hw2 : IntKind.i64.wrap (((8 - q.length : Nat) : Int) + (k : Int)) = (o : Int) := by
              rw [i64_small _ (by omega) (by omega)]
              omega
            have HO := Lib.hid ho
            have ho0 : (0 : Int) ≤ (o : Int) := by omega
            have ho8 : (o : Int) ≤ 8 := by omega
            have hkl : (k : Int) ≤ (q.length : Int) := by omega
            by_cases hkk : k < q.length
            · obtain ⟨ad, rfl, _⟩ := C_u16 HCq.out (by omega)
              have ho7 : o < 8 := by omega
              have hne1 : ¬ 8 = o := by omega
              have hne2 : ¬ c = k := by omega
              clear ho
              go_still_tail 13, (by kernel_rfl)
              change wpList _ _ _ _ _ W2.drew
              have hlk2 : (q.drop k).length = q.length - k := by rw [List.length_drop]
              obtain ⟨W3, hcp2, hg3, ho3, hs3, hb3⟩ := copyAt W2.drew w.heap.size g (by omega) (some (ad.add k)) (c - k) ((List.replicate 8 0).take 0 ++ q.take k ++ (List.replicate 8 0).drop (0 + k)) (q.drop k) o (8 - o) (8 - o) (some ⟨g, o, none⟩) HG2.out (by have := HO.out; simp; omega) (by have := HO.out; omega) (fun _ => rfl) (fun _ => ⟨_, rfl, fun j v hv => by
                rw [Addr.add_add]
                refine HCq2.out ad (k + j) v rfl ?_
                rw [u16s, List.map_drop, List.getElem?_drop] at hv
                exact hv⟩)
              rw [hlk2] at hcp2
              rw [fill_eq q k o (by omega) (by omega) HO.out] at hg3
              have HR3 := Aside0.mk ((ho3 w.heap.size (by omega)).trans HRr2.out)
              have HB3 := Aside0.mk (HBA2.out.drew.trans hb3)
              have hw3 : w.heap.size < W3.heap.size := by rw [hs3]; show _ < W2.heap.size; omega
              have HZ := Lib.hid (show sixL s.data.toList = some (q.take k ++ List.replicate (8 - q.length) 0 ++ q.drop k) by rw [HFILL.out, fillL, if_neg (by omega), if_pos h8]; simp)
              have hz8 : (q.take k ++ List.replicate (8 - q.length) 0 ++ q.drop k).length = 8 := by simp; omega
              have hzb : ∀ y ∈ (q.take k ++ List.replicate (8 - q.length) 0 ++ q.drop k), 0 ≤ y ∧ y ≤ 65535 := fill_bd q k hqb.out
              clear ho3 hs3 hb3 hcap hq8 x1 x2 hw1 hw2
              generalize (q.take k ++ List.replicate (8 - q.length) 0 ++ q.drop k) = zs at hg3 HZ hz8 hzb
              obtain ⟨y0, y1, y2, y3, y4, y5, y6, y7, rfl⟩ := list8 zs hz8
              have HFIN := Lib.hid (HSS.out _ HZ.out)
              have n0 := hzb y0 (by simp)
              have n1 := hzb y1 (by simp)
              have n2 := hzb y2 (by simp)
              have n3 := hzb y3 (by simp)
              have n4 := hzb y4 (by simp)
              have n5 := hzb y5 (by simp)
              have n6 := hzb y6 (by simp)
              have n7 := hzb y7 (by simp)
              have k0 : W3.cell? ⟨g, 0, none⟩ = some (.int .u16 y0) := (heap_cell (j := 0) hg3 rfl).1
              have k1 : W3.cell? ⟨g, 1, none⟩ = some (.int .u16 y1) := (heap_cell (j := 1) hg3 rfl).1
              have k2 : W3.cell? ⟨g, 2, none⟩ = some (.int .u16 y2) := (heap_cell (j := 2) hg3 rfl).1
              have k3 : W3.cell? ⟨g, 3, none⟩ = some (.int .u16 y3) := (heap_cell (j := 3) hg3 rfl).1
              have k4 : W3.cell? ⟨g, 4, none⟩ = some (.int .u16 y4) := (heap_cell (j := 4) hg3 rfl).1
              have k5 : W3.cell? ⟨g, 5, none⟩ = some (.int .u16 y5) := (heap_cell (j := 5) hg3 rfl).1
              have k6 : W3.cell? ⟨g, 6, none⟩ = some (.int .u16 y6) := (heap_cell (j := 6) hg3 rfl).1
              have k7 : W3.cell? ⟨g, 7, none⟩ = some (.int .u16 y7) := (heap_cell (j := 7) hg3 rfl).1
              clear hg3 hzb hz8 HZ
              go_wp2_with fail
              refine (of_calls y0 y1 y2 y3 y4 y5 y6 y7 n0 n1 n2 n3 n4 n5 n6 n7 _).mono ?_
              rintro e w4 ⟨rfl, b4⟩
              have hr4 := (b4.block w.heap.size hw3).trans HR3.out
              have HB4 := Aside0.mk (below_then HB3.out HB3.out.size b4)
              obtain ⟨r0, g0⟩ := heap_cell (j := 0) hr4 rfl
              obtain ⟨r1, g1⟩ := heap_cell (j := 1) hr4 rfl
              have HR4 := Aside0.mk hr4
              clear hr4 b4
              go_wp2_with fail
              refine bodyPost_ret (results_cell_bool rfl _ _ w.heap.size 25 #[.int .u64 (half [y0, y1, y2, y3]), .int .u64 (half [y4, y5, y6, y7])] (0, 0) _ rfl (heap_set1 _ (heap_set0 _ HR4.out)) Tryz.underlying25 rfl (by kernel_rfl)) rfl ?_
              exact ⟨ret_six HFIN.out.1.symm HFIN.out.2.1.symm HFIN.out.2.2.symm, (HB4.out.setCell (Nat.le_refl _) _).setCell (Nat.le_refl _) _⟩
            · obtain rfl : k = q.length := by omega
              obtain rfl : o = 8 := by omega
              rcases A with _ | ad
              · clear ho
                go_still_tail 13, (by kernel_rfl)
                change wpList _ _ _ _ _ W2.drew
                obtain ⟨W3, hcp2, hg3, ho3, hs3, hb3⟩ := copyAt W2.drew w.heap.size g (by omega) none (c - q.length) ((List.replicate 8 0).take 0 ++ q.take q.length ++ (List.replicate 8 0).drop (0 + q.length)) [] 0 0 0 (some ⟨g, 0, none⟩) HG2.out (by simp) (by simp) (fun _ => rfl) (fun h => absurd h (by simp))
                rw [show ([] : List Int).length = 0 from rfl] at hcp2
                rw [fill_eq0 q] at hg3
                have HR3 := Aside0.mk ((ho3 w.heap.size (by omega)).trans HRr2.out)
                have HB3 := Aside0.mk (HBA2.out.drew.trans hb3)
                have hw3 : w.heap.size < W3.heap.size := by rw [hs3]; show _ < W2.heap.size; omega
                have HZ := Lib.hid (show sixL s.data.toList = some (q.take q.length ++ List.replicate (8 - q.length) 0 ++ q.drop q.length) by rw [HFILL.out, fillL, if_neg (by omega), if_pos h8]; simp)
                have hz8 : (q.take q.length ++ List.replicate (8 - q.length) 0 ++ q.drop q.length).length = 8 := by simp; omega
                have hzb : ∀ y ∈ (q.take q.length ++ List.replicate (8 - q.length) 0 ++ q.drop q.length), 0 ≤ y ∧ y ≤ 65535 := fill_bd q q.length hqb.out
                clear ho3 hs3 hb3 hcap hq8 x1 x2 hw1 hw2
                generalize (q.take q.length ++ List.replicate (8 - q.length) 0 ++ q.drop q.length) = zs at hg3 HZ hz8 hzb
                obtain ⟨y0, y1, y2, y3, y4, y5, y6, y7, rfl⟩ := list8 zs hz8
                have HFIN := Lib.hid (HSS.out _ HZ.out)
                have n0 := hzb y0 (by simp)
                have n1 := hzb y1 (by simp)
                have n2 := hzb y2 (by simp)
                have n3 := hzb y3 (by simp)
                have n4 := hzb y4 (by simp)
                have n5 := hzb y5 (by simp)
                have n6 := hzb y6 (by simp)
                have n7 := hzb y7 (by simp)
                have k0 : W3.cell? ⟨g, 0, none⟩ = some (.int .u16 y0) := (heap_cell (j := 0) hg3 rfl).1
                have k1 : W3.cell? ⟨g, 1, none⟩ = some (.int .u16 y1) := (heap_cell (j := 1) hg3 rfl).1
                have k2 : W3.cell? ⟨g, 2, none⟩ = some (.int .u16 y2) := (heap_cell (j := 2) hg3 rfl).1
                have k3 : W3.cell? ⟨g, 3, none⟩ = some (.int .u16 y3) := (heap_cell (j := 3) hg3 rfl).1
                have k4 : W3.cell? ⟨g, 4, none⟩ = some (.int .u16 y4) := (heap_cell (j := 4) hg3 rfl).1
                have k5 : W3.cell? ⟨g, 5, none⟩ = some (.int .u16 y5) := (heap_cell (j := 5) hg3 rfl).1
                have k6 : W3.cell? ⟨g, 6, none⟩ = some (.int .u16 y6) := (heap_cell (j := 6) hg3 rfl).1
                have k7 : W3.cell? ⟨g, 7, none⟩ = some (.int .u16 y7) := (heap_cell (j := 7) hg3 rfl).1
                clear hg3 hzb hz8 HZ
                go_wp2_with fail
                refine (of_calls y0 y1 y2 y3 y4 y5 y6 y7 n0 n1 n2 n3 n4 n5 n6 n7 _).mono ?_
                rintro e w4 ⟨rfl, b4⟩
                have hr4 := (b4.block w.heap.size hw3).trans HR3.out
                have HB4 := Aside0.mk (below_then HB3.out HB3.out.size b4)
                obtain ⟨r0, g0⟩ := heap_cell (j := 0) hr4 rfl
                obtain ⟨r1, g1⟩ := heap_cell (j := 1) hr4 rfl
                have HR4 := Aside0.mk hr4
                clear hr4 b4
                go_wp2_with fail
                refine bodyPost_ret (results_cell_bool rfl _ _ w.heap.size 25 #[.int .u64 (half [y0, y1, y2, y3]), .int .u64 (half [y4, y5, y6, y7])] (0, 0) _ rfl (heap_set1 _ (heap_set0 _ HR4.out)) Tryz.underlying25 rfl (by kernel_rfl)) rfl ?_
                exact ⟨ret_six HFIN.out.1.symm HFIN.out.2.1.symm HFIN.out.2.2.symm, (HB4.out.setCell (Nat.le_refl _) _).setCell (Nat.le_refl _) _⟩
              · clear ho
                by_cases hcc : c = q.length
                · go_still_tail 13, (by kernel_rfl)
                  change wpList _ _ _ _ _ W2.drew
                  obtain ⟨W3, hcp2, hg3, ho3, hs3, hb3⟩ := copyAt W2.drew w.heap.size g (by omega) (some ad) (0) ((List.replicate 8 0).take 0 ++ q.take q.length ++ (List.replicate 8 0).drop (0 + q.length)) [] 0 0 0 (some ⟨g, 0, none⟩) HG2.out (by simp) (by simp) (fun _ => rfl) (fun h => absurd h (by simp))
                  rw [show ([] : List Int).length = 0 from rfl] at hcp2
                  rw [fill_eq0 q] at hg3
                  have HR3 := Aside0.mk ((ho3 w.heap.size (by omega)).trans HRr2.out)
                  have HB3 := Aside0.mk (HBA2.out.drew.trans hb3)
                  have hw3 : w.heap.size < W3.heap.size := by rw [hs3]; show _ < W2.heap.size; omega
                  have HZ := Lib.hid (show sixL s.data.toList = some (q.take q.length ++ List.replicate (8 - q.length) 0 ++ q.drop q.length) by rw [HFILL.out, fillL, if_neg (by omega), if_pos h8]; simp)
                  have hz8 : (q.take q.length ++ List.replicate (8 - q.length) 0 ++ q.drop q.length).length = 8 := by simp; omega
                  have hzb : ∀ y ∈ (q.take q.length ++ List.replicate (8 - q.length) 0 ++ q.drop q.length), 0 ≤ y ∧ y ≤ 65535 := fill_bd q q.length hqb.out
                  clear ho3 hs3 hb3 hcap hq8 x1 x2 hw1 hw2
                  generalize (q.take q.length ++ List.replicate (8 - q.length) 0 ++ q.drop q.length) = zs at hg3 HZ hz8 hzb
                  obtain ⟨y0, y1, y2, y3, y4, y5, y6, y7, rfl⟩ := list8 zs hz8
                  have HFIN := Lib.hid (HSS.out _ HZ.out)
                  have n0 := hzb y0 (by simp)
                  have n1 := hzb y1 (by simp)
                  have n2 := hzb y2 (by simp)
                  have n3 := hzb y3 (by simp)
                  have n4 := hzb y4 (by simp)
                  have n5 := hzb y5 (by simp)
                  have n6 := hzb y6 (by simp)
                  have n7 := hzb y7 (by simp)
                  have k0 : W3.cell? ⟨g, 0, none⟩ = some (.int .u16 y0) := (heap_cell (j := 0) hg3 rfl).1
                  have k1 : W3.cell? ⟨g, 1, none⟩ = some (.int .u16 y1) := (heap_cell (j := 1) hg3 rfl).1
                  have k2 : W3.cell? ⟨g, 2, none⟩ = some (.int .u16 y2) := (heap_cell (j := 2) hg3 rfl).1
                  have k3 : W3.cell? ⟨g, 3, none⟩ = some (.int .u16 y3) := (heap_cell (j := 3) hg3 rfl).1
                  have k4 : W3.cell? ⟨g, 4, none⟩ = some (.int .u16 y4) := (heap_cell (j := 4) hg3 rfl).1
                  have k5 : W3.cell? ⟨g, 5, none⟩ = some (.int .u16 y5) := (heap_cell (j := 5) hg3 rfl).1
                  have k6 : W3.cell? ⟨g, 6, none⟩ = some (.int .u16 y6) := (heap_cell (j := 6) hg3 rfl).1
                  have k7 : W3.cell? ⟨g, 7, none⟩ = some (.int .u16 y7) := (heap_cell (j := 7) hg3 rfl).1
                  clear hg3 hzb hz8 HZ
                  go_wp2_with fail
                  refine (of_calls y0 y1 y2 y3 y4 y5 y6 y7 n0 n1 n2 n3 n4 n5 n6 n7 _).mono ?_
                  rintro e w4 ⟨rfl, b4⟩
                  have hr4 := (b4.block w.heap.size hw3).trans HR3.out
                  have HB4 := Aside0.mk (below_then HB3.out HB3.out.size b4)
                  obtain ⟨r0, g0⟩ := heap_cell (j := 0) hr4 rfl
                  obtain ⟨r1, g1⟩ := heap_cell (j := 1) hr4 rfl
                  have HR4 := Aside0.mk hr4
                  clear hr4 b4
                  go_wp2_with fail
                  refine bodyPost_ret (results_cell_bool rfl _ _ w.heap.size 25 #[.int .u64 (half [y0, y1, y2, y3]), .int .u64 (half [y4, y5, y6, y7])] (0, 0) _ rfl (heap_set1 _ (heap_set0 _ HR4.out)) Tryz.underlying25 rfl (by kernel_rfl)) rfl ?_
                  exact ⟨ret_six HFIN.out.1.symm HFIN.out.2.1.symm HFIN.out.2.2.symm, (HB4.out.setCell (Nat.le_refl _) _).setCell (Nat.le_refl _) _⟩
                · go_still_tail 13, (by kernel_rfl)
                  change wpList _ _ _ _ _ W2.drew
                  obtain ⟨W3, hcp2, hg3, ho3, hs3, hb3⟩ := copyAt W2.drew w.heap.size g (by omega) (some (ad.add q.length)) (c - q.length) ((List.replicate 8 0).take 0 ++ q.take q.length ++ (List.replicate 8 0).drop (0 + q.length)) [] 0 0 0 (some ⟨g, 0, none⟩) HG2.out (by simp) (by simp) (fun _ => rfl) (fun h => absurd h (by simp))
                  rw [show ([] : List Int).length = 0 from rfl] at hcp2
                  rw [fill_eq0 q] at hg3
                  have HR3 := Aside0.mk ((ho3 w.heap.size (by omega)).trans HRr2.out)
                  have HB3 := Aside0.mk (HBA2.out.drew.trans hb3)
                  have hw3 : w.heap.size < W3.heap.size := by rw [hs3]; show _ < W2.heap.size; omega
                  have HZ := Lib.hid (show sixL s.data.toList = some (q.take q.length ++ List.replicate (8 - q.length) 0 ++ q.drop q.length) by rw [HFILL.out, fillL, if_neg (by omega), if_pos h8]; simp)
                  have hz8 : (q.take q.length ++ List.replicate (8 - q.length) 0 ++ q.drop q.length).length = 8 := by simp; omega
                  have hzb : ∀ y ∈ (q.take q.length ++ List.replicate (8 - q.length) 0 ++ q.drop q.length), 0 ≤ y ∧ y ≤ 65535 := fill_bd q q.length hqb.out
                  clear ho3 hs3 hb3 hcap hq8 x1 x2 hw1 hw2
                  generalize (q.take q.length ++ List.replicate (8 - q.length) 0 ++ q.drop q.length) = zs at hg3 HZ hz8 hzb
                  obtain ⟨y0, y1, y2, y3, y4, y5, y6, y7, rfl⟩ := list8 zs hz8
                  have HFIN := Lib.hid (HSS.out _ HZ.out)
                  have n0 := hzb y0 (by simp)
                  have n1 := hzb y1 (by simp)
                  have n2 := hzb y2 (by simp)
                  have n3 := hzb y3 (by simp)
                  have n4 := hzb y4 (by simp)
                  have n5 := hzb y5 (by simp)
                  have n6 := hzb y6 (by simp)
                  have n7 := hzb y7 (by simp)
                  have k0 : W3.cell? ⟨g, 0, none⟩ = some (.int .u16 y0) := (heap_cell (j := 0) hg3 rfl).1
                  have k1 : W3.cell? ⟨g, 1, none⟩ = some (.int .u16 y1) := (heap_cell (j := 1) hg3 rfl).1
                  have k2 : W3.cell? ⟨g, 2, none⟩ = some (.int .u16 y2) := (heap_cell (j := 2) hg3 rfl).1
                  have k3 : W3.cell? ⟨g, 3, none⟩ = some (.int .u16 y3) := (heap_cell (j := 3) hg3 rfl).1
                  have k4 : W3.cell? ⟨g, 4, none⟩ = some (.int .u16 y4) := (heap_cell (j := 4) hg3 rfl).1
                  have k5 : W3.cell? ⟨g, 5, none⟩ = some (.int .u16 y5) := (heap_cell (j := 5) hg3 rfl).1
                  have k6 : W3.cell? ⟨g, 6, none⟩ = some (.int .u16 y6) := (heap_cell (j := 6) hg3 rfl).1
                  have k7 : W3.cell? ⟨g, 7, none⟩ = some (.int .u16 y7) := (heap_cell (j := 7) hg3 rfl).1
                  clear hg3 hzb hz8 HZ
                  go_wp2_with fail
                  refine (of_calls y0 y1 y2 y3 y4 y5 y6 y7 n0 n1 n2 n3 n4 n5 n6 n7 _).mono ?_
                  rintro e w4 ⟨rfl, b4⟩
                  have hr4 := (b4.block w.heap.size hw3).trans HR3.out
                  have HB4 := Aside0.mk (below_then HB3.out HB3.out.size b4)
                  obtain ⟨r0, g0⟩ := heap_cell (j := 0) hr4 rfl
                  obtain ⟨r1, g1⟩ := heap_cell (j := 1) hr4 rfl
                  have HR4 := Aside0.mk hr4
                  clear hr4 b4
                  go_wp2_with fail
                  refine bodyPost_ret (results_cell_bool rfl _ _ w.heap.size 25 #[.int .u64 (half [y0, y1, y2, y3]), .int .u64 (half [y4, y5, y6, y7])] (0, 0) _ rfl (heap_set1 _ (heap_set0 _ HR4.out)) Tryz.underlying25 rfl (by kernel_rfl)) rfl ?_
                  exact ⟨ret_six HFIN.out.1.symm HFIN.out.2.1.symm HFIN.out.2.2.symm, (HB4.out.setCell (Nat.le_refl _) _).setCell (Nat.le_refl _) _⟩
end Go.Proofs.YtfieiigefllekaaGreatDoor

/- The pieces of an address, written, with a colon between two. -/
namespace Go.Proofs.YtfieiigefllekaaGreatDoor
open Go.RowKit Go.Proofs.YtfieiigefllekaaGreatDoorW.PrintWords Go.Proofs.YtfieiigefllekaaGreatDoorW.PrintMore

/-- A piece, written. -/
def hexB (x : Int) : ByteArray := ⟨(digB 16 x.toNat).toArray⟩
/-- Pieces, written, with a colon between two. -/
def wordsL (xs : List Int) : List UInt8 := Lib.join (xs.map fun x => digB 16 x.toNat) [58]
theorem hexB_list (xs : List Int) : (xs.map hexB).map (·.data.toList) = xs.map fun x => digB 16 x.toNat := by
  rw [List.map_map]
  rfl
theorem hexB_size (x : Int) (h : x ≤ 65535) : (hexB x).size ≤ 17 := by
  show (digB 16 x.toNat).toArray.size ≤ 17
  rw [List.size_toArray]
  exact digB_len 16 (by omega) _ 16 (by omega)
theorem joinTail_len (n : Nat) : ∀ r : List (List UInt8), (∀ x ∈ r, x.length ≤ n) → (Lib.joinTail [58] r).length ≤ r.length * (n + 1)
  | [], _ => by simp [Lib.joinTail]
  | x :: r, h => by
    have ih := joinTail_len n r (fun y hy => h y (by simp [hy]))
    have hx := h x (by simp)
    have e : Lib.joinTail [58] (x :: r) = ([58] ++ x) ++ Lib.joinTail [58] r := by simp [Lib.joinTail]
    rw [e, List.length_append, List.length_append]
    show _ ≤ (r.length + 1) * (n + 1)
    rw [Nat.add_mul]
    simp
    omega
theorem wordsL_len (xs : List Int) (hb : ∀ x ∈ xs, x ≤ 65535) : (wordsL xs).length ≤ 18 * xs.length := by
  rcases xs with _ | ⟨x, r⟩
  · simp [wordsL, Lib.join_nil]
  · have h1 : (digB 16 x.toNat).length ≤ 17 := digB_len 16 (by omega) _ 16 (by have := hb x (by simp); omega)
    have h2 := joinTail_len 17 (r.map fun x => digB 16 x.toNat) (fun y hy => by
      obtain ⟨z, hz, rfl⟩ := List.mem_map.1 hy
      exact digB_len 16 (by omega) _ 16 (by have := hb z (by simp [hz]); omega))
    rw [List.length_map] at h2
    rw [wordsL, List.map_cons, Lib.join_cons, List.length_append, List.length_cons]
    omega

set_option maxHeartbeats 2000000 in
set_option maxRecDepth 100000 in
theorem words_calls (A : Option Addr) (c : Nat) (xs : List Int) (w : World) (hn : xs.length ≤ c) (h8 : xs.length ≤ 8) (hb : ∀ x ∈ xs, 0 ≤ x ∧ x ≤ 65535)
    (hA : 0 < xs.length → ∃ ad, A = some ad ∧ ∀ j v, (u16s xs)[j]? = some v → w.cell? (ad.add j) = some v) (hP : Aside0 (Pows w)) (hT : Aside0 (Debr w)) :
    Calls Tryz.prog 62 #[.slice A xs.length c] w fun e w' => e = .returned (.string ⟨(wordsL xs).toArray⟩) ∧ Below w.heap.size w w' := by
  have HA := Aside0.mk hA
  have HBD := Aside0.mk hb
  clear hA hb
  go_enter Tryz.func62, Tryz.ntmps62
  go_wp2_with fail
  go_loopw [3, 8] (fun v i wr => ∃ (j : Nat), i = .int .i64 j ∧ j ≤ xs.length ∧ Aside0 (Kd.R Kd.string 9 wr w.heap.size (fun _ => True) v ((xs.take j).map hexB)) ∧ Aside0 (Below w.heap.size w wr)) (fun _ i _ => xs.length - (intOf i).toNat)
  case atStart => exact ⟨0, rfl, by omega, ⟨Kd.R_nil _ _ _ _ _⟩, ⟨Below.refl _ _⟩⟩
  case round =>
    obtain ⟨j, rfl, hj, HO, HB⟩ := hrel
    by_cases hlt : j < xs.length
    · obtain ⟨ad, rfl, hcl⟩ := HA.out (by omega)
      obtain ⟨x, hx⟩ : ∃ x, xs[j]? = some x := ⟨_, List.getElem?_eq_getElem hlt⟩
      have hbx := HBD.out x (List.mem_of_getElem? hx)
      have h0 := hcl j (.int .u16 x) (by rw [u16s, List.getElem?_map, hx]; rfl)
      have hcj := (HB.out.cell (cell_lt h0)).trans h0
      have HX := Lib.hid hx
      obtain ⟨u, rfl⟩ : ∃ u : Nat, x = u := ⟨x.toNat, by omega⟩
      have hus : u ≤ 65535 := by omega
      have hsz : w.heap.size ≤ wr.heap.size := HB.out.size
      have hll : ((xs.take j).map hexB).length = j := by rw [List.length_map, List.length_take]; omega
      have HLL := Lib.hid hll
      clear h0 hcl hx hll
      go_wp2_with fail
      refine (FormatUint_calls 16 (by omega) u (by omega) _ (hP.out.stays HB.out) (hT.out.stays HB.out)).mono ?_
      rintro e w2 ⟨rfl, b2⟩
      have HO2 := Aside0.mk (Kd.R_below HO.out b2)
      have HB2 := Aside0.mk (below_then HB.out HB.out.size b2)
      have hsz2 : w.heap.size ≤ w2.heap.size := HB2.out.size
      rw [show (⟨(digB 16 u).toArray⟩ : ByteArray) = hexB (u : Int) by rw [hexB]; simp]
      clear b2
      go_wp2_with ((with_reducible refine gate_builtin (b := .append) (xs := #[.tmp 12, .tmp 16]) rfl ?_); at_builtin; refine Kd.R_append Kd.string (w0 := w) w.heap.size rfl (.tmp 12) (.tmp 16) 84 9 (.string ⟨#[]⟩) 16 rfl Tryz.underlying84 info_string rfl (by decide) (by omega) u3 ((xs.take j).map hexB) (hexB (u : Int)) [.string (hexB (u : Int))] (fun _ => True) (fun _ => False) rfl rfl ?aP (fun _ hk => hk.elim) ?aF ?aO ?aB ?aS ?aL ?_; (case aP => exact rfl); (case aF => exact fun _ _ => trivial); (case aO => exact HO2.out); (case aB => exact HB2.out); (case aS => omega); (case aL => rw [HLL.out]; omega); intro v1 w1 ho hb hg _)
      refine ⟨⟨j + 1, by go_num, by omega, ⟨?_⟩, ⟨hb⟩⟩, by simp [intOf]; omega⟩
      rw [List.take_add_one, HX.out, Option.toList_some, List.map_append]
      exact ho
    · obtain rfl : j = xs.length := by omega
      have hO := HO.out
      rw [List.take_of_length_le (Nat.le_refl _)] at hO
      have hl := wordsL_len xs (fun x hx => (HBD.out x hx).2)
      rcases Nat.eq_zero_or_pos xs.length with h0 | hpos
      · have he : xs = [] := List.eq_nil_of_length_eq_zero h0
        subst he
        obtain ⟨A2, c2, rfl, _, _⟩ := Kd.R_reads hO
        clear hO
        go_wp2_with fail
        refine (Tryz.strings_Join_none _ _ _ _).mono ?_
        rintro e w3 ⟨rfl, rfl⟩
        go_wp2_with fail
        go_ret
        exact ⟨rfl, HB.out⟩
      · have hlm : (xs.map hexB).length = xs.length := List.length_map _
        obtain ⟨A2, c2, hv, hcap, hC⟩ := Kd.R_reads hO
        obtain ⟨_, inner, hown, _⟩ := hO
        obtain ⟨g, rfl, hgl⟩ : ∃ g, u3 = .slice (some ⟨g, 0, none⟩) xs.length c2 ∧ g < wr.heap.size := by
          rcases hown.2 with ⟨h, _⟩ | ⟨g, cap, cur, h, hg, hh, _⟩
          · rw [hv] at h
            injection h with h1 h2 h3
            omega
          · rw [hv] at h
            injection h with h1 h2 h3
            exact ⟨g, by rw [hv, h1, hlm], (Array.getElem?_eq_some_iff.1 hh).1⟩
        rw [hlm] at hv
        injection hv with h1 h2 h3
        subst h1
        obtain ⟨hl1, hl2, hcc⟩ := hC
        obtain ⟨ad, e, hcc⟩ := hcc (by omega)
        obtain rfl := Option.some.inj e
        have hcells : ∀ (j : Nat) x, (xs.map hexB)[j]? = some x → wr.cell? ⟨g, 0 + j, none⟩ = some (.string x) := fun j x hx => by
          obtain ⟨cs, _, hk, hcs⟩ := hcc j x hx
          obtain rfl : cs = [.string x] := hk
          have h1 := hcs 0 (.string x) rfl
          rw [show j * Kd.string.sz + 0 = j from Nat.mul_one j, Go.Proofs.YtfieiigefllekaaGreatDoorW.PrintWords.add_plain] at h1
          rw [Nat.zero_add]
          exact h1
        have HJ := Aside0.mk (Tryz.strings_Join g 0 c2 (xs.map hexB) ⟨#[58]⟩ wr hcells hgl (by omega) (by omega) (by
          rw [hexB_list]
          show (wordsL xs).length ≤ _
          omega))
        have hlx := HJ.out
        rw [hexB_list, hlm] at hlx
        have HJ2 := Aside0.mk hlx
        clear hcells hcc HJ hlx hown hl1 hl2 h2 h3
        go_wp2_with fail
        refine HJ2.out.mono ?_
        rintro e w3 ⟨rfl, b3⟩
        have HB3 := Aside0.mk (below_then HB.out HB.out.size b3)
        go_wp2_with fail
        go_ret
        exact ⟨rfl, HB3.out⟩
end Go.Proofs.YtfieiigefllekaaGreatDoor

/- six.longest: the first of the longest rows of noughts. -/
namespace Go.Proofs.YtfieiigefllekaaGreatDoor
open Go.RowKit Go.Proofs.YtfieiigefllekaaGreatDoorW.PrintWords Go.Proofs.YtfieiigefllekaaGreatDoorW.PrintMore

/-- How many noughts stand ahead. -/
def zrun : List Int → Nat
  | [] => 0
  | x :: r => if x = 0 then zrun r + 1 else 0
/-- The first of the longest rows of noughts among the first j places. -/
def longF (xs : List Int) : Nat → Nat × Nat
  | 0 => (0, 0)
  | j + 1 => if (longF xs j).2 < zrun (xs.drop j) then (j, zrun (xs.drop j)) else longF xs j
theorem zrun_le : ∀ l : List Int, zrun l ≤ l.length
  | [] => Nat.le_refl _
  | x :: r => by
    have := zrun_le r
    unfold zrun
    split
    · simp
      omega
    · simp
theorem zrun_step (xs : List Int) (m : Nat) (h : m < xs.length) : zrun (xs.drop m) = if xs.getD m 0 = 0 then zrun (xs.drop (m + 1)) + 1 else 0 := by
  rw [List.drop_eq_getElem_cons h, zrun, List.getD_eq_getElem?_getD, List.getElem?_eq_getElem h]
  rfl
theorem longF_bd (xs : List Int) (h : xs.length = 8) : ∀ j, j ≤ 8 → (longF xs j).1 + (longF xs j).2 ≤ 8
  | 0, _ => by simp [longF]
  | j + 1, hj => by
    rw [longF]
    have := zrun_le (xs.drop j)
    rw [List.length_drop, h] at this
    split
    · show j + _ ≤ 8
      omega
    · exact longF_bd xs h j (by omega)

set_option maxHeartbeats 2000000 in
set_option maxRecDepth 100000 in
theorem longest_calls (x0 x1 x2 x3 x4 x5 x6 x7 : Int) (w : World) :
    Calls Tryz.prog 61 #[.agg #[.int .u16 x0, .int .u16 x1, .int .u16 x2, .int .u16 x3, .int .u16 x4, .int .u16 x5, .int .u16 x6, .int .u16 x7]] w fun e w' => e = .returned (.tuple #[.int .i64 ((longF [x0, x1, x2, x3, x4, x5, x6, x7] 8).1 : Nat), .int .i64 ((longF [x0, x1, x2, x3, x4, x5, x6, x7] 8).2 : Nat)]) ∧ Below w.heap.size w w' := by
  obtain ⟨xs, hxs⟩ : ∃ xs, xs = [x0, x1, x2, x3, x4, x5, x6, x7] := ⟨_, rfl⟩
  have hlen : xs.length = 8 := by rw [hxs]; rfl
  rw [← hxs]
  have HX := Lib.hid hxs
  have HL := Lib.hid hlen
  clear hxs hlen
  go_enter Tryz.func61, Tryz.ntmps61
  go_wp2_with fail
  obtain ⟨W0, hW0⟩ : ∃ W0, W0 = w.alloc (.cells #[.int .u16 x0, .int .u16 x1, .int .u16 x2, .int .u16 x3, .int .u16 x4, .int .u16 x5, .int .u16 x6, .int .u16 x7] 32) := ⟨_, rfl⟩
  rw [← hW0]
  have hcell : ∀ j, j < 8 → W0.cell? ⟨w.heap.size, j, none⟩ = some (.int .u16 (xs.getD j 0)) := by
    intro j hj
    rw [hW0, HX.out, World.cell?_alloc_new]
    have hj8 : j = 0 ∨ j = 1 ∨ j = 2 ∨ j = 3 ∨ j = 4 ∨ j = 5 ∨ j = 6 ∨ j = 7 := by omega
    rcases hj8 with rfl | rfl | rfl | rfl | rfl | rfl | rfl | rfl <;> rfl
  have HB : Aside0 (Below w.heap.size w W0) := ⟨by rw [hW0]; exact (Below.refl _ _).alloc (Nat.le_refl _) _⟩
  have HC := Aside0.mk hcell
  clear hW0 hcell
  go_loop [2, 3, 6] (fun aa nn ii => ∃ (j a n : Nat), ii = .int .i64 j ∧ aa = .int .i64 a ∧ nn = .int .i64 n ∧ j ≤ 8 ∧ n ≤ 8 ∧ a ≤ 8 ∧ Aside0 (longF xs j = (a, n))) (fun _ _ i => 8 - (intOf i).toNat)
  case atStart => exact ⟨0, 0, 0, rfl, rfl, rfl, by omega, by omega, by omega, ⟨rfl⟩⟩
  case round =>
    obtain ⟨j, a, n, rfl, rfl, rfl, hj, hn, ha, hF⟩ := hrel
    by_cases hlt : j < 8
    · go_wp2_with fail
      go_loop [5] (fun kk => ∃ (k : Nat), kk = .int .i64 k ∧ j + k ≤ 8 ∧ Aside0 (zrun (xs.drop j) = k + zrun (xs.drop (j + k)))) (fun k => 8 - j - (intOf k).toNat)
      case atStart => exact ⟨0, rfl, by omega, ⟨by simp⟩⟩
      case round =>
        obtain ⟨k, rfl, hk, hZ⟩ := hrel
        obtain ⟨m, hm⟩ : ∃ m, m = j + k := ⟨_, rfl⟩
        have hmi : (j : Int) + (k : Int) = (m : Int) := by omega
        have HM := Lib.hid hm
        clear hm
        have hk8 : k ≤ 8 := by omega
        by_cases hm8 : m < 8
        · have hc := HC.out m hm8
          have hst := zrun_step xs m (by rw [HL.out]; exact hm8)
          have hm8' : (m : Int) < 8 := by omega
          generalize xs.getD m 0 = y at hc hst
          by_cases hy : y = 0
          · subst hy
            have HS := Aside0.mk (show zrun (xs.drop j) = (k + 1) + zrun (xs.drop (j + (k + 1))) by
              rw [hZ.out, ← HM.out, hst, if_pos rfl, show j + (k + 1) = m + 1 by rw [HM.out]; omega]
              omega)
            clear hst
            go_wp2_with fail
            exact ⟨⟨k + 1, by go_num, by have := HM.out; omega, HS⟩, by simp [intOf]; have := HM.out; omega⟩
          · have HST := Lib.hid hst
            clear hst
            have hzk : zrun (xs.drop j) = k := by
              rw [hZ.out, ← HM.out, HST.out, if_neg hy]
              rfl
            by_cases hnk : n < k
            · have HN := Aside0.mk (show longF xs (j + 1) = (j, k) by rw [longF, hF.out, hzk, if_pos hnk])
              clear hzk
              go_wp2_with fail
              exact ⟨⟨j + 1, j, k, by go_num, rfl, rfl, by omega, by omega, by omega, HN⟩, by simp [intOf]; omega⟩
            · have HN := Aside0.mk (show longF xs (j + 1) = (a, n) by rw [longF, hF.out, hzk, if_neg hnk])
              clear hzk
              go_wp2_with fail
              exact ⟨⟨j + 1, a, n, by go_num, rfl, rfl, by omega, by omega, by omega, HN⟩, by simp [intOf]; omega⟩
        · have hm8' : ¬ (m : Int) < 8 := by omega
          have hzk : zrun (xs.drop j) = k := by
            rw [hZ.out, ← HM.out, List.drop_of_length_le (by rw [HL.out]; omega)]
            rfl
          by_cases hnk : n < k
          · have HN := Aside0.mk (show longF xs (j + 1) = (j, k) by rw [longF, hF.out, hzk, if_pos hnk])
            clear hzk
            go_wp2_with fail
            exact ⟨⟨j + 1, j, k, by go_num, rfl, rfl, by omega, by omega, by omega, HN⟩, by simp [intOf]; omega⟩
          · have HN := Aside0.mk (show longF xs (j + 1) = (a, n) by rw [longF, hF.out, hzk, if_neg hnk])
            clear hzk
            go_wp2_with fail
            exact ⟨⟨j + 1, a, n, by go_num, rfl, rfl, by omega, by omega, by omega, HN⟩, by simp [intOf]; omega⟩
    · obtain rfl : j = 8 := by omega
      have HF := Lib.hid hF.out
      go_wp2_with fail
      go_ret2
      exact ⟨by rw [HF.out]; rfl, HB.out⟩
end Go.Proofs.YtfieiigefllekaaGreatDoor

/- (six.Addr).Text: as it is written. -/
namespace Go.Proofs.YtfieiigefllekaaGreatDoor
open Go.RowKit Go.Proofs.YtfieiigefllekaaGreatDoorW.PrintWords Go.Proofs.YtfieiigefllekaaGreatDoorW.PrintMore

theorem add_at (b off i : Nat) : (⟨b, off, none⟩ : Addr).add i = ⟨b, off + i, none⟩ := by unfold Addr.add; split <;> simp_all
theorem i64_small' (n : Int) (h0 : -1000000 ≤ n) (h1 : n ≤ 1000000) : IntKind.i64.wrap n = n := by
  simp [IntKind.wrap, IntKind.signed, IntKind.bits]
  omega
/-- An address of eight pieces, written. -/
def textL6 (xs : List Int) : List UInt8 := if (longF xs 8).2 < 2 then wordsL xs else wordsL (xs.take (longF xs 8).1) ++ [58, 58] ++ wordsL (xs.drop ((longF xs 8).1 + (longF xs 8).2))
theorem pieces_bd (hi lo : Int) (h0 : 0 ≤ hi ∧ hi < 18446744073709551616) (h1 : 0 ≤ lo ∧ lo < 18446744073709551616) : ∀ x ∈ piecesOf hi lo, 0 ≤ x ∧ x ≤ 65535 := by
  intro x hx
  simp only [piecesOf, List.mem_cons, List.not_mem_nil, or_false] at hx
  rcases hx with rfl | rfl | rfl | rfl | rfl | rfl | rfl | rfl <;> omega

set_option maxHeartbeats 4000000 in
set_option maxRecDepth 100000 in
theorem Text6_calls (hi lo : Int) (h0 : 0 ≤ hi ∧ hi < 18446744073709551616) (h1 : 0 ≤ lo ∧ lo < 18446744073709551616) (w : World) (hP : Aside0 (Pows w)) (hT : Aside0 (Debr w)) :
    Calls Tryz.prog 19 #[.agg #[.int .u64 hi, .int .u64 lo]] w fun e w' => e = .returned (.string ⟨(textL6 (piecesOf hi lo)).toArray⟩) ∧ Below w.heap.size w w' := by
  have hpb := pieces_bd hi lo h0 h1
  go_enter Tryz.func19, Tryz.ntmps19
  go_wp2_with fail
  refine (Pieces_calls hi lo h0 h1 _).mono ?_
  rintro e w1 ⟨rfl, b1⟩
  obtain ⟨p0, hp0⟩ : ∃ p0, p0 = hi / 281474976710656 := ⟨_, rfl⟩
  obtain ⟨p1, hp1⟩ : ∃ p1, p1 = hi / 4294967296 % 65536 := ⟨_, rfl⟩
  obtain ⟨p2, hp2⟩ : ∃ p2, p2 = hi / 65536 % 65536 := ⟨_, rfl⟩
  obtain ⟨p3, hp3⟩ : ∃ p3, p3 = hi % 65536 := ⟨_, rfl⟩
  obtain ⟨p4, hp4⟩ : ∃ p4, p4 = lo / 281474976710656 := ⟨_, rfl⟩
  obtain ⟨p5, hp5⟩ : ∃ p5, p5 = lo / 4294967296 % 65536 := ⟨_, rfl⟩
  obtain ⟨p6, hp6⟩ : ∃ p6, p6 = lo / 65536 % 65536 := ⟨_, rfl⟩
  obtain ⟨p7, hp7⟩ : ∃ p7, p7 = lo % 65536 := ⟨_, rfl⟩
  have HPO := Lib.hid (show piecesOf hi lo = [p0, p1, p2, p3, p4, p5, p6, p7] by rw [hp0, hp1, hp2, hp3, hp4, hp5, hp6, hp7]; rfl)
  rw [HPO.out] at hpb
  rw [← hp0, ← hp1, ← hp2, ← hp3, ← hp4, ← hp5, ← hp6, ← hp7]
  clear hp0 hp1 hp2 hp3 hp4 hp5 hp6 hp7
  have HB1 : Aside0 (Below w.heap.size w w1) := ⟨below_then ((Below.refl _ _).alloc (Nat.le_refl _) _) (by simp) b1⟩
  have HPB := Aside0.mk hpb
  clear b1 hpb
  go_wp2_with fail
  obtain ⟨W2, hW2⟩ : ∃ W2, W2 = w1.alloc (.cells #[.int .u16 p0, .int .u16 p1, .int .u16 p2, .int .u16 p3, .int .u16 p4, .int .u16 p5, .int .u16 p6, .int .u16 p7] 32) := ⟨_, rfl⟩
  rw [← hW2]
  have hg : W2.heap[w1.heap.size]? = some (.cells #[.int .u16 p0, .int .u16 p1, .int .u16 p2, .int .u16 p3, .int .u16 p4, .int .u16 p5, .int .u16 p6, .int .u16 p7] 32 (0, 0)) := by rw [hW2]; exact heap_alloc_new' _ _ _ rfl
  have hlt : w1.heap.size < W2.heap.size := by rw [hW2]; simp
  have HB2 : Aside0 (Below w.heap.size w W2) := ⟨by rw [hW2]; exact HB1.out.alloc HB1.out.size _⟩
  have HG := Aside0.mk hg
  clear hW2 hg
  generalize w1.heap.size = g at *
  refine (longest_calls p0 p1 p2 p3 p4 p5 p6 p7 _).mono ?_
  rintro e w3 ⟨rfl, b3⟩
  have hg3 := (b3.block g hlt).trans HG.out
  have HB3 := Aside0.mk (below_then HB2.out HB2.out.size b3)
  have hlt3 : g < w3.heap.size := Nat.lt_of_lt_of_le hlt b3.size
  have hbd := longF_bd [p0, p1, p2, p3, p4, p5, p6, p7] rfl 8 (Nat.le_refl _)
  have hcells : ∀ j v, (u16s [p0, p1, p2, p3, p4, p5, p6, p7])[j]? = some v → w3.cell? ⟨g, j, none⟩ = some v := fun j v hv => (heap_cell (cs := (u16s [p0, p1, p2, p3, p4, p5, p6, p7]).toArray) hg3 (by simpa using hv)).1
  have HC := Aside0.mk hcells
  clear hcells hg3 b3
  have HLL := Lib.hid (show ([p0, p1, p2, p3, p4, p5, p6, p7] : List Int).length = 8 from rfl)
  obtain ⟨xs, hxs⟩ : ∃ xs, xs = [p0, p1, p2, p3, p4, p5, p6, p7] := ⟨_, rfl⟩
  rw [← hxs] at HPO HPB HC HLL hbd ⊢
  clear hxs
  obtain ⟨a, ha⟩ : ∃ a, a = (longF xs 8).1 := ⟨_, rfl⟩
  obtain ⟨n, hn⟩ : ∃ n, n = (longF xs 8).2 := ⟨_, rfl⟩
  rw [← ha, ← hn] at hbd ⊢
  have HTX := Lib.hid (show textL6 (piecesOf hi lo) = if n < 2 then wordsL xs else wordsL (xs.take a) ++ [58, 58] ++ wordsL (xs.drop (a + n)) by rw [HPO.out, textL6, ← ha, ← hn])
  clear ha hn
  have hlx := HLL.out
  by_cases hn2 : n < 2
  · have hn2' : (n : Int) < 2 := by omega
    clear hlx
    go_wp2_with fail
    have hw := words_calls (some ⟨g, 0, none⟩) 8 xs w3 (by rw [HLL.out]; omega) (by rw [HLL.out]; omega) HPB.out (fun _ => ⟨_, rfl, fun j v hv => by rw [Go.Proofs.YtfieiigefllekaaGreatDoorW.PrintWords.add_plain]; exact HC.out j v hv⟩) ⟨hP.out.stays HB3.out⟩ ⟨hT.out.stays HB3.out⟩
    rw [HLL.out] at hw
    refine hw.mono ?_
    rintro e w4 ⟨rfl, b4⟩
    have HB4 := Aside0.mk (below_then HB3.out HB3.out.size b4)
    clear b4 hw
    go_wp2_with fail
    go_ret
    exact ⟨by rw [HTX.out, if_pos hn2]; rfl, HB4.out⟩
  · have hn2' : ¬ (n : Int) < 2 := by omega
    have hta : (xs.take a).length = a := by rw [List.length_take, HLL.out]; omega
    have hbt : ∀ x ∈ xs.take a, 0 ≤ x ∧ x ≤ 65535 := fun x hx => HPB.out x (List.mem_of_mem_take hx)
    have hbdr : ∀ x ∈ xs.drop (a + n), 0 ≤ x ∧ x ≤ 65535 := fun x hx => HPB.out x (List.mem_of_mem_drop hx)
    have hw1 := words_calls (some ⟨g, 0, none⟩) 8 (xs.take a) w3.drew (by rw [hta]; omega) (by rw [hta]; omega) hbt (fun _ => ⟨_, rfl, fun j v hv => by
      rw [Go.Proofs.YtfieiigefllekaaGreatDoorW.PrintWords.add_plain]
      refine HC.out j v ?_
      rw [u16s, List.map_take, List.getElem?_take] at hv
      split at hv
      · exact hv
      · cases hv⟩) ⟨hP.out.stays HB3.out.drew⟩ ⟨hT.out.stays HB3.out.drew⟩
    rw [hta] at hw1
    have HW1 := Aside0.mk hw1
    have hdl : (xs.drop (a + n)).length = 8 - (a + n) := by rw [List.length_drop, HLL.out]
    have HW2 : Aside0 (∀ W, Below w3.drew.heap.size w3.drew W → ∀ (A : Option Addr) (c : Nat), 8 - (a + n) ≤ c → (a + n < 8 → A = some ⟨g, a + n, none⟩) → Calls Tryz.prog 62 #[.slice A (8 - (a + n)) c] W fun e w' => e = .returned (.string ⟨(wordsL (xs.drop (a + n))).toArray⟩) ∧ Below W.heap.size W w') := ⟨fun W hW A c hc hA => by
      have hBW := below_then HB3.out.drew HB3.out.drew.size hW
      have h := words_calls A c (xs.drop (a + n)) W (by rw [hdl]; exact hc) (by rw [hdl]; omega) hbdr (fun hpos => ⟨_, hA (by rw [hdl] at hpos; omega), fun j v hv => by
        rw [u16s, List.map_drop, List.getElem?_drop] at hv
        have h1 := HC.out (a + n + j) v hv
        rw [show (⟨g, a + n, none⟩ : Addr).add j = ⟨g, a + n + j, none⟩ from add_at g (a + n) j]
        exact (hW.cell (p := ⟨g, a + n + j, none⟩) hlt3).trans h1⟩) ⟨hP.out.stays hBW⟩ ⟨hT.out.stays hBW⟩
      rw [hdl] at h
      exact h⟩
    have HS1 := wordsL_len (xs.take a) (fun x hx => (hbt x hx).2)
    have HS2 := wordsL_len (xs.drop (a + n)) (fun x hx => (hbdr x hx).2)
    rw [hta] at HS1
    rw [hdl] at HS2
    have HBD3 : Aside0 (Below w.heap.size w w3.drew) := ⟨HB3.out.drew⟩
    clear hw1 hbt hbdr hta hdl hlx
    obtain ⟨m, hm⟩ : ∃ m, m = a + n := ⟨_, rfl⟩
    have hmi : IntKind.i64.wrap ((a : Int) + (n : Int)) = (m : Int) := by
      rw [i64_small' _ (by omega) (by omega)]
      omega
    have hm8 : (m : Int) ≤ 8 := by omega
    have hm0 : (0 : Int) ≤ (m : Int) := by omega
    have ha8 : (a : Int) ≤ 8 := by omega
    have ha0 : (0 : Int) ≤ (a : Int) := by omega
    rw [← hm] at HW2 HS2 HTX
    obtain ⟨S1, hS1⟩ : ∃ S1 : ByteArray, S1 = ⟨(wordsL (xs.take a)).toArray⟩ := ⟨_, rfl⟩
    obtain ⟨S2, hS2⟩ : ∃ S2 : ByteArray, S2 = ⟨(wordsL (xs.drop m)).toArray⟩ := ⟨_, rfl⟩
    rw [← hS1] at HW1
    rw [← hS2] at HW2
    have hz1 : S1.size ≤ 200 := by rw [hS1]; show (wordsL (xs.take a)).toArray.size ≤ 200; rw [List.size_toArray]; omega
    have hz2 : S2.size ≤ 200 := by rw [hS2]; show (wordsL (xs.drop m)).toArray.size ≤ 200; rw [List.size_toArray]; omega
    have hz3 : (S1 ++ ⟨#[58, 58]⟩).size ≤ 300 := by rw [ByteArray.size_append]; show S1.size + 2 ≤ 300; omega
    have HTX2 := Lib.hid (show (S1 ++ ⟨#[58, 58]⟩ ++ S2).data.toList = textL6 (piecesOf hi lo) by rw [HTX.out, if_neg hn2, hS1, hS2]; simp)
    clear hS1 hS2 HS1 HS2 hm hbd
    by_cases hm7 : m < 8
    · have hne : ¬ 8 = m := by omega
      go_wp2_with fail
      go_region_with (first
        | (go_at_call_of 62 (Value.slice (some ⟨g, 0, none⟩) a 8); refine HW1.out.mono ?_; rintro e w4 ⟨rfl, b4⟩)
        | (go_at_call 62; refine (HW2.out _ (by assumption) _ _ (Nat.le_refl _) (fun _ => rfl)).mono ?_; rintro e w5 ⟨rfl, b5⟩))
      all_goals
        go_wp2_with fail
        go_ret
        refine ⟨congrArg (fun s => Ending.returned (.string s)) (bytes_of _ _ HTX2.out), ?_⟩
        exact below_then HBD3.out HBD3.out.size (below_then b4 b4.size b5)
    · obtain rfl : m = 8 := by omega
      rw [show 8 - 8 = 0 from rfl] at HW2
      go_wp2_with fail
      go_region_with (first
        | (go_at_call_of 62 (Value.slice (some ⟨g, 0, none⟩) a 8); refine HW1.out.mono ?_; rintro e w4 ⟨rfl, b4⟩)
        | (go_at_call 62; refine (HW2.out _ (by assumption) _ _ (Nat.le_refl _) (fun h => absurd h (by omega))).mono ?_; rintro e w5 ⟨rfl, b5⟩))
      all_goals
        go_wp2_with fail
        go_ret
        refine ⟨congrArg (fun s => Ending.returned (.string s)) (bytes_of _ _ HTX2.out), ?_⟩
        exact below_then HBD3.out HBD3.out.size (below_then b4 b4.size b5)
end Go.Proofs.YtfieiigefllekaaGreatDoor

/- The chapter's examples of layer 5: plain Lean. -/
namespace Go.Proofs.YtfieiigefllekaaGreatDoor
open Go.RowKit Go.Proofs.YtfieiigefllekaaGreatDoorW.PrintWords

theorem six_x1 : sixL [58, 58, 102, 102, 102, 102, 58, 49, 46, 50, 46, 51, 46, 52] = some [0, 0, 0, 0, 0, 65535, 258, 772] := by decide +kernel
theorem six_x2 : sixL [49, 58, 50, 58, 51, 58, 52, 58, 53, 58, 54, 58, 55] = none := by decide +kernel
theorem text_x1 : textL6 [0, 0, 0, 0, 0, 65535, 258, 772] = [58, 58, 102, 102, 102, 102, 58, 49, 48, 50, 58, 51, 48, 52] := by decide +kernel
theorem text_x2 : textL6 [1, 0, 0, 2, 0, 0, 0, 0] = [49, 58, 48, 58, 48, 58, 50, 58, 58] := by decide +kernel
end Go.Proofs.YtfieiigefllekaaGreatDoor

/- The chapter's examples of layer 5, walked. -/
namespace Go.Proofs.YtfieiigefllekaaGreatDoor
open Go.RowKit Go.Proofs.YtfieiigefllekaaGreatDoorW.PrintWords Go.Proofs.YtfieiigefllekaaGreatDoorW.PrintMore

theorem six_v1 : sixHi [58, 58, 102, 102, 102, 102, 58, 49, 46, 50, 46, 51, 46, 52] = 0 ∧ sixLo [58, 58, 102, 102, 102, 102, 58, 49, 46, 50, 46, 51, 46, 52] = 281470698652420 ∧ sixOk [58, 58, 102, 102, 102, 102, 58, 49, 46, 50, 46, 51, 46, 52] = true := by
  have h := six_some six_x1
  exact ⟨h.1.trans (by decide), h.2.1.trans (by decide), h.2.2⟩
theorem six_v2 : sixHi [49, 58, 50, 58, 51, 58, 52, 58, 53, 58, 54, 58, 55] = 0 ∧ sixLo [49, 58, 50, 58, 51, 58, 52, 58, 53, 58, 54, 58, 55] = 0 ∧ sixOk [49, 58, 50, 58, 51, 58, 52, 58, 53, 58, 54, 58, 55] = false := six_none six_x2
theorem AwakeL4_calls (w : World) : Calls Tryz.prog 55 #[] w fun e w' => e = .returned (.bool true) ∧ Below w.heap.size w w' := by
  go_enter Tryz.func55, Tryz.ntmps55
  go_wp2_with fail
  refine (awake4_calls _).mono ?_
  rintro e w1 ⟨rfl, hb⟩
  go_wp2
  go_ret
  exact ⟨rfl, hb⟩
theorem half_x : half ((eight [1, 0, 0, 2]).take 4) = 281474976710658 ∧ half ((eight [1, 0, 0, 2]).drop 4) = 0 := by decide
theorem pcs_x1 : piecesOf 0 281470698652420 = [0, 0, 0, 0, 0, 65535, 258, 772] := by decide
theorem pcs_x2 : piecesOf 281474976710658 0 = [1, 0, 0, 2, 0, 0, 0, 0] := by decide

set_option maxHeartbeats 2000000 in
set_option maxRecDepth 100000 in
theorem awake5_calls (w : World) (hE : Aside0 (Errs w)) (hM : Aside0 (Mx w)) (hP : Aside0 (Pows w)) (hT : Aside0 (Debr w)) : Calls Tryz.prog 14 #[] w fun e w' => e = .returned (.bool true) ∧ Below w.heap.size w w' := by
  go_enter Tryz.func14, Tryz.ntmps14
  go_wp2_with fail
  refine (SixParse_calls _ _ (by decide) hE hM).mono ?_
  rintro e w1 ⟨rfl, b1⟩
  rw [show (ByteArray.mk #[58, 58, 102, 102, 102, 102, 58, 49, 46, 50, 46, 51, 46, 52]).data.toList = [58, 58, 102, 102, 102, 102, 58, 49, 46, 50, 46, 51, 46, 52] from rfl, six_v1.1, six_v1.2.1, six_v1.2.2]
  have B1 := Aside0.mk b1
  clear b1
  go_wp2_with fail
  obtain ⟨W1, hW1⟩ : ∃ W1, W1 = w1.alloc (.cells #[.int .u64 0, .int .u64 281470698652420] 25) := ⟨_, rfl⟩
  rw [← hW1]
  have hg : W1.heap[w1.heap.size]? = some (.cells #[.int .u64 0, .int .u64 281470698652420] 25 (0, 0)) := by rw [hW1]; exact heap_alloc_new' _ _ _ rfl
  have hlt : w1.heap.size < W1.heap.size := by rw [hW1]; simp
  have BW1 : Aside0 (Below w.heap.size w W1) := ⟨by rw [hW1]; exact B1.out.alloc B1.out.size _⟩
  have HG := Aside0.mk hg
  clear hW1 hg
  generalize w1.heap.size = g at *
  refine (SixParse_calls _ _ (by decide) ⟨hE.out.stays BW1.out⟩ ⟨hM.out.stays BW1.out⟩).mono ?_
  rintro e w2 ⟨rfl, b2⟩
  rw [show (ByteArray.mk #[49, 58, 50, 58, 51, 58, 52, 58, 53, 58, 54, 58, 55]).data.toList = [49, 58, 50, 58, 51, 58, 52, 58, 53, 58, 54, 58, 55] from rfl, six_v2.1, six_v2.2.1, six_v2.2.2]
  have hg2 := (b2.block g hlt).trans HG.out
  have B2 := Aside0.mk (below_then BW1.out BW1.out.size b2)
  have hlt2 : g < w2.heap.size := Nat.lt_of_lt_of_le hlt b2.size
  clear b2
  go_wp2_with fail
  obtain ⟨W2, hW2⟩ : ∃ W2, W2 = w2.alloc (.cells #[.int .u64 0, .int .u64 0] 25) := ⟨_, rfl⟩
  rw [← hW2]
  have hg3 : W2.heap[g]? = some (.cells #[.int .u64 0, .int .u64 281470698652420] 25 (0, 0)) := by rw [hW2, heap_alloc_old' _ _ _ hlt2]; exact hg2
  have BW2 : Aside0 (Below w.heap.size w W2) := ⟨by rw [hW2]; exact B2.out.alloc B2.out.size _⟩
  have hlt3 : g < W2.heap.size := by rw [hW2]; simp; omega
  have HG3 := Aside0.mk hg3
  clear hW2 hg2 hg3
  refine (AwakeL4_calls _).mono ?_
  rintro e w3 ⟨rfl, b3⟩
  have hg4 := (b3.block g hlt3).trans HG3.out
  have B3 := Aside0.mk (below_then BW2.out BW2.out.size b3)
  obtain ⟨c0, _⟩ := heap_cell (j := 0) hg4 rfl
  obtain ⟨c1, _⟩ := heap_cell (j := 1) hg4 rfl
  clear b3 hg4
  go_wp2_with fail
  refine (Text6_calls 0 281470698652420 (by omega) (by omega) _ ⟨hP.out.stays B3.out⟩ ⟨hT.out.stays B3.out⟩).mono ?_
  rintro e w4 ⟨rfl, b4⟩
  have B4 := Aside0.mk (below_then B3.out B3.out.size b4)
  rw [pcs_x1, text_x1]
  clear b4 c0 c1
  go_wp2_with fail
  have hs := SixOf_calls (some ⟨w4.heap.size, 0, none⟩) 4 [1, 0, 0, 2] (w4.alloc (.cells #[.int .u16 1, .int .u16 0, .int .u16 0, .int .u16 2] 31)) (by decide) (by decide) (fun _ => ⟨_, rfl, fun j v hv => by
    rw [Go.Proofs.YtfieiigefllekaaGreatDoorW.PrintWords.add_plain, World.cell?_alloc_new]
    exact (by simpa [u16s] using hv)⟩)
  rw [half_x.1, half_x.2, show ([1, 0, 0, 2] : List Int).length = 4 from rfl] at hs
  refine hs.mono ?_
  rintro e w5 ⟨rfl, b5⟩
  have B5 : Aside0 (Below w.heap.size w w5) := ⟨below_then (B4.out.alloc B4.out.size _) (by have := B4.out.size; simp; omega) b5⟩
  clear b5 hs
  go_wp2_with fail
  refine (Text6_calls 281474976710658 0 (by omega) (by omega) _ ⟨hP.out.stays B5.out⟩ ⟨hT.out.stays B5.out⟩).mono ?_
  rintro e w6 ⟨rfl, b6⟩
  have B6 := Aside0.mk (below_then B5.out B5.out.size b6)
  rw [pcs_x2, text_x2]
  clear b6
  go_wp2_with fail
  go_ret
  exact ⟨by simp, B6.out⟩
end Go.Proofs.YtfieiigefllekaaGreatDoor
