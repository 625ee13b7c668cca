/- Texts that the claim's row leans on, joined by wip/pack.py: RSix3 Ad2 Pf5 WEqStruct Pf6 Pf7 Chr AdT1 AdE Ad3 TrP PfT Pf8 Pf9 Aw5P Aw4 Aw5 Aw6 Aw7 PrefixReads Wrap -/
import Derived.Test.YtplehdcnnaamkaaGreatDoorKPrefixReads3
import Derived.Laws.StructEq
import Derived.BigRegion
import Derived.Deep.Cut
import Derived.Deep.CutRange
import Derived.Handed
import Derived.SizedLaws
import Derived.Shelf.Vars
import Derived.ChangeSlices
import Derived.Carry
/- The document's Parse of an address of eight pieces, walked. -/
namespace Go.Proofs.YtplehdcnnaamkaaGreatDoor
open Go.RowKit Go.Proofs.YtplehdcnnaamkaaGreatDoorW.PrintWords Go.Proofs.YtplehdcnnaamkaaGreatDoorW.PrintMore

theorem ret_three {a b c d : Int} {x y : Bool} (h1 : a = c) (h2 : b = d) (h3 : x = y) : Ending.returned (.tuple #[.int .u64 a, .int .u64 b, .bool x]) = .returned (.tuple #[.int .u64 c, .int .u64 d, .bool y]) := by rw [h1, h2, h3]

theorem put8 {W : World} {base g cap : Nat} {ok : Nat → Prop} {ys : List Int} (hl : ys.length = 8) (h : Kd.R (Kd.int .i64) 3 W base ok (.slice (some ⟨g, 0, none⟩) 8 cap) ys) (m : Nat) (x : Int) : Kd.R (Kd.int .i64) 3 (W.setCell ⟨g, m, none⟩ (.int .i64 x)) base ok (.slice (some ⟨g, 0, none⟩) 8 cap) (ys.set m x) := by
  rw [← hl] at h ⊢
  have := (Kd.R_put h (m : Int) x).1
  rwa [Int.toNat_natCast] at this
theorem cell8 {W : World} {base g cap : Nat} {ok : Nat → Prop} {ys : List Int} (hl : ys.length = 8) (h : Kd.R (Kd.int .i64) 3 W base ok (.slice (some ⟨g, 0, none⟩) 8 cap) ys) (m : Nat) (hm : m < 8) : W.cell? ⟨g, m, none⟩ = some (.int .i64 (ys.getD m 0)) ∧ W.frozen? ⟨g, m, none⟩ = false := by
  rw [← hl] at h
  have := Kd.R_cell 0 h (m : Int) (by omega) (by omega)
  rw [Int.toNat_natCast] at this
  refine ⟨this.1.trans ?_, this.2⟩
  rw [rdOf, Int.toNat_natCast, List.getD_eq_getElem?_getD]
theorem make8 {W : World} {base : Nat} {ok : Nat → Prop} {v : Value} (h : Kd.R (Kd.int .i64) 3 W base ok v (List.replicate (8 : Int).toNat 0)) : ∃ g cap, v = .slice (some ⟨g, 0, none⟩) 8 cap ∧ 8 ≤ cap ∧ base ≤ g ∧ g < W.heap.size ∧ Kd.R (Kd.int .i64) 3 W base ok (.slice (some ⟨g, 0, none⟩) 8 cap) (List.replicate 8 0) := by
  obtain ⟨g, cap, rfl, h1, h2, _⟩ := Kd.R_form h (by decide)
  obtain ⟨A, c, e, hc, _⟩ := Kd.R_reads h
  injection e with e1 e2 e3
  subst e3
  exact ⟨g, cap, rfl, hc, h1, h2, h⟩
theorem copied (p : List Int) (j : Nat) (ys : List Int) (hj : j < p.length) (h8 : p.length ≤ 8) (hy : ys = p.take j ++ List.replicate (8 - j) 0) : ys.set j (p.getD j 0) = p.take (j + 1) ++ List.replicate (8 - (j + 1)) 0 := by
  have := copy_step [] p 8 j hj h8
  simp only [List.nil_append, List.length_nil, Nat.zero_add] at this
  rw [hy, this]
theorem copied2 (p r : List Int) (np nr j o : Nat) (ys : List Int) (hp : np = p.length) (hr : nr = r.length) (ho : o + nr = 8) (h7 : np + nr ≤ 7) (hj : j < r.length) (hy : ys = (p ++ List.replicate (8 - (np + nr)) 0) ++ (r.take j ++ List.replicate (nr - j) 0)) : ys.set (o + j) (r.getD j 0) = (p ++ List.replicate (8 - (np + nr)) 0) ++ (r.take (j + 1) ++ List.replicate (nr - (j + 1)) 0) := by
  have := copy_step (p ++ List.replicate (8 - (np + nr)) 0) r nr j hj (by omega)
  rw [List.length_append, List.length_replicate, ← hp, show np + (8 - (np + nr)) + j = o + j by omega] at this
  rw [hy, this]
theorem copied0 (p : List Int) (np nr : Nat) (ys : List Int) (hp : np = p.length) (h7 : np + nr ≤ 7) (hy : ys = p.take np ++ List.replicate (8 - np) 0) : ys = (p ++ List.replicate (8 - (np + nr)) 0) ++ (([] : List Int) ++ List.replicate nr 0) := by
  rw [hy, hp, List.take_length, List.nil_append, List.append_assoc, List.replicate_append_replicate]
  congr 2
  omega
theorem C_int_get {w : World} {A : Option Addr} {xs : List Int} (h : Kd.C (Kd.int .i64) w A xs.length xs) (j : Nat) (hj : j < xs.length) : ∃ ad, A = some ad ∧ w.cell? (ad.add j) = some (.int .i64 (xs.getD j 0)) := by
  obtain ⟨ad, rfl⟩ := C_some h (by omega)
  refine ⟨ad, rfl, ?_⟩
  rw [C_int_at h j hj, List.getD_eq_getElem?_getD, List.getElem?_eq_getElem hj]
  rfl

set_option maxHeartbeats 8000000 in
set_option maxRecDepth 100000 in
theorem rParse5_calls (s : ByteArray) (w : World) (hs : s.size ≤ 900000) :
    Calls Tryz.prog 113 #[.string s] w fun e w' => e = .returned (.tuple #[.int .u64 (sixHi s.data.toList), .int .u64 (sixLo s.data.toList), .bool (sixOk s.data.toList)]) ∧ Below w.heap.size w w' := by
  go_enter Tryz.func113, Tryz.ntmps113
  go_wp2_with fail
  go_loop [5, 6] (fun a i => ∃ j : Nat, i = .int .i64 j ∧ ((a = .int .i64 (-1) ∧ j ≤ s.size ∧ Aside0 (dcol s.data.toList = (dcol (s.data.toList.drop j)).map fun p => (s.data.toList.take j ++ p.1, p.2))) ∨ (∃ k : Nat, a = .int .i64 k ∧ j = k + 1 ∧ k + 1 < s.size ∧ Aside0 (dcol s.data.toList = some (s.data.toList.take k, s.data.toList.drop (k + 2)))))) (fun _ i => s.size - (intOf i).toNat)
  case atStart => exact ⟨0, rfl, .inl ⟨rfl, by omega, ⟨by simp⟩⟩⟩
  case round =>
    obtain ⟨j, rfl, ⟨rfl, hj, hd⟩ | ⟨k, rfl, rfl, hk, hd⟩⟩ := hrel
    · obtain ⟨m, hm⟩ : ∃ m : Nat, m = j + 1 := ⟨_, rfl⟩
      have hmi : (j : Int) + 1 = (m : Int) := by omega
      have HM := Lib.hid hm
      by_cases hlt : m < s.size
      · have hjs : j < s.size := by omega
        by_cases h1 : (s[j]'hjs).toNat = 58
        · by_cases h2 : (s[m]'hlt).toNat = 58
          · have HF := Lib.hid (show dcol s.data.toList = some (s.data.toList.take j, s.data.toList.drop (j + 2)) by
              subst hm
              exact dcol_found s j hlt h1 h2 hd.out)
            clear hm
            go_wp2_with fail
            exact ⟨⟨m, by go_num, .inr ⟨j, rfl, HM.out, by have := HM.out; omega, ⟨HF.out⟩⟩⟩, by have := HM.out; simp [intOf]; omega⟩
          · have HF := Lib.hid (show dcol s.data.toList = (dcol (s.data.toList.drop m)).map fun p => (s.data.toList.take m ++ p.1, p.2) by
              subst hm
              exact dcol_on s j hlt (fun h => h2 h.2) hd.out)
            clear hm
            go_wp2_with fail
            exact ⟨⟨m, by go_num, .inl ⟨rfl, by omega, ⟨HF.out⟩⟩⟩, by have := HM.out; simp [intOf]; omega⟩
        · have HF := Lib.hid (show dcol s.data.toList = (dcol (s.data.toList.drop m)).map fun p => (s.data.toList.take m ++ p.1, p.2) by
            subst hm
            exact dcol_on s j hlt (fun h => h1 h.1) hd.out)
          clear hm
          go_wp2_with fail
          exact ⟨⟨m, by go_num, .inl ⟨rfl, by omega, ⟨HF.out⟩⟩⟩, by have := HM.out; simp [intOf]; omega⟩
      · have HF := Lib.hid (show docL s.data.toList = match listD true s.data.toList with
            | none => none
            | some q => if q.length = 8 then some q else none from doc_plain (dcol_over s j (by omega) hd.out))
        clear hm hd
        go_wp2_with fail
        refine (rlist_calls s true _ hs).mono ?_
        rintro e w1 ⟨hb, ⟨hn, rfl⟩ | ⟨q, v, hq, rfl, hR⟩⟩
        · have HZ := Aside0.mk (doc_none (by rw [HF.out, hn]))
          go_wp2_with fail
          go_ret3
          exact ⟨ret_three HZ.out.1.symm HZ.out.2.1.symm HZ.out.2.2.symm, hb⟩
        · obtain ⟨A, c, rfl, hcap, hC⟩ := Kd.R_reads hR
          by_cases h8 : q.length = 8
          · have HZ := Aside0.mk (doc_some (show docL s.data.toList = some q by rw [HF.out, hq]; exact if_pos h8))
            obtain ⟨ad, rfl⟩ := C_some hC (by omega)
            have hcell : ∀ j, j < 8 → w1.cell? (ad.add j) = some (.int .i64 (q.getD j 0)) := fun j hj => by
              rw [C_int_at hC j (by omega), List.getD_eq_getElem?_getD, List.getElem?_eq_getElem (by omega)]
              rfl
            have HC := Aside0.mk hcell
            have HL := Aside0.mk (listD_bd true _ q hq)
            have H8 := Lib.hid h8
            rw [h8] at hcap ⊢
            clear hR hC hcell hq h8
            go_wp2_with fail
            refine (rnumber_calls q ad c _ H8.out HL.out hcap HC.out).mono ?_
            rintro e w2 ⟨rfl, hb2⟩
            go_wp2_with fail
            go_ret3
            exact ⟨ret_three HZ.out.1.symm HZ.out.2.1.symm HZ.out.2.2.symm, below_then hb hb.size hb2⟩
          · have HZ := Aside0.mk (doc_none (show docL s.data.toList = none by rw [HF.out, hq]; exact if_neg h8))
            clear hR hC hq
            go_wp2_with fail
            go_ret3
            exact ⟨ret_three HZ.out.1.symm HZ.out.2.1.symm HZ.out.2.2.symm, hb⟩
    · obtain ⟨m, hm⟩ : ∃ m : Nat, m = k + 2 := ⟨_, rfl⟩
      have hmi : (k : Int) + 2 = (m : Int) := by omega
      have hms : m ≤ s.size := by omega
      have HF := Lib.hid (show docL s.data.toList = match listD false (s.extract 0 k).data.toList, listD true (s.extract m s.size).data.toList with
            | some p, some r => if p.length + r.length ≤ 7 then some (p ++ List.replicate (8 - (p.length + r.length)) 0 ++ r) else none
            | _, _ => none by
        rw [extract_list, hm, show (s.extract 0 k).data.toList = s.data.toList.take k by simp]
        exact doc_two hd.out)
      have hs1 : (s.extract 0 k).size ≤ 900000 := by simp; omega
      have hs2 : (s.extract m s.size).size ≤ 900000 := by simp; omega
      clear hm hd
      rcases Nat.lt_or_ge (k + 2) s.size with hB | hB
      all_goals
        go_wp2_with fail
        generalize s.extract 0 k = sa at HF hs1 ⊢
        refine (rlist_calls sa false _ hs1).mono ?_
        rintro e w1 ⟨hb, hL⟩
        have hL1 : ∃ lv lo, e = .returned (.tuple #[lv, .bool lo]) ∧ ((lo = false ∧ listD false sa.data.toList = none) ∨ ∃ p, lo = true ∧ listD false sa.data.toList = some p ∧ Kd.R (Kd.int .i64) 3 w1 w.heap.size (fun _ => True) lv p) := by
          rcases hL with ⟨hn, rfl⟩ | ⟨p, v, hp, rfl, hR⟩
          · exact ⟨_, _, rfl, .inl ⟨rfl, hn⟩⟩
          · exact ⟨_, _, rfl, .inr ⟨p, rfl, hp, hR⟩⟩
        clear hL
        obtain ⟨lv, lo, rfl, hL⟩ := hL1
        go_wp2_with fail
        generalize s.extract m s.size = sb at HF hs2 ⊢
        refine (rlist_calls sb true _ hs2).mono ?_
        rintro e w2 ⟨hb2, hR2⟩
        rcases hL with ⟨rfl, hn⟩ | ⟨p, rfl, hp, hRp⟩
        · have HZ := Aside0.mk (doc_none (show docL s.data.toList = none by rw [HF.out, hn]))
          rcases hR2 with ⟨_, rfl⟩ | ⟨r, v, _, rfl, _⟩
          all_goals
            go_wp2_with fail
            go_ret3
            exact ⟨ret_three HZ.out.1.symm HZ.out.2.1.symm HZ.out.2.2.symm, below_then hb hb.size hb2⟩
        · rcases hR2 with ⟨hn, rfl⟩ | ⟨r, v, hr, rfl, hRr⟩
          · have HZ := Aside0.mk (doc_none (show docL s.data.toList = none by rw [HF.out, hn, hp]))
            go_wp2_with fail
            go_ret3
            exact ⟨ret_three HZ.out.1.symm HZ.out.2.1.symm HZ.out.2.2.symm, below_then hb hb.size hb2⟩
          · have hRp2 := Kd.R_below hRp hb2
            obtain ⟨A, c, rfl, hcap, hC⟩ := Kd.R_reads hRp2
            obtain ⟨A', c', rfl, hcap', hC'⟩ := Kd.R_reads hRr
            have hl1 := listD_len false _ p hp
            have hl2 := listD_len true _ r hr
            rw [show sa.data.toList.length = sa.size by simp] at hl1
            rw [show sb.data.toList.length = sb.size by simp] at hl2
            by_cases h7 : p.length + r.length ≤ 7
            · have HZ := Aside0.mk (doc_some (show docL s.data.toList = some (p ++ List.replicate (8 - (p.length + r.length)) 0 ++ r) by rw [HF.out, hp, hr]; exact if_pos h7))
              have HP := Aside0.mk (fun j hj => C_int_get hC j hj)
              have HR := Aside0.mk (fun j hj => C_int_get hC' j hj)
              have HBd := Aside0.mk (show ∀ x ∈ p ++ List.replicate (8 - (p.length + r.length)) 0 ++ r, 0 ≤ x ∧ x ≤ 65535 from fun x hx => by
                rcases List.mem_append.1 hx with hx | hx
                · rcases List.mem_append.1 hx with hx | hx
                  · exact listD_bd _ _ _ hp x hx
                  · rw [(List.mem_replicate.1 hx).2]; omega
                · exact listD_bd _ _ _ hr x hx)
              have HB2 := Aside0.mk (below_then hb hb.size hb2)
              have hw2 : w.heap.size ≤ w2.heap.size := HB2.out.size
              obtain ⟨np, hnp⟩ : ∃ n, n = p.length := ⟨_, rfl⟩
              obtain ⟨nr, hnr⟩ : ∃ n, n = r.length := ⟨_, rfl⟩
              have HNP := Lib.hid hnp
              have HNR := Lib.hid hnr
              rw [← hnp] at hcap h7 ⊢
              rw [← hnr] at hcap' h7 ⊢
              have hc1 : np ≤ 9 := by omega
              have hc2 : nr ≤ 9 := by omega
              have hgt : ¬ (7 : Int) < (np : Int) + (nr : Int) := by omega
              clear hnp hnr hl1 hl2 hC hC' hRp hRp2 hRr hb hb2 hp hr HF hs1 hs2
              go_wp2_with (at_make; refine Kd.R_make (Kd.int .i64) (w0 := w2) w2.heap.size 3 rfl rfl 184 (.const (.int .i64 8)) (.const (.int .i64 8)) rfl 8 rfl rfl Tryz.underlying184 (.int .i64 0) 8 info_int rfl (by decide) (by omega) 0 (ok := fun _ => True) (okp := fun _ => True) rfl (fun _ h => h) trivial (by omega) (by decide) (Below.refl _ _) (Nat.le_refl _) ?_; intro v1 w3 ho hb3 _ _; (obtain ⟨g, cap, rfl, hcap3, hg3, hg4, hO3⟩ := make8 ho); (have HO3 := Aside0.mk hO3); (have HB3 := Aside0.mk hb3); clear ho hO3 hb3)
              go_loopw [16] (fun i wr => ∃ (j : Nat) (ys : List Int), i = .int .i64 j ∧ j ≤ np ∧ ys.length = 8 ∧ Aside0 (ys = p.take j ++ List.replicate (8 - j) 0) ∧ Aside0 (Kd.R (Kd.int .i64) 3 wr w2.heap.size (fun _ => True) (.slice (some ⟨g, 0, none⟩) 8 cap) ys) ∧ Aside0 (Below w2.heap.size w2 wr)) (fun i _ => np - (intOf i).toNat)
              case atStart => exact ⟨0, List.replicate 8 0, rfl, by omega, by simp, ⟨by simp⟩, ⟨HO3.out⟩, ⟨HB3.out⟩⟩
              case round =>
                obtain ⟨j, ys, rfl, hj, h8, hy, HO, hbw⟩ := hrel
                have hw3 : w2.heap.size ≤ wr.heap.size := hbw.out.size
                by_cases hlt : j < np
                · have hlp : j < p.length := by rw [← HNP.out]; exact hlt
                  obtain ⟨ad, rfl, hcj0⟩ := HP.out j hlp
                  have hcj := (hbw.out.cell (cell_blk hcj0)).trans hcj0
                  obtain ⟨cw, fw⟩ := cell8 h8 HO.out j (by omega)
                  have HY := Lib.hid (copied p j ys hlp (by rw [← HNP.out]; omega) hy.out)
                  generalize p.getD j 0 = x at hcj HY
                  clear hcj0 hlp
                  go_wp2_with fail
                  exact ⟨⟨j + 1, ys.set j x, by go_num, by omega, by rw [List.length_set]; exact h8, ⟨HY.out⟩, ⟨put8 h8 HO.out j x⟩, ⟨hbw.out.setCell (by show w2.heap.size ≤ g; omega) _⟩⟩, by simp [intOf]; omega⟩
                · have hjn : j = np := by omega
                  have HY := Lib.hid (copied0 p np nr ys HNP.out h7 (by rw [hy.out, hjn]))
                  obtain ⟨o, ho⟩ : ∃ o : Nat, o + nr = 8 := ⟨8 - nr, by omega⟩
                  have hoi : (8 : Int) - (nr : Int) = (o : Int) := by omega
                  have HO8 := Lib.hid ho
                  have H7 := Lib.hid h7
                  have ho8 : o ≤ 8 := by omega
                  clear hjn ho hy h7
                  go_wp2_with fail
                  go_loopw [17] (fun i wr => ∃ (j : Nat) (ys : List Int), i = .int .i64 j ∧ j ≤ nr ∧ ys.length = 8 ∧ Aside0 (ys = (p ++ List.replicate (8 - (np + nr)) 0) ++ (r.take j ++ List.replicate (nr - j) 0)) ∧ Aside0 (Kd.R (Kd.int .i64) 3 wr w2.heap.size (fun _ => True) (.slice (some ⟨g, 0, none⟩) 8 cap) ys) ∧ Aside0 (Below w2.heap.size w2 wr)) (fun i _ => nr - (intOf i).toNat)
                  case atStart => exact ⟨0, ys, rfl, by omega, h8, ⟨HY.out⟩, ⟨HO.out⟩, ⟨hbw.out⟩⟩
                  case round =>
                    clear HY HO h8 hbw
                    obtain ⟨i, zs, rfl, hi, h8, hy, HO, hbw⟩ := hrel
                    have hw4 : w2.heap.size ≤ wr.heap.size := hbw.out.size
                    by_cases hlt : i < nr
                    · have hlp : i < r.length := by rw [← HNR.out]; exact hlt
                      obtain ⟨ad, rfl, hcj0⟩ := HR.out i hlp
                      have hcj := (hbw.out.cell (cell_blk hcj0)).trans hcj0
                      obtain ⟨q, hq⟩ : ∃ q : Nat, q = o + i := ⟨_, rfl⟩
                      have hqi : (o : Int) + (i : Int) = (q : Int) := by omega
                      have hq8 : q < 8 := by have := HO8.out; omega
                      obtain ⟨cw, fw⟩ := cell8 h8 HO.out q hq8
                      have HY := Lib.hid (show zs.set q (r.getD i 0) = (p ++ List.replicate (8 - (np + nr)) 0) ++ (r.take (i + 1) ++ List.replicate (nr - (i + 1)) 0) by rw [hq]; exact copied2 p r np nr i o zs HNP.out HNR.out HO8.out H7.out hlp hy.out)
                      generalize r.getD i 0 = x at hcj HY
                      clear hcj0 hlp hq
                      go_wp2_with fail
                      exact ⟨⟨i + 1, zs.set q x, by go_num, by omega, by rw [List.length_set]; exact h8, ⟨HY.out⟩, ⟨put8 h8 HO.out q x⟩, ⟨hbw.out.setCell (by show w2.heap.size ≤ g; omega) _⟩⟩, by simp [intOf]; omega⟩
                    · have HY := Lib.hid (show zs = p ++ List.replicate (8 - (p.length + r.length)) 0 ++ r by
                        have hin : i = r.length := by rw [← HNR.out]; omega
                        rw [hy.out, hin, HNR.out, HNP.out, List.take_length, Nat.sub_self]
                        simp)
                      have hcell : ∀ j, j < 8 → wr.cell? ((⟨g, 0, none⟩ : Addr).add j) = some (.int .i64 (zs.getD j 0)) := fun j hj => by
                        rw [add_at, Nat.zero_add]
                        exact (cell8 h8 HO.out j hj).1
                      have HC := Aside0.mk hcell
                      have HBz := Aside0.mk (show ∀ x ∈ zs, 0 ≤ x ∧ x ≤ 65535 by rw [HY.out]; exact HBd.out)
                      have HZ2 := Lib.hid (show sixHi s.data.toList = half (zs.take 4) ∧ sixLo s.data.toList = half (zs.drop 4) ∧ sixOk s.data.toList = true by rw [HY.out]; exact HZ.out)
                      clear hcell hy
                      go_wp2_with fail
                      refine (rnumber_calls zs ⟨g, 0, none⟩ cap _ h8 HBz.out hcap3 HC.out).mono ?_
                      rintro e w5 ⟨rfl, hb5⟩
                      go_wp2_with fail
                      go_ret3
                      exact ⟨ret_three HZ2.out.1.symm HZ2.out.2.1.symm HZ2.out.2.2.symm, below_then HB2.out HB2.out.size (below_then hbw.out hbw.out.size hb5)⟩
            · have HZ := Aside0.mk (doc_none (show docL s.data.toList = none by rw [HF.out, hp, hr]; exact if_neg h7))
              clear hC hC' hRp hRp2 hRr
              go_wp2_with fail
              go_ret3
              exact ⟨ret_three HZ.out.1.symm HZ.out.2.1.symm HZ.out.2.2.symm, below_then hb hb.size hb2⟩
end Go.Proofs.YtplehdcnnaamkaaGreatDoor

/- Addresses of either sort: read, told as the document's; walked. -/
namespace Go.Proofs.YtplehdcnnaamkaaGreatDoor
open Go.RowKit Go.Proofs.YtplehdcnnaamkaaGreatDoorW.PrintWords Go.Proofs.YtplehdcnnaamkaaGreatDoorW.PrintMore

set_option maxRecDepth 100000 in
theorem refFour_calls (n : Int) (h0 : 0 ≤ n) (h1 : n < 4294967296) (w : World) :
    Calls Tryz.prog 72 #[.int .u32 n] w fun e w' => e = .returned (refV (some (false, 0, n))) ∧ Below w.heap.size w w' := by
  go_enter Tryz.func72, Tryz.ntmps72
  go_wp2_with fail
  refine bodyPost_ret (results_cell_row rfl _ _ w.heap.size 47 #[.bool false, .int .u64 0, .int .u64 (281470681743360 + n)] (0, 0) _ rfl (heap_alloc_new' _ _ _ rfl) Tryz.underlying47 rfl (by kernel_rfl)) rfl ?_
  exact ⟨rfl, (Below.refl _ _).alloc (Nat.le_refl _) _⟩
theorem heap_set3 {w : World} {g : Nat} {t : TypeId} {z0 z1 z2 : Value} (v0 v1 v2 : Value) (hg : w.heap[g]? = some (.cells #[z0, z1, z2] t (0, 0))) : (((w.setCell ⟨g, 0, none⟩ v0).setCell ⟨g, 1, none⟩ v1).setCell ⟨g, 2, none⟩ v2).heap[g]? = some (.cells #[v0, v1, v2] t (0, 0)) := by
  have h0 : (w.setCell ⟨g, 0, none⟩ v0).heap[g]? = some (.cells #[v0, z1, z2] t (0, 0)) := heap_setN v0 hg
  have h1 : ((w.setCell ⟨g, 0, none⟩ v0).setCell ⟨g, 1, none⟩ v1).heap[g]? = some (.cells #[v0, v1, z2] t (0, 0)) := heap_setN v1 h0
  exact heap_setN v2 h1
theorem below_set3 {B : Nat} {w w' : World} {g : Nat} (h : Below B w w') (hg : B ≤ g) (v0 v1 v2 : Value) : Below B w (((w'.setCell ⟨g, 0, none⟩ v0).setCell ⟨g, 1, none⟩ v1).setCell ⟨g, 2, none⟩ v2) := ((h.setCell hg _).setCell hg _).setCell hg _

theorem ret_ad {a b : Value} {c d : Bool} (h : a = b) (h' : c = d) : Ending.returned (.tuple #[a, .bool c]) = .returned (.tuple #[b, .bool d]) := by rw [h, h']
set_option maxHeartbeats 2000000 in
set_option maxRecDepth 100000 in
theorem AdParse_calls (s : ByteArray) (w : World) (hs : s.size ≤ 900000) (hE : Aside0 (Errs w)) (hM : Aside0 (Mx w)) :
    Calls Tryz.prog 43 #[.string s] w fun e w' => e = .returned (.tuple #[adVo (adOf s.data.toList), .bool (adOf s.data.toList).isSome]) ∧ Below w.heap.size w w' := by
  go_enter Tryz.func43, Tryz.ntmps43
  go_wp2_with fail
  refine (Strict_calls s _ hs hE).mono ?_
  rintro e w1 ⟨rfl, b1⟩
  by_cases h4 : strictOk s.data.toList = true
  · have HA := Lib.hid (show adOf s.data.toList = some (false, 0, strictN s.data.toList) from if_pos h4)
    rw [h4]
    go_wp2_with fail
    go_ret2
    exact ⟨ret_ad (by rw [HA.out]; rfl) (by rw [HA.out]; rfl), b1⟩
  · have hf : strictOk s.data.toList = false := by simpa using h4
    rw [hf]
    have H4 := Lib.hid h4
    clear h4
    go_wp2_with fail
    refine (SixParse_calls s _ hs ⟨hE.out.stays b1⟩ ⟨hM.out.stays b1⟩).mono ?_
    rintro e w2 ⟨rfl, b2⟩
    have B2 := Aside0.mk (below_then b1 b1.size b2)
    by_cases h6 : sixOk s.data.toList = true
    · have HA := Lib.hid (show adOf s.data.toList = some (true, sixHi s.data.toList, sixLo s.data.toList) by rw [adOf, if_neg H4.out, if_pos h6])
      rw [h6]
      generalize sixHi s.data.toList = hi at HA ⊢
      generalize sixLo s.data.toList = lo at HA ⊢
      go_wp2_with fail
      go_ret2
      exact ⟨ret_ad (by rw [HA.out]; rfl) (by rw [HA.out]; rfl), B2.out.alloc B2.out.size _⟩
    · have HA := Lib.hid (show adOf s.data.toList = none by rw [adOf, if_neg H4.out, if_neg h6])
      rw [show sixOk s.data.toList = false by simpa using h6]
      generalize sixHi s.data.toList = hi
      generalize sixLo s.data.toList = lo
      clear h6
      go_wp2_with fail
      go_ret2
      exact ⟨ret_ad (by rw [HA.out]; rfl) (by rw [HA.out]; rfl), B2.out.alloc B2.out.size _⟩

set_option maxHeartbeats 4000000 in
set_option maxRecDepth 100000 in
theorem refParse6_calls (s : ByteArray) (w : World) (hs : s.size ≤ 900000) :
    Calls Tryz.prog 67 #[.string s] w fun e w' => e = .returned (.tuple #[refV (adOf s.data.toList), .bool (adOf s.data.toList).isSome]) ∧ Below w.heap.size w w' := by
  have hval := strict_val s.data.toList
  go_enter Tryz.func67, Tryz.ntmps67
  go_wp2_with fail
  obtain ⟨W0, hW0⟩ : ∃ W0, W0 = w.alloc (.cells #[.bool false, .int .u64 0, .int .u64 0] 47) := ⟨_, rfl⟩
  try rw [← hW0]
  have hg0 : W0.heap[w.heap.size]? = some (.cells #[.bool false, .int .u64 0, .int .u64 0] 47 (0, 0)) := by rw [hW0]; exact heap_alloc_new' _ _ _ rfl
  have hl0 : w.heap.size < W0.heap.size := by rw [hW0]; simp
  have B0 : Below w.heap.size w W0 := by rw [hW0]; exact (Below.refl _ _).alloc (Nat.le_refl _) _
  clear hW0
  refine (rStrict_calls s _ hs).mono ?_
  rintro e w1 ⟨rfl, b1⟩
  have hg1 := (b1.block _ hl0).trans hg0
  have hl1 := Nat.lt_of_lt_of_le hl0 b1.size
  have B1 := below_then B0 B0.size b1
  clear B0 b1 hg0 hl0
  by_cases h4 : strictOk s.data.toList = true
  · have HA := Lib.hid (show adOf s.data.toList = some (false, 0, strictN s.data.toList) from if_pos h4)
    have hn : 0 ≤ strictN s.data.toList ∧ strictN s.data.toList < 4294967296 := by
      rcases hval with ⟨_, _, h3⟩ | ⟨n, hn, _, _, h3, _⟩ <;> rw [h3] <;> omega
    rw [h4]
    generalize strictN s.data.toList = n at HA hn ⊢
    clear hval h4
    go_wp2_with fail
    refine (refFour_calls n hn.1 hn.2 _).mono ?_
    rintro e w2 ⟨rfl, b2⟩
    have hg2 := (b2.block _ hl1).trans hg1
    have HB2 := Aside0.mk (below_then B1 B1.size b2)
    simp only [refV, adHi, adLo]
    obtain ⟨k0, f0⟩ := heap_cell (j := 0) hg2 rfl
    obtain ⟨k1, f1⟩ := heap_cell (j := 1) hg2 rfl
    obtain ⟨k2, f2⟩ := heap_cell (j := 2) hg2 rfl
    clear b2 hg1 B1
    go_wp2_with fail
    refine bodyPost_ret (results_cell_bool rfl _ _ w.heap.size 47 #[.bool false, .int .u64 0, .int .u64 (281470681743360 + n)] (0, 0) _ rfl (heap_set3 _ _ _ hg2) Tryz.underlying47 rfl (by kernel_rfl)) rfl ?_
    exact ⟨ret_ad (by rw [HA.out]; rfl) (by rw [HA.out]; rfl), below_set3 HB2.out (Nat.le_refl _) _ _ _⟩
  · have H4 := Lib.hid h4
    rw [show strictOk s.data.toList = false by simpa using h4]
    generalize strictN s.data.toList = n
    clear h4 hval
    go_wp2_with fail
    refine (rParse5_calls s _ hs).mono ?_
    rintro e w2 ⟨rfl, b2⟩
    have hg2 := (b2.block _ hl1).trans hg1
    have HB2 := Aside0.mk (below_then B1 B1.size b2)
    obtain ⟨k0, f0⟩ := heap_cell (j := 0) hg2 rfl
    obtain ⟨k1, f1⟩ := heap_cell (j := 1) hg2 rfl
    obtain ⟨k2, f2⟩ := heap_cell (j := 2) hg2 rfl
    clear b2 hg1 B1
    by_cases h6 : sixOk s.data.toList = true
    · have HA := Lib.hid (show adOf s.data.toList = some (true, sixHi s.data.toList, sixLo s.data.toList) by rw [adOf, if_neg H4.out, if_pos h6])
      rw [h6]
      generalize sixHi s.data.toList = hi at HA ⊢
      generalize sixLo s.data.toList = lo at HA ⊢
      go_wp2_with fail
      refine bodyPost_ret (results_cell_bool rfl _ _ w.heap.size 47 #[.bool true, .int .u64 hi, .int .u64 lo] (0, 0) _ rfl (heap_set3 _ _ _ hg2) Tryz.underlying47 rfl (by kernel_rfl)) rfl ?_
      exact ⟨ret_ad (by rw [HA.out]; rfl) (by rw [HA.out]; rfl), below_set3 HB2.out (Nat.le_refl _) _ _ _⟩
    · have HA := Lib.hid (show adOf s.data.toList = none by rw [adOf, if_neg H4.out, if_neg h6])
      rw [show sixOk s.data.toList = false by simpa using h6]
      generalize sixHi s.data.toList = hi
      generalize sixLo s.data.toList = lo
      clear h6
      go_wp2_with fail
      refine bodyPost_ret (results_cell_bool rfl _ _ w.heap.size 47 #[.bool false, .int .u64 0, .int .u64 0] (0, 0) _ rfl (heap_set3 _ _ _ hg2) Tryz.underlying47 rfl (by kernel_rfl)) rfl ?_
      exact ⟨ret_ad (by rw [HA.out]; rfl) (by rw [HA.out]; rfl), below_set3 HB2.out (Nat.le_refl _) _ _ _⟩

end Go.Proofs.YtplehdcnnaamkaaGreatDoor

/- The document's prefix of an address, and what a prefix covers; walked. -/
namespace Go.Proofs.YtplehdcnnaamkaaGreatDoor
open Go.RowKit Go.Proofs.YtplehdcnnaamkaaGreatDoorW.PrintWords Go.Proofs.YtplehdcnnaamkaaGreatDoorW.PrintMore

/-- The prefix of an address. -/
def ofV (a b n : Int) : Value := if 0 ≤ n ∧ n ≤ 128 then .agg #[.int .u64 (mHi a n.toNat), .int .u64 (mLo b n.toNat), .int .i64 n] else .agg #[.int .u64 0, .int .u64 0, .int .i64 0]
def ofOk (n : Int) : Bool := decide (0 ≤ n ∧ n ≤ 128)
end Go.Proofs.YtplehdcnnaamkaaGreatDoor

/-! ### 53. '==' of structs as_ one Bool -/
namespace Go.Proofs.YtplehdcnnaamkaaGreatDoorW.PrintWords
open Go.RowKit
section
variable {P : Program} {d : Nat} {xs ys : Array Value} {f : Field} {fs : List Field} {a b : Value} {r s : Bool} {w : World}
/-- The last field that counts. -/
theorem eqf_last (hn : (f.name == "_") = false) (ha : (part f.type xs f.offset).run P w = .ok a w) (hb : (part f.type ys f.offset).run P w = .ok b w) (he : (Op.equalIn d f.type a b).run P w = .ok r w) : (Op.eqFields d xs ys [f]).run P w = .ok r w := by
  have hn' : f.name ≠ "_" := by simpa using hn
  simp only [Op.eqFields, if_pos hn', Sem.run_bind, ha, hb, he, Result.andThen_ok]
  cases r <;> simp
theorem eqf_cons (hn : (f.name == "_") = false) (ha : (part f.type xs f.offset).run P w = .ok a w) (hb : (part f.type ys f.offset).run P w = .ok b w) (he : (Op.equalIn d f.type a b).run P w = .ok r w) (hr : (Op.eqFields d xs ys fs).run P w = .ok s w) : (Op.eqFields d xs ys (f :: fs)).run P w = .ok (r && s) w := by
  have hn' : f.name ≠ "_" := by simpa using hn
  rw [Op.eqFields]
  simp only [if_pos hn', Sem.run_bind, ha, hb, he, Result.andThen_ok]
  cases r
  · simp
  · simpa using hr
theorem eqA_of {t : TypeId} {fs : Array Field} (hu : P.underlying t = some (.struct fs)) (hp : P.stoodInHeld t = false) (h : (Op.eqFields d xs ys fs.toList).run P w = .ok r w) : (Op.equalIn (d + 1) t (.agg xs) (.agg ys)).run P w = .ok r w := by
  have hf : P.fieldsOf t = fs := by simp [Program.fieldsOf, hu]
  rw [run_equalIn_struct (P := P) w d t xs ys (by rw [hf]; exact hu) hp, hf]
  exact h
end
end Go.Proofs.YtplehdcnnaamkaaGreatDoorW.PrintWords

/- Prefixes: of an address, what one has and covers; walked. -/
namespace Go.Proofs.YtplehdcnnaamkaaGreatDoor
open Go.RowKit Go.Proofs.YtplehdcnnaamkaaGreatDoorW.PrintWords Go.Proofs.YtplehdcnnaamkaaGreatDoorW.PrintMore

set_option maxRecDepth 100000 in
theorem ep_ (d : Nat) (a b c a' b' c' : Int) (w : World) : (Op.equalIn (d + 2) 25 (.agg #[.int .u64 a, .int .u64 b, .int .i64 c]) (.agg #[.int .u64 a', .int .u64 b', .int .i64 c'])).run Tryz.prog w = .ok (a == a' && (b == b' && c == c')) w := by
  have e1 : (Op.equalIn (d + 1) 23 (.int .u64 a) (.int .u64 a')).run Tryz.prog w = .ok (a == a') w := run_equalIn_int w d 23 .u64 .u64 a a' Tryz.underlying23
  have e2 : (Op.equalIn (d + 1) 23 (.int .u64 b) (.int .u64 b')).run Tryz.prog w = .ok (b == b') w := run_equalIn_int w d 23 .u64 .u64 b b' Tryz.underlying23
  have e3 : (Op.equalIn (d + 1) 3 (.int .i64 c) (.int .i64 c')).run Tryz.prog w = .ok (c == c') w := run_equalIn_int w d 3 .i64 .i64 c c' Tryz.underlying3
  refine eqA_of Tryz.underlying25 (by kernel_rfl) ?_
  exact eqf_cons rfl (by kernel_rfl) (by kernel_rfl) e1 (eqf_cons rfl (by kernel_rfl) (by kernel_rfl) e2 (eqf_last rfl (by kernel_rfl) (by kernel_rfl) e3))
theorem ep_25 (a b c a' b' c' : Int) (w : World) : (binOp .eql 25 (.agg #[.int .u64 a, .int .u64 b, .int .i64 c]) (.agg #[.int .u64 a', .int .u64 b', .int .i64 c'])).run Tryz.prog w = .ok (.bool (a == a' && (b == b' && c == c'))) w := by
  have h := ep_ 9998 a b c a' b' c' w
  simp only [binOp]
  simp [Op.equal, Op.maxDepth, h]
theorem eg_25 (a b c a' b' c' : Int) (o1 o2 : Operand) (w : World) : (eqGuard .eql 25 o1 o2 (.agg #[.int .u64 a, .int .u64 b, .int .i64 c]) (.agg #[.int .u64 a', .int .u64 b', .int .i64 c'])).run Tryz.prog w = .ok () w := by kernel_rfl

theorem ad_bd (a : Bool × Int × Int) (h : adOk a) : (0 ≤ adHi a ∧ adHi a < 18446744073709551616) ∧ 0 ≤ adLo a ∧ adLo a < 18446744073709551616 := by
  obtain ⟨s, hi, lo⟩ := a
  cases s
  · obtain ⟨h1, h2⟩ := h
    simp only [adHi, adLo]
    omega
  · exact h
/-- The prefix of an address, or none. -/
def ofP : Option (Bool × Int × Int) → Int → Value
  | none, _ => .agg #[.int .u64 0, .int .u64 0, .int .i64 0]
  | some a, n => ofV (adHi a) (adLo a) n
def ofPok : Option (Bool × Int × Int) → Int → Bool
  | none, _ => false
  | some _, n => ofOk n
/-- Does a prefix have an address? Of nil it has none. -/
def hasO (hi lo n : Int) : Option (Bool × Int × Int) → Bool
  | none => false
  | some a => hasP hi lo n (adHi a) (adLo a)

set_option maxHeartbeats 4000000 in
set_option maxRecDepth 100000 in
theorem PfOf_calls (o : Option (Bool × Int × Int)) (ho : ∀ a, o = some a → adOk a) (n : Int) (w : World) :
    Calls Tryz.prog 18 #[adVo o, .int .i64 n] w fun e w' => e = .returned (.tuple #[ofP o n, .bool (ofPok o n)]) ∧ Below w.heap.size w w' := by
  have q4 := mw_4
  have q6 := mw_6
  obtain ⟨W0, hW0⟩ : ∃ W0, W0 = w.alloc (.cells #[.int .u64 0, .int .u64 0, .int .i64 0] 25) := ⟨_, rfl⟩
  obtain ⟨hg, hl, hb⟩ := box3 hW0
  have B0 := Aside0.mk hb
  have HW := Lib.hid hW0
  have HG := Aside0.mk hg
  clear hg hW0 hb
  rcases o with _ | a
  · simp only [adVo]
    go_enter Tryz.func18, Tryz.ntmps18
    go_wp2_with fail
    refine bodyPost_ret (results_cell_bool rfl _ _ w.heap.size 25 #[.int .u64 0, .int .u64 0, .int .i64 0] (0, 0) _ rfl (by rw [← HW.out]; exact HG.out) Tryz.underlying25 rfl (by kernel_rfl)) rfl ?_
    exact ⟨rfl, by rw [← HW.out]; exact B0.out⟩
  · have hbd := ad_bd a (ho a rfl)
    have HA := ho a rfl
    by_cases hn : 0 ≤ n ∧ n ≤ 128
    · obtain ⟨m, rfl⟩ : ∃ m : Nat, n = m := ⟨n.toNat, by omega⟩
      have E := Lib.hid (show ofP (some a) m = .agg #[.int .u64 (mHi (adHi a) m), .int .u64 (mLo (adLo a) m), .int .i64 m] by rw [ofP, ofV, if_pos hn, Int.toNat_natCast])
      have E2 := Lib.hid (show ofPok (some a) m = true from decide_eq_true hn)
      have MK := Aside0.mk (fun W => mask_calls' (adHi a) (adLo a) m (by omega) hbd.1 hbd.2 W)
      obtain ⟨sx, hi, lo⟩ := a
      cases sx
      all_goals
        simp only [adVo, adV]
        go_enter Tryz.func18, Tryz.ntmps18
        go_wp2_with fail
        try rw [← HW.out]
        first
          | refine (Wide4_calls lo HA.2.1 HA.2.2 _).mono ?_
          | refine (Wide6_calls hi lo _).mono ?_
        rintro e w1 ⟨rfl, b1⟩
        have hg1 := (b1.block _ hl).trans HG.out
        have hl1 := Nat.lt_of_lt_of_le hl b1.size
        have B1 := Aside0.mk (below_then B0.out B0.out.size b1)
        have HG1 := Aside0.mk hg1
        clear b1 hg1
        go_wp2_with fail
        refine (MK.out _).mono ?_
        rintro e w2 ⟨rfl, b2⟩
        have hg2 := (b2.block _ hl1).trans HG1.out
        have HG2 := Aside0.mk hg2
        have B2 := Aside0.mk (below_then B1.out B1.out.size b2)
        obtain ⟨k0, f0⟩ := heap_cell (j := 0) hg2 rfl
        obtain ⟨k1, f1⟩ := heap_cell (j := 1) hg2 rfl
        obtain ⟨k2, f2⟩ := heap_cell (j := 2) hg2 rfl
        clear b2 hg2
        generalize mHi _ m = x at E ⊢
        generalize mLo _ m = y at E ⊢
        go_wp2_with fail
        refine bodyPost_ret (results_cell_bool rfl _ _ w.heap.size 25 #[.int .u64 x, .int .u64 y, .int .i64 m] (0, 0) _ rfl (heap_set3 _ _ _ HG2.out) Tryz.underlying25 rfl (by kernel_rfl)) rfl ?_
        exact ⟨ret_ad E.out.symm E2.out.symm, below_set3 B2.out (Nat.le_refl _) _ _ _⟩
    · have E := Lib.hid (show ofP (some a) n = .agg #[.int .u64 0, .int .u64 0, .int .i64 0] by rw [ofP, ofV, if_neg hn])
      have E2 := Lib.hid (show ofPok (some a) n = false from decide_eq_false hn)
      obtain ⟨sx, hi, lo⟩ := a
      rcases (show n < 0 ∨ 128 < n by omega) with h0 | h0
      all_goals
        cases sx
        all_goals
          simp only [adVo, adV]
          go_enter Tryz.func18, Tryz.ntmps18
          go_wp2_with fail
          refine bodyPost_ret (results_cell_bool rfl _ _ w.heap.size 25 #[.int .u64 0, .int .u64 0, .int .i64 0] (0, 0) _ rfl (by rw [← HW.out]; exact HG.out) Tryz.underlying25 rfl (by kernel_rfl)) rfl ?_
          exact ⟨ret_ad E.out.symm E2.out.symm, by rw [← HW.out]; exact B0.out⟩
end Go.Proofs.YtplehdcnnaamkaaGreatDoor

/- Prefixes: what one has and covers; walked. -/
namespace Go.Proofs.YtplehdcnnaamkaaGreatDoor
open Go.RowKit Go.Proofs.YtplehdcnnaamkaaGreatDoorW.PrintWords Go.Proofs.YtplehdcnnaamkaaGreatDoorW.PrintMore

set_option maxHeartbeats 4000000 in
set_option maxRecDepth 100000 in
theorem PfHas_calls (hi lo n : Int) (o : Option (Bool × Int × Int)) (ho : ∀ a, o = some a → adOk a) (h0 : 0 ≤ hi ∧ hi < 18446744073709551616) (h1 : 0 ≤ lo ∧ lo < 18446744073709551616) (w : World) :
    Calls Tryz.prog 21 #[.agg #[.int .u64 hi, .int .u64 lo, .int .i64 n], adVo o] w fun e w' => e = .returned (.bool (hasO hi lo n o)) ∧ Below w.heap.size w w' := by
  obtain ⟨W0, hW0⟩ : ∃ W0, W0 = w.alloc (.cells #[.int .u64 hi, .int .u64 lo, .int .i64 n] 25) := ⟨_, rfl⟩
  obtain ⟨hg, hl, hb⟩ := box3 hW0
  have B0 := Aside0.mk hb
  have HW := Lib.hid hW0
  have HG := Aside0.mk hg
  clear hg hW0 hb
  have OF := Aside0.mk (PfOf_calls o ho n)
  have RI := Aside0.mk (Right_calls hi lo n h0 h1)
  have eq1 := ep_25
  have eq2 := eg_25
  generalize hv : adVo o = vo at OF
  have HV := Lib.hid hv
  clear hv
  cases hok : ofPok o n
  · have E := Lib.hid (show hasO hi lo n o = false by
      cases o with
      | none => rfl
      | some a => exact hasP_wrong _ _ _ _ _ (rightP_neg _ _ _ (of_decide_eq_false hok)))
    have E0 := Lib.hid (show ofP o n = .agg #[.int .u64 0, .int .u64 0, .int .i64 0] by
      cases o with
      | none => rfl
      | some a => exact if_neg (of_decide_eq_false hok))
    rw [hok, E0.out] at OF
    clear hok E0
    go_enter Tryz.func21, Tryz.ntmps21
    go_wp2_with fail
    rw [← HW.out]
    refine (OF.out _).mono ?_
    rintro e w1 ⟨rfl, b1⟩
    have B1 := Aside0.mk (below_then B0.out B0.out.size b1)
    clear b1
    go_wp2_with fail
    go_ret
    exact ⟨ret_bool E.out.symm, B1.out.alloc B1.out.size _⟩
  · obtain ⟨a, rfl⟩ : ∃ a, o = some a := by
      cases o with
      | none => cases hok
      | some a => exact ⟨a, rfl⟩
    have hn : 0 ≤ n ∧ n ≤ 128 := of_decide_eq_true hok
    obtain ⟨m, rfl⟩ : ∃ m : Nat, n = m := ⟨n.toNat, by omega⟩
    have E0 := Lib.hid (show ofP (some a) m = .agg #[.int .u64 (mHi (adHi a) m), .int .u64 (mLo (adLo a) m), .int .i64 m] by rw [ofP, ofV, if_pos hn, Int.toNat_natCast])
    have E1 := Lib.hid (show hasO hi lo m (some a) = (rightP hi lo m && (mHi (adHi a) m == hi && mLo (adLo a) m == lo)) from rfl)
    rw [hok, E0.out] at OF
    generalize mHi (adHi a) m = x at OF E1
    generalize mLo (adLo a) m = y at OF E1
    clear hok E0
    go_enter Tryz.func21, Tryz.ntmps21
    go_wp2_with fail
    rw [← HW.out]
    have hg := HG.out
    obtain ⟨k0, _⟩ := heap_cell (j := 0) hg rfl
    obtain ⟨k1, _⟩ := heap_cell (j := 1) hg rfl
    obtain ⟨k2, _⟩ := heap_cell (j := 2) hg rfl
    clear hg
    go_wp2_with fail
    refine (OF.out _).mono ?_
    rintro e w1 ⟨rfl, b1⟩
    have B1 := Aside0.mk (below_then B0.out B0.out.size b1)
    have hl1 := Nat.lt_of_lt_of_le hl b1.size
    have HG1 := Aside0.mk ((b1.block _ hl).trans HG.out)
    clear b1 k0 k1 k2
    obtain ⟨W1, hW1⟩ : ∃ W1, W1 = w1.alloc (.cells #[.int .u64 x, .int .u64 y, .int .i64 m] 25) := ⟨_, rfl⟩
    obtain ⟨hg2, hl2, hb2⟩ := box3 hW1
    have HW1 := Lib.hid hW1
    have HG2 := Aside0.mk hg2
    have B2 := Aside0.mk (below_then B1.out B1.out.size hb2)
    have HG3 := Aside0.mk ((hb2.block _ hl1).trans HG1.out)
    have hl3 := Nat.lt_of_lt_of_le hl1 hb2.size
    have hg3 := HG3.out
    clear hg2 hb2 hW1
    obtain ⟨k0, _⟩ := heap_cell (j := 0) hg3 rfl
    obtain ⟨k1, _⟩ := heap_cell (j := 1) hg3 rfl
    obtain ⟨k2, _⟩ := heap_cell (j := 2) hg3 rfl
    clear hg3
    rw [HW1.out] at k0 k1 k2
    go_wp2_with fail
    rw [← HW1.out] at k0 k1 k2 ⊢
    refine (RI.out _).mono ?_
    rintro e w2 ⟨rfl, b2⟩
    have B3 := Aside0.mk (below_then B2.out B2.out.size b2)
    have hg4 := (b2.block _ hl3).trans HG3.out
    have hg5 := (b2.block _ hl2).trans HG2.out
    clear k0 k1 k2
    obtain ⟨k0, _⟩ := heap_cell (j := 0) hg4 rfl
    obtain ⟨k1, _⟩ := heap_cell (j := 1) hg4 rfl
    obtain ⟨k2, _⟩ := heap_cell (j := 2) hg4 rfl
    obtain ⟨m0, _⟩ := heap_cell (j := 0) hg5 rfl
    obtain ⟨m1, _⟩ := heap_cell (j := 1) hg5 rfl
    obtain ⟨m2, _⟩ := heap_cell (j := 2) hg5 rfl
    clear hg4 hg5 b2
    cases hr : rightP hi lo m
    · have E := Lib.hid (show hasO hi lo m (some a) = false by rw [E1.out, hr, Bool.false_and])
      clear hr
      go_wp2_with fail
      go_ret
      exact ⟨ret_bool E.out.symm, B3.out⟩
    · have E := Lib.hid (show hasO hi lo m (some a) = (x == hi && y == lo) by rw [E1.out, hr, Bool.true_and])
      clear hr
      go_wp2_with fail
      go_ret
      exact ⟨ret_bool (by rw [E.out, Bool.beq_comm (a := x), Bool.beq_comm (a := y)]), B3.out⟩
end Go.Proofs.YtplehdcnnaamkaaGreatDoor

/- A text cut and split at one byte: plain Lean. -/
namespace Go.Proofs.YtplehdcnnaamkaaGreatDoor
open Go.RowKit Go.Proofs.YtplehdcnnaamkaaGreatDoorW.PrintWords

theorem at_chr (d c : UInt8) : isAt ⟨#[d]⟩ c = decide (c = d) := by
  by_cases h : c = d
  · subst h
    simp [isAt, Lib.indexByte]
  · have hb : (d == c) = false := beq_eq_false_iff_ne.2 fun h' => h h'.symm
    simp [isAt, Lib.indexByte, hb, h]
theorem index_chr (d a : UInt8) (r : List UInt8) : Lib.index (a :: r) [d] = if a = d then 0 else if Lib.index r [d] = -1 then -1 else Lib.index r [d] + 1 := by
  rw [Lib.index]
  by_cases h : a = d
  · subst h; simp
  · have hb : ¬ d = a := fun h' => h h'.symm
    simp [h, hb]
theorem index_chr_word (d : UInt8) (w r : List UInt8) (h : ∀ c ∈ w, c ≠ d) : Lib.index (w ++ d :: r) [d] = (w.length : Int) := by
  induction w with
  | nil => rw [List.nil_append, index_chr, if_pos rfl]; rfl
  | cons a w ih =>
    rw [List.cons_append, index_chr, if_neg (h a (by simp)), ih fun c hc => h c (by simp [hc]), if_neg (by omega)]
    simp
theorem index_chr_none (d : UInt8) (w : List UInt8) (h : ∀ c ∈ w, c ≠ d) : Lib.index w [d] = -1 := by
  induction w with
  | nil => rfl
  | cons a w ih => rw [index_chr, if_neg (h a (by simp)), if_pos (ih fun c hc => h c (by simp [hc]))]
theorem chr_key (d : UInt8) (s : List UInt8) : (∃ w r, s = w ++ d :: r ∧ ∀ c ∈ w, c ≠ d) ∨ ∀ c ∈ s, c ≠ d := by
  induction s with
  | nil => exact .inr (by simp)
  | cons a s ih =>
    by_cases h : a = d
    · exact .inl ⟨[], s, by rw [h]; rfl, by simp⟩
    · rcases ih with ⟨w, r, rfl, hw⟩ | hn
      · refine .inl ⟨a :: w, r, rfl, fun c hc => ?_⟩
        rcases List.mem_cons.1 hc with rfl | hc
        · exact h
        · exact hw c hc
      · refine .inr fun c hc => ?_
        rcases List.mem_cons.1 hc with rfl | hc
        · exact h
        · exact hn c hc
theorem cut_chr_word (d : UInt8) (w r : List UInt8) (hw : ∀ c ∈ w, c ≠ d) : Lib.cut (w ++ d :: r) [d] = (w, r, true) := by
  rw [Lib.cut, index_chr_word d w r hw, if_pos (by omega)]
  simp
theorem cut_chr_none (d : UInt8) (s : List UInt8) (h : ∀ c ∈ s, c ≠ d) : Lib.cut s [d] = (s, [], false) := by
  rw [Lib.cut, index_chr_none d s h, if_neg (by omega)]
theorem split_chr_word (d : UInt8) (w r : List UInt8) (h : ∀ c ∈ w, c ≠ d) : splitL (isAt ⟨#[d]⟩) (w ++ d :: r) = w :: splitL (isAt ⟨#[d]⟩) r := by
  induction w with
  | nil => rw [List.nil_append, splitL, if_pos (by rw [at_chr]; simp)]
  | cons a w ih => rw [List.cons_append, splitL, if_neg (by rw [at_chr]; simpa using h a (by simp)), ih fun c hc => h c (by simp [hc])]
theorem split_chr_none (d : UInt8) (w : List UInt8) (h : ∀ c ∈ w, c ≠ d) : splitL (isAt ⟨#[d]⟩) w = [w] := by
  induction w with
  | nil => rfl
  | cons a w ih => rw [splitL, if_neg (by rw [at_chr]; simpa using h a (by simp)), ih fun c hc => h c (by simp [hc])]
end Go.Proofs.YtplehdcnnaamkaaGreatDoor

/- What AddrTells leans on: Must, its panics; the document's order; walked. -/
namespace Go.Proofs.YtplehdcnnaamkaaGreatDoor
open Go.RowKit Go.Proofs.YtplehdcnnaamkaaGreatDoorW.PrintWords Go.Proofs.YtplehdcnnaamkaaGreatDoorW.PrintMore

set_option maxRecDepth 100000 in
theorem FourA4 (n : Int) (w : World) : Calls Tryz.prog 64 #[.iface 111 (.int .u32 n)] w fun e w' => e = .returned (.tuple #[.int .u32 n, .bool true]) ∧ w' = w := by
  have q := ta_44
  go_enter Tryz.func64, Tryz.ntmps64
  go_wp2_with fail
  go_ret2
  exact ⟨rfl, rfl⟩
set_option maxRecDepth 100000 in
theorem FourA6 (hi lo : Int) (w : World) : Calls Tryz.prog 64 #[.iface 34 (.agg #[.int .u64 hi, .int .u64 lo])] w fun e w' => e = .returned (.tuple #[.int .u32 0, .bool false]) ∧ w' = w := by
  have q := ta_64
  go_enter Tryz.func64, Tryz.ntmps64
  go_wp2_with fail
  go_ret2
  exact ⟨rfl, rfl⟩
end Go.Proofs.YtplehdcnnaamkaaGreatDoor

/- Equal lists of numbers, as the library tells it; walked. -/
namespace Go.Proofs.YtplehdcnnaamkaaGreatDoor
open Go.RowKit Go.Proofs.YtplehdcnnaamkaaGreatDoorW.PrintWords Go.Proofs.YtplehdcnnaamkaaGreatDoorW.PrintMore

theorem C_kget {k : IntKind} {w : World} {A : Option Addr} {xs : List Int} (h : Kd.C (Kd.int k) w A xs.length xs) (j : Nat) (hj : j < xs.length) : ∃ ad, A = some ad ∧ w.cell? (ad.add j) = some (.int k (xs.getD j 0)) := by
  obtain ⟨ad, rfl⟩ := C_some h (by omega)
  refine ⟨ad, rfl, ?_⟩
  rw [C_int_at h j hj, List.getD_eq_getElem?_getD, List.getElem?_eq_getElem hj]
  rfl
theorem take_eq_next (xs ys : List Int) (j : Nat) (hx : j < xs.length) (hy : j < ys.length) (h : xs.take j = ys.take j) (he : xs.getD j 0 = ys.getD j 0) : xs.take (j + 1) = ys.take (j + 1) := by
  rw [List.getD_eq_getElem?_getD, List.getD_eq_getElem?_getD, List.getElem?_eq_getElem hx, List.getElem?_eq_getElem hy] at he
  rw [List.take_succ_eq_append_getElem hx, List.take_succ_eq_append_getElem hy, h, show xs[j] = ys[j] from he]
theorem take_ne (xs ys : List Int) (j : Nat) (he : xs.getD j 0 ≠ ys.getD j 0) : xs ≠ ys := fun h => he (by rw [h])
set_option maxHeartbeats 2000000 in
theorem EqualF_calls (xs ys : List Int) (n m : Nat) (hn : n = xs.length) (hm : m = ys.length) (A B : Option Addr) (c c' : Nat) (w : World) (hnm : n ≤ 1000000) (hA : ∀ j, j < xs.length → ∃ ad, A = some ad ∧ w.cell? (ad.add j) = some (.int .u32 (xs.getD j 0))) (hB : ∀ j, j < ys.length → ∃ ad, B = some ad ∧ w.cell? (ad.add j) = some (.int .u32 (ys.getD j 0))) :
    Calls Tryz.prog 140 #[.slice A n c, .slice B m c'] w fun e w' => e = .returned (.bool (decide (xs = ys))) ∧ Below w.heap.size w w' := by
  have HA := Aside0.mk hA
  have HB := Aside0.mk hB
  have HN := Lib.hid hn
  have HM := Lib.hid hm
  by_cases hd : n = m
  · subst hd
    clear hA hB hn hm
    go_enter Tryz.func140, Tryz.ntmps140
    go_wp2_with fail
    go_loopw [13] (fun i wr => ∃ j : Nat, i = .int .i64 j ∧ j ≤ n ∧ Aside0 (xs.take j = ys.take j) ∧ Aside0 (Below w.heap.size w wr)) (fun i _ => n - (intOf i).toNat)
    case atStart => exact ⟨0, rfl, by omega, ⟨rfl⟩, ⟨Below.refl _ _⟩⟩
    case round =>
      obtain ⟨j, rfl, hj, ht, hbw⟩ := hrel
      by_cases hlt : j < n
      · have hjx : j < xs.length := by rw [← HN.out]; exact hlt
        have hjy : j < ys.length := by rw [← HM.out]; exact hlt
        obtain ⟨ad, rfl, cx0⟩ := HA.out j hjx
        obtain ⟨bd, rfl, cy0⟩ := HB.out j hjy
        have cx := (hbw.out.cell (cell_blk cx0)).trans cx0
        have cy := (hbw.out.cell (cell_blk cy0)).trans cy0
        have hj0 : (0 : Int) ≤ (j : Int) := by omega
        have hji : (j : Int) < (n : Int) := by omega
        by_cases he : xs.getD j 0 = ys.getD j 0
        · have HT := Lib.hid (take_eq_next xs ys j hjx hjy ht.out he)
          rw [he] at cx
          clear he cx0 cy0 hjx hjy
          generalize ys.getD j 0 = y at cx cy
          go_wp2_with fail
          go_region
          all_goals
            go_wp2_with fail
            exact ⟨⟨j + 1, by go_num, by omega, ⟨HT.out⟩, ⟨hbw.out.drew⟩⟩, by simp [intOf]; omega⟩
        · have HF := Lib.hid (show false = decide (xs = ys) from (decide_eq_false (take_ne xs ys j he)).symm)
          have hb : (xs.getD j 0 == ys.getD j 0) = false := by simpa using he
          have hb' : (xs.getD j 0 != ys.getD j 0) = true := by simpa using he
          clear cx0 cy0 hjx hjy
          generalize ys.getD j 0 = y at cx cy hb hb' he
          generalize xs.getD j 0 = x at cx hb hb' he
          go_wp2_with fail
          go_region
          all_goals
            go_wp2_with fail
            go_ret
            exact ⟨ret_bool HF.out, hbw.out.drew⟩
      · have HF := Lib.hid (show true = decide (xs = ys) by
          have := ht.out
          rw [List.take_of_length_le (by rw [← HN.out]; omega), List.take_of_length_le (by rw [← HM.out]; omega)] at this
          exact (decide_eq_true this).symm)
        go_wp2_with fail
        go_ret
        exact ⟨ret_bool HF.out, hbw.out⟩
  · have HF := Lib.hid (show false = decide (xs = ys) from (decide_eq_false (fun h => hd (by rw [hn, hm, h]))).symm)
    clear hA hB hn hm
    go_enter Tryz.func140, Tryz.ntmps140
    go_wp2_with fail
    go_ret
    exact ⟨ret_bool HF.out, Below.refl _ _⟩
end Go.Proofs.YtplehdcnnaamkaaGreatDoor

/- What an address embeds, walked. -/
namespace Go.Proofs.YtplehdcnnaamkaaGreatDoor
open Go.RowKit Go.Proofs.YtplehdcnnaamkaaGreatDoorW.PrintWords Go.Proofs.YtplehdcnnaamkaaGreatDoorW.PrintMore

def in1 (hi lo : Int) : Bool := decide ((hi = 0 ∧ lo / 4294967296 = 65535) ∨ (hi = 0 ∧ lo / 4294967296 = 0 ∧ 1 < lo % 4294967296) ∨ (hi = 28428538856079360 ∧ lo / 4294967296 = 0))
def in2 (hi : Int) : Bool := decide (hi / 281474976710656 = 8194)
def in3 (hi : Int) : Bool := decide (hi / 4294967296 = 536936448)
def in4 (lo : Int) : Bool := decide (lo / 4294967296 = 24318 ∨ lo / 4294967296 = 33578750)
def inL1 (hi lo : Int) : List Int := bif in1 hi lo then [lo % 4294967296] else []
def inL2 (hi lo : Int) : List Int := inL1 hi lo ++ (bif in2 hi then [hi / 65536 % 4294967296] else [])
def inL3 (hi lo : Int) : List Int := inL2 hi lo ++ (bif in3 hi then [hi % 4294967296, 4294967295 - lo % 4294967296] else [])
/-- What an address of eight pieces embeds. -/
def inL4 (hi lo : Int) : List Int := inL3 hi lo ++ (bif in4 lo then [lo % 4294967296] else [])
theorem info_four : (Tryz.prog.info? 111).map (fun i => (i.zero, i.size, i.bytes)) = some (some (.int .u32 0), 1, 4) := by kernel_rfl

theorem inL1_len (hi lo : Int) : (inL1 hi lo).length ≤ 1 := by
  rw [inL1]
  cases in1 hi lo <;> simp
theorem inL2_len (hi lo : Int) : (inL2 hi lo).length ≤ 2 := by
  have := inL1_len hi lo
  rw [inL2, List.length_append]
  cases in2 hi <;> simp <;> omega
theorem inL3_len (hi lo : Int) : (inL3 hi lo).length ≤ 4 := by
  have := inL2_len hi lo
  rw [inL3, List.length_append]
  cases in3 hi <;> simp <;> omega
set_option maxHeartbeats 8000000 in
set_option maxRecDepth 100000 in
theorem Inner6_calls (hi lo : Int) (_h0 : 0 ≤ hi ∧ hi < 18446744073709551616) (h1 : 0 ≤ lo ∧ lo < 18446744073709551616) (w : World) :
    Calls Tryz.prog 141 #[.iface 34 (.agg #[.int .u64 hi, .int .u64 lo])] w fun e w' => ∃ v, e = .returned v ∧ Kd.R (Kd.int .u32) 111 w' w.heap.size (fun _ => True) v (inL4 hi lo) ∧ Below w.heap.size w w' := by
  have q6 := ta_66
  go_enter Tryz.func141, Tryz.ntmps141
  go_upto_region 5 with (fail)
  obtain ⟨W1, hW1⟩ : ∃ W1, W1 = w.alloc (.cells #[.int .u64 hi, .int .u64 lo] 34) := ⟨_, rfl⟩
  rw [← hW1]
  have hg : W1.heap[w.heap.size]? = some (.cells #[.int .u64 hi, .int .u64 lo] 34 (0, 0)) := by rw [hW1]; exact heap_alloc_new' _ _ _ rfl
  have hlt : w.heap.size < W1.heap.size := by rw [hW1]; simp
  have B1 : Aside0 (Below w.heap.size w W1) := ⟨by rw [hW1]; exact (Below.refl _ _).alloc (Nat.le_refl _) _⟩
  obtain ⟨g, hgs⟩ : ∃ g, g = w.heap.size := ⟨_, rfl⟩
  rw [← hgs] at hg hlt ⊢
  have HGS := Lib.hid hgs
  have HG := Aside0.mk hg
  obtain ⟨c0, _⟩ := heap_cell (j := 0) hg rfl
  obtain ⟨c1, _⟩ := heap_cell (j := 1) hg rfl
  clear hg hgs hW1
  go_region
  obtain ⟨w1, hw1⟩ : ∃ w1, w1 = W1.drew := ⟨_, rfl⟩
  rw [← hw1]
  have hg2 : w1.heap[g]? = some (.cells #[.int .u64 hi, .int .u64 lo] 34 (0, 0)) := by rw [hw1]; exact HG.out
  have B2 : Aside0 (Below w.heap.size w w1) := ⟨by rw [hw1]; exact B1.out.drew⟩
  have hlt2 : g < w1.heap.size := by rw [hw1]; exact hlt
  have HG2 := Aside0.mk hg2
  clear hw1 HG B1 hlt c0 c1
  obtain ⟨c0, _⟩ := heap_cell (j := 0) hg2 rfl
  obtain ⟨c1, _⟩ := heap_cell (j := 1) hg2 rfl
  clear hg2
  have hlow : 0 ≤ lo % 4294967296 ∧ lo % 4294967296 < 4294967296 := by omega
  have htop : 0 ≤ lo / 4294967296 ∧ lo / 4294967296 < 4294967296 := by omega
  obtain ⟨low, hlw⟩ : ∃ l, l = lo % 4294967296 := ⟨_, rfl⟩
  obtain ⟨top, htp⟩ : ∃ l, l = lo / 4294967296 := ⟨_, rfl⟩
  rw [← hlw] at hlow ⊢
  rw [← htp] at htop ⊢
  have HLW := Lib.hid hlw
  have HTP := Lib.hid htp
  clear hlw htp
  go_upto_region 6 with (fail)
  go_cut [49] from 8 (fun s wx => ∃ c, s = .bool c ∧ Aside0 (c = in1 hi lo) ∧ w1 = wx)
  case first =>
    by_cases a1 : hi = 0
    · have b1 : (hi == 0) = true := by simpa using a1
      have b5 : (hi == 28428538856079360) = false := by rw [beq_eq_false_iff_ne]; omega
      have A1 := Lib.hid a1
      clear a1
      by_cases a2 : top = 65535
      · have b2 : (top == 65535) = true := by simpa using a2
        have A1 := Lib.hid (And.intro A1.out a2)
        clear a2
        have HI := Lib.hid (show in1 hi lo = true from decide_eq_true (by have := HLW.out; have := HTP.out; have := A1.out; omega))
        go_wp2_with fail
        go_meet
        case rel => exact ⟨_, rfl, ⟨HI.out.symm⟩, rfl⟩
      · have b2 : (top == 65535) = false := by simpa using a2
        by_cases a3 : top = 0
        · have b3 : (top == 0) = true := by simpa using a3
          have A1 := Lib.hid (And.intro A1.out (And.intro a2 a3))
          clear a2 a3
          by_cases a4 : 1 < low
          · have A1 := Lib.hid (And.intro A1.out a4)
            have HI := Lib.hid (show in1 hi lo = true from decide_eq_true (by have := HLW.out; have := HTP.out; have := A1.out; omega))
            go_wp2_with fail
            go_meet
            case rel => exact ⟨_, rfl, ⟨HI.out.symm⟩, rfl⟩
          · have A1 := Lib.hid (And.intro A1.out a4)
            have HI := Lib.hid (show in1 hi lo = false from decide_eq_false (by have := HLW.out; have := HTP.out; have := A1.out; omega))
            go_wp2_with fail
            go_meet
            case rel => exact ⟨_, rfl, ⟨HI.out.symm⟩, rfl⟩
        · have b3 : (top == 0) = false := by simpa using a3
          have A1 := Lib.hid (And.intro A1.out (And.intro a2 a3))
          clear a2 a3
          have HI := Lib.hid (show in1 hi lo = false from decide_eq_false (by have := HLW.out; have := HTP.out; have := A1.out; omega))
          go_wp2_with fail
          go_meet
          case rel => exact ⟨_, rfl, ⟨HI.out.symm⟩, rfl⟩
    · have b1 : (hi == 0) = false := by simpa using a1
      by_cases a5 : hi = 28428538856079360
      · have b5 : (hi == 28428538856079360) = true := by simpa using a5
        have A0 := Lib.hid (And.intro a1 a5)
        clear a1 a5
        by_cases a3 : top = 0
        · have b3 : (top == 0) = true := by simpa using a3
          have A1 := Lib.hid (And.intro A0.out a3)
          clear a3
          have HI := Lib.hid (show in1 hi lo = true from decide_eq_true (by have := HLW.out; have := HTP.out; have := A1.out; omega))
          go_wp2_with fail
          go_meet
          case rel => exact ⟨_, rfl, ⟨HI.out.symm⟩, rfl⟩
        · have b3 : (top == 0) = false := by simpa using a3
          have A1 := Lib.hid (And.intro A0.out a3)
          clear a3
          have HI := Lib.hid (show in1 hi lo = false from decide_eq_false (by have := HLW.out; have := HTP.out; have := A1.out; omega))
          go_wp2_with fail
          go_meet
          case rel => exact ⟨_, rfl, ⟨HI.out.symm⟩, rfl⟩
      · have b5 : (hi == 28428538856079360) = false := by simpa using a5
        have A1 := Lib.hid (And.intro a1 a5)
        clear a1 a5
        have HI := Lib.hid (show in1 hi lo = false from decide_eq_false (by have := HLW.out; have := HTP.out; have := A1.out; omega))
        go_wp2_with fail
        go_meet
        case rel => exact ⟨_, rfl, ⟨HI.out.symm⟩, rfl⟩
  case rest =>
  obtain ⟨c, rfl, hc, rfl⟩ := hcut
  go_upto_if 49 with (fail)
  go_cut [5] from 8 (fun s wx => Kd.R (Kd.int .u32) 111 wx w1.heap.size (fun _ => True) s (inL1 hi lo) ∧ Below w1.heap.size w1 wx)
  case first =>
    cases c
    · have HL := Lib.hid (show ([] : List Int) = inL1 hi lo by rw [inL1, ← hc.out]; rfl)
      go_wp2_with fail
      go_meet
      case rel => exact ⟨by rw [← HL.out]; exact Kd.R_nil _ _ _ _ _, Below.refl _ _⟩
    · have HL := Lib.hid (show [] ++ [low] = inL1 hi lo by rw [inL1, ← hc.out, HLW.out]; rfl)
      go_wp2_with ((with_reducible refine gate_builtin (b := .append) (xs := #[.tmp 50, .tmp 52]) rfl ?_); at_builtin; refine Kd.R_append (Kd.int .u32) (w0 := w1) w1.heap.size rfl (.tmp 50) (.tmp 52) 208 111 (.int .u32 0) 4 rfl Tryz.underlying208 info_four rfl (by decide) (by omega) (.slice none 0 0) [] low [.int .u32 low] (fun _ => True) (fun _ => False) rfl rfl ?aP (fun _ hk => hk.elim) ?aF ?aO ?aB ?aS ?aL ?_; (case aP => exact rfl); (case aF => exact fun _ _ => trivial); (case aO => exact (Kd.R_nil _ _ _ _ _)); (case aB => exact (Below.refl _ _)); (case aS => omega); (case aL => (simp)); intro v1 w4 ho hb hg _)
      go_meet
      case rel => exact ⟨by rw [← HL.out]; exact ho, hb⟩
  case rest =>
  obtain ⟨hO, hb⟩ := hcut
  have hs : w1.heap.size ≤ wc.heap.size := hb.size
  have hgc := (hb.block g hlt2).trans HG2.out
  clear c0 c1
  obtain ⟨c0, _⟩ := heap_cell (j := 0) hgc rfl
  obtain ⟨c1, _⟩ := heap_cell (j := 1) hgc rfl
  have HO := Aside0.mk hO
  have HB := Aside0.mk hb
  clear hO hb hgc
  go_upto_if 57 with (fail)
  go_cut [5] from 8 (fun s wx => Kd.R (Kd.int .u32) 111 wx w1.heap.size (fun _ => True) s (inL2 hi lo) ∧ Below w1.heap.size w1 wx)
  case first =>
    rcases h : (hi / 281474976710656 == 8194) with _ | _
    · have HL := Lib.hid (show inL1 hi lo = inL2 hi lo by rw [inL2, show in2 hi = false from h]; simp)
      go_wp2_with fail
      go_meet
      case rel => exact ⟨by rw [← HL.out]; exact HO.out, HB.out⟩
    · have HL := Lib.hid (show inL1 hi lo ++ [hi / 65536 % 4294967296] = inL2 hi lo by rw [inL2, show in2 hi = true from h]; simp)
      have hln := inL1_len hi lo
      go_wp2_with ((with_reducible refine gate_builtin (b := .append) (xs := #[.tmp 58, .tmp 63]) rfl ?_); at_builtin; refine Kd.R_append (Kd.int .u32) (w0 := w1) w1.heap.size rfl (.tmp 58) (.tmp 63) 208 111 (.int .u32 0) 4 rfl Tryz.underlying208 info_four rfl (by decide) (by omega) u5 (inL1 hi lo) (hi / 65536 % 4294967296) [.int .u32 (hi / 65536 % 4294967296)] (fun _ => True) (fun _ => False) rfl rfl ?aP (fun _ hk => hk.elim) ?aF ?aO ?aB ?aS ?aL ?_; (case aP => exact rfl); (case aF => exact fun _ _ => trivial); (case aO => exact HO.out); (case aB => exact HB.out); (case aS => omega); (case aL => omega); intro v1 w4 ho hb hg _)
      go_meet
      case rel => exact ⟨by rw [← HL.out]; exact ho, hb⟩
  case rest =>
  obtain ⟨hO, hb⟩ := hcut
  have hs : w1.heap.size ≤ wc.heap.size := hb.size
  have hgc := (hb.block g hlt2).trans HG2.out
  obtain ⟨c0, _⟩ := heap_cell (j := 0) hgc rfl
  obtain ⟨c1, _⟩ := heap_cell (j := 1) hgc rfl
  have HO := Aside0.mk hO
  have HB := Aside0.mk hb
  clear hO hb hgc
  have HX := Lib.hid (show (bits BinOp.xor IntKind.u32 (if IntKind.u32.signed = true then -1 else IntKind.u32.max) low) = 4294967295 - low from xor_max32 low hlow.1 hlow.2)
  go_upto_if 68 with (fail)
  go_cut [5] from 8 (fun s wx => Kd.R (Kd.int .u32) 111 wx w1.heap.size (fun _ => True) s (inL3 hi lo) ∧ Below w1.heap.size w1 wx)
  case first =>
    rcases h : (hi / 4294967296 == 536936448) with _ | _
    · have HL := Lib.hid (show inL2 hi lo = inL3 hi lo by rw [inL3, show in3 hi = false from h]; simp)
      go_wp2_with fail
      go_meet
      case rel => exact ⟨by rw [← HL.out]; exact HO.out, HB.out⟩
    · have HL := Lib.hid (show inL2 hi lo ++ [hi % 4294967296, (bits BinOp.xor IntKind.u32 (if IntKind.u32.signed = true then -1 else IntKind.u32.max) low)] = inL3 hi lo by rw [inL3, show in3 hi = true from h, HX.out, HLW.out]; simp)
      have hln := inL2_len hi lo
      go_wp2_with ((with_reducible refine gate_builtin (b := .append) (xs := #[.tmp 69, .tmp 75]) rfl ?_); at_builtin; go_loud (refine Kd.R_append_rows (Kd.int .u32) (w0 := w1) w1.heap.size rfl (.tmp 69) (.tmp 75) 208 111 (.int .u32 0) 4 rfl Tryz.underlying208 info_four rfl (by decide) (by omega) u5 (inL2 hi lo) [hi % 4294967296, (bits BinOp.xor IntKind.u32 (if IntKind.u32.signed = true then -1 else IntKind.u32.max) low)] _ _ _ (fun _ => True) (fun _ => False) rfl rfl ?aO ?aR (fun _ _ h => h) (fun _ h => h.elim) ?aF ?aB ?aS ?aL ?_); go_loud (case aO => exact (Kd.R_below HO.out ((Below.refl _ _).alloc (Nat.le_refl _) _))); go_loud (case aR => exact (C_new .u32 wc [hi % 4294967296, (bits BinOp.xor IntKind.u32 (if IntKind.u32.signed = true then -1 else IntKind.u32.max) low)] _ (show 2 ≤ 9223372036854775807 by omega))); (case aF => exact fun _ _ => trivial); go_loud (case aB => exact (HB.out.alloc (by omega) _)); go_loud (case aS => (simp; omega)); go_loud (case aL => omega); intro v1 w4 ho hb hg _)
      go_meet
      case rel => exact ⟨by rw [← HL.out]; exact ho, hb⟩
  case rest =>
  obtain ⟨hO, hb⟩ := hcut
  have hs : w1.heap.size ≤ wc.heap.size := hb.size
  have hgc := (hb.block g hlt2).trans HG2.out
  obtain ⟨c0, _⟩ := heap_cell (j := 0) hgc rfl
  obtain ⟨c1, _⟩ := heap_cell (j := 1) hgc rfl
  have HO := Aside0.mk hO
  have HB := Aside0.mk hb
  clear hO hb hgc
  obtain ⟨tv, htv⟩ : ∃ tv, tv = top - (if top / 33554432 % 2 = 1 then 33554432 else 0) := ⟨_, rfl⟩
  have hAN := strike_25 top htop.1 htop.2
  rw [← htv] at hAN
  have HI4 := Lib.hid (show in4 lo = (tv == 24318) by
    rw [in4, ← HTP.out]
    have e : (top = 24318 ∨ top = 33578750) ↔ tv = 24318 := by
      rw [htv]
      split <;> omega
    by_cases h : tv = 24318
    · rw [decide_eq_true (e.2 h), h]
      rfl
    · rw [decide_eq_false (fun hh => h (e.1 hh)), beq_eq_false_iff_ne.2 h])
  clear htv
  go_upto_if 79 with (fail)
  go_cut [5] from 8 (fun s wx => Kd.R (Kd.int .u32) 111 wx w1.heap.size (fun _ => True) s (inL4 hi lo) ∧ Below w1.heap.size w1 wx)
  case first =>
    rcases h : (tv == 24318) with _ | _
    · have HL := Lib.hid (show inL3 hi lo = inL4 hi lo by rw [inL4, HI4.out, h]; simp)
      go_wp2_with fail
      go_meet
      case rel => exact ⟨by rw [← HL.out]; exact HO.out, HB.out⟩
    · have HL := Lib.hid (show inL3 hi lo ++ [low] = inL4 hi lo by rw [inL4, HI4.out, h, HLW.out]; simp)
      have hln := inL3_len hi lo
      go_wp2_with ((with_reducible refine gate_builtin (b := .append) (xs := #[.tmp 80, .tmp 82]) rfl ?_); at_builtin; refine Kd.R_append (Kd.int .u32) (w0 := w1) w1.heap.size rfl (.tmp 80) (.tmp 82) 208 111 (.int .u32 0) 4 rfl Tryz.underlying208 info_four rfl (by decide) (by omega) u5 (inL3 hi lo) low [.int .u32 low] (fun _ => True) (fun _ => False) rfl rfl ?aP (fun _ hk => hk.elim) ?aF ?aO ?aB ?aS ?aL ?_; (case aP => exact rfl); (case aF => exact fun _ _ => trivial); (case aO => exact HO.out); (case aB => exact HB.out); (case aS => omega); (case aL => omega); intro v1 w4 ho hb hg _)
      go_meet
      case rel => exact ⟨by rw [← HL.out]; exact ho, hb⟩
  case rest =>
  obtain ⟨hO, hb⟩ := hcut
  go_wp2_with fail
  go_ret
  exact ⟨_, rfl, Kd.R_lower hO B2.out.size, below_then B2.out B2.out.size hb⟩
end Go.Proofs.YtplehdcnnaamkaaGreatDoor

/- Tries: prefixes as paths, lists of prefixes with verdicts; plain Lean. -/
namespace Go.Proofs.YtplehdcnnaamkaaGreatDoor

/-- A prefix: its halves and its length. -/
abbrev P3 := Int × Int × Int
def okP (p : P3) : Prop := (0 ≤ p.1 ∧ p.1 < 18446744073709551616) ∧ 0 ≤ p.2.1 ∧ p.2.1 < 18446744073709551616
def rP (p : P3) : Bool := rightP p.1 p.2.1 p.2.2
def bitB (hi lo : Int) (i : Nat) : Bool := pBit hi lo i == 1
/-- The way that the first bits tell. -/
def pathN (hi lo : Int) (n : Nat) : List Bool := (List.range n).map (bitB hi lo)
def pathP (p : P3) : List Bool := pathN p.1 p.2.1 p.2.2.toNat
/-- Does a prefix stand ahead of another one? -/
def befB (a b : P3) : Bool := if a.1 ≠ b.1 then decide (a.1 < b.1) else if a.2.1 ≠ b.2.1 then decide (a.2.1 < b.2.1) else decide (a.2.2 < b.2.2)
theorem befB_iff (a b : P3) : befB a b = true ↔ a.1 < b.1 ∨ (a.1 = b.1 ∧ (a.2.1 < b.2.1 ∨ (a.2.1 = b.2.1 ∧ a.2.2 < b.2.2))) := by
  rw [befB]
  split
  · rw [decide_eq_true_iff]; omega
  · split
    · rw [decide_eq_true_iff]; omega
    · rw [decide_eq_true_iff]; omega
theorem befB_trans {a b c : P3} (h : befB a b = true) (h' : befB b c = true) : befB a c = true := by
  rw [befB_iff] at h h' ⊢
  omega
theorem befB_total (a b : P3) (h : befB a b = false) : a = b ∨ befB b a = true := by
  have h' : ¬ befB a b = true := by rw [h]; exact Bool.false_ne_true
  rw [befB_iff] at h'
  rw [befB_iff]
  obtain ⟨a1, a2, a3⟩ := a
  obtain ⟨b1, b2, b3⟩ := b
  simp only [Prod.mk.injEq] at *
  omega
theorem pathN_len (hi lo : Int) (n : Nat) : (pathN hi lo n).length = n := by simp [pathN]
theorem pathN_eq (hi lo a b : Int) (n m : Nat) : pathN hi lo n = pathN a b m ↔ n = m ∧ ∀ i, i < n → bitB hi lo i = bitB a b i := by
  constructor
  · intro h
    have hl := congrArg List.length h
    rw [pathN_len, pathN_len] at hl
    refine ⟨hl, fun i hi => ?_⟩
    have := congrArg (·[i]?) h
    simpa [pathN, hi, show i < m by omega] using this
  · rintro ⟨rfl, h⟩
    apply List.map_congr_left
    intro i hi
    exact h i (List.mem_range.1 hi)
theorem bitB_pBit (hi lo a b : Int) (i : Nat) : bitB hi lo i = bitB a b i ↔ pBit hi lo i = pBit a b i := by
  rw [bitB, bitB]
  rcases pBit_01 hi lo i with h | h <;> rcases pBit_01 a b i with h' | h' <;> rw [h, h'] <;> decide
theorem rP_len (p : P3) (h : rP p = true) : 0 ≤ p.2.2 ∧ p.2.2 ≤ 128 := rightP_bd _ _ _ h
theorem rP_zero (p : P3) (ho : okP p) (h : rP p = true) (i : Nat) (h1 : p.2.2.toNat ≤ i) (h2 : i < 128) : pBit p.1 p.2.1 i = 0 := by
  have hl := rP_len p h
  have e : p.2.2 = ((p.2.2.toNat : Nat) : Int) := by omega
  rw [rP, e] at h
  exact ((rightP_iff _ _ _ ho.1 ho.2).1 h).2 i h1 h2
theorem pathP_inj (p q : P3) (hp : okP p) (hq : okP q) (rp : rP p = true) (rq : rP q = true) (h : pathP p = pathP q) : p = q := by
  have lp := rP_len p rp
  have lq := rP_len q rq
  obtain ⟨hn, hb⟩ := (pathN_eq _ _ _ _ _ _).1 h
  have := pBit_ext p.1 p.2.1 q.1 q.2.1 hp.1 hp.2 hq.1 hq.2 fun i hi => by
    by_cases hin : i < p.2.2.toNat
    · exact (bitB_pBit _ _ _ _ _).1 (hb i hin)
    · rw [rP_zero p hp rp i (by omega) hi, rP_zero q hq rq i (by omega) hi]
  obtain ⟨p1, p2, p3⟩ := p
  obtain ⟨q1, q2, q3⟩ := q
  simp only [Prod.mk.injEq] at *
  omega
/-- The document's lists. -/
abbrev E4 := P3 × Int
def dropL (l : List E4) (p : P3) : List E4 := l.filter fun x => decide (x.1 ≠ p)
def insL (p : P3) (v : Int) : List E4 → List E4
  | [] => [(p, v)]
  | x :: l => if befB p x.1 = true then (p, v) :: x :: l else x :: insL p v l
def putL (l : List E4) (p : P3) (v : Int) : List E4 := insL p v (dropL l p)

/-- What a trie's nodes tell: at a way a verdict and its prefix. -/
structure Inv (I : List Bool → Option (Int × P3)) (L : List E4) : Prop where
  node : ∀ π v p, I π = some (v, p) → okP p ∧ rP p = true ∧ pathP p = π ∧ (p, v) ∈ L
  entry : ∀ e ∈ L, okP e.1 ∧ rP e.1 = true ∧ I (pathP e.1) = some (e.2, e.1)
  sorted : L.Pairwise fun x y => befB x.1 y.1 = true
theorem Inv.nil : Inv (fun _ => none) [] := ⟨fun _ _ _ h => by (cases h), fun _ h => by (cases h), List.Pairwise.nil⟩
theorem mem_dropL (l : List E4) (p : P3) (x : E4) : x ∈ dropL l p ↔ x ∈ l ∧ x.1 ≠ p := by simp [dropL]
theorem mem_insL (p : P3) (v : Int) : ∀ (l : List E4) (x : E4), x ∈ insL p v l ↔ x = (p, v) ∨ x ∈ l
  | [], x => by simp [insL]
  | y :: l, x => by
    rw [insL]
    split
    · simp
    · rw [List.mem_cons, mem_insL p v l x, List.mem_cons]
      constructor
      · rintro (h | h | h)
        · exact .inr (.inl h)
        · exact .inl h
        · exact .inr (.inr h)
      · rintro (h | h | h)
        · exact .inr (.inl h)
        · exact .inl h
        · exact .inr (.inr h)
theorem insL_sorted (p : P3) (v : Int) : ∀ l : List E4, (l.Pairwise fun x y => befB x.1 y.1 = true) → (∀ x ∈ l, x.1 ≠ p) → (insL p v l).Pairwise fun x y => befB x.1 y.1 = true
  | [], _, _ => by simp [insL]
  | y :: l, h, hn => by
    rw [List.pairwise_cons] at h
    rw [insL]
    split
    · rename_i hb
      rw [List.pairwise_cons, List.pairwise_cons]
      refine ⟨fun z hz => ?_, h⟩
      rcases List.mem_cons.1 hz with e | e
      · rw [e]; exact hb
      · exact befB_trans hb (h.1 z e)
    · rename_i hb
      rw [List.pairwise_cons]
      refine ⟨fun z hz => ?_, insL_sorted p v l h.2 fun x hx => hn x (List.mem_cons_of_mem _ hx)⟩
      rcases (mem_insL p v l z).1 hz with e | e
      · rw [e]
        rcases befB_total p y.1 (by simpa using hb) with e' | e'
        · exact absurd e'.symm (hn y (List.mem_cons_self ..))
        · exact e'
      · exact h.1 z e
theorem Inv.drop {I : List Bool → Option (Int × P3)} {L : List E4} (h : Inv I L) (p : P3) (hp : okP p) (rp : rP p = true) {I' : List Bool → Option (Int × P3)} (h1 : I' (pathP p) = none) (h2 : ∀ π, π ≠ pathP p → I' π = I π) : Inv I' (dropL L p) := by
  refine ⟨fun π v q hq => ?_, fun e he => ?_, h.sorted.filter _⟩
  · by_cases e : π = pathP p
    · rw [e, h1] at hq; cases hq
    · rw [h2 π e] at hq
      obtain ⟨a, b, c, d⟩ := h.node _ _ _ hq
      refine ⟨a, b, c, (mem_dropL _ _ _).2 ⟨d, fun e' => e ?_⟩⟩
      rw [← c, show q = p from e']
  · obtain ⟨m, ne⟩ := (mem_dropL _ _ _).1 he
    obtain ⟨a, b, c⟩ := h.entry e m
    refine ⟨a, b, ?_⟩
    rw [h2 _ fun e' => ne (pathP_inj _ _ a hp b rp e')]
    exact c
theorem Inv.put {I : List Bool → Option (Int × P3)} {L : List E4} (h : Inv I L) (p : P3) (v : Int) (hp : okP p) (rp : rP p = true) {I' : List Bool → Option (Int × P3)} (h1 : I' (pathP p) = some (v, p)) (h2 : ∀ π, π ≠ pathP p → I' π = I π) : Inv I' (putL L p v) := by
  refine ⟨fun π u q hq => ?_, fun e he => ?_, insL_sorted p v _ (h.sorted.filter _) fun x hx => ((mem_dropL _ _ _).1 hx).2⟩
  · by_cases e : π = pathP p
    · rw [e, h1] at hq
      obtain ⟨rfl, rfl⟩ : v = u ∧ p = q := by simpa using hq
      exact ⟨hp, rp, e.symm, (mem_insL _ _ _ _).2 (.inl rfl)⟩
    · rw [h2 π e] at hq
      obtain ⟨a, b, c, d⟩ := h.node _ _ _ hq
      refine ⟨a, b, c, (mem_insL _ _ _ _).2 (.inr ((mem_dropL _ _ _).2 ⟨d, fun e' => e ?_⟩))⟩
      rw [← c, show q = p from e']
  · rcases (mem_insL _ _ _ _).1 he with e' | e'
    · subst e'
      exact ⟨hp, rp, h1⟩
    · obtain ⟨m, ne⟩ := (mem_dropL _ _ _).1 e'
      obtain ⟨a, b, c⟩ := h.entry e m
      refine ⟨a, b, ?_⟩
      rw [h2 _ fun e' => ne (pathP_inj _ _ a hp b rp e')]
      exact c

/-- What is told of the longest one of a list that has an address. -/
def Best (a b : Int) (l : List E4) (o : Option E4) : Prop :=
  match o with
  | none => ∀ e ∈ l, hasP e.1.1 e.1.2.1 e.1.2.2 a b = false
  | some e => e ∈ l ∧ hasP e.1.1 e.1.2.1 e.1.2.2 a b = true ∧ ∀ x ∈ l, hasP x.1.1 x.1.2.1 x.1.2.2 a b = true → x.1.2.2 ≤ e.1.2.2
/-- One more is asked. -/
def bestS (a b : Int) (best : Option E4) (x : E4) : Option E4 :=
  if hasP x.1.1 x.1.2.1 x.1.2.2 a b = true then (match best with | none => some x | some y => if y.1.2.2 < x.1.2.2 then some x else some y) else best
theorem Best.step {a b : Int} {l : List E4} {o : Option E4} (h : Best a b l o) (x : E4) : Best a b (l ++ [x]) (bestS a b o x) := by
  unfold bestS
  by_cases hx : hasP x.1.1 x.1.2.1 x.1.2.2 a b = true
  · rw [if_pos hx]
    cases o with
    | none =>
      refine ⟨by simp, hx, fun y hy hh => ?_⟩
      rcases List.mem_append.1 hy with e | e
      · rw [h y e] at hh; cases hh
      · obtain rfl : y = x := by simpa using e
        exact Int.le_refl _
    | some e =>
      obtain ⟨h1, h2, h3⟩ := h
      by_cases hlt : e.1.2.2 < x.1.2.2
      · simp only [if_pos hlt]
        refine ⟨by simp, hx, fun y hy hh => ?_⟩
        rcases List.mem_append.1 hy with e' | e'
        · have := h3 y e' hh; omega
        · obtain rfl : y = x := by simpa using e'
          exact Int.le_refl _
      · simp only [if_neg hlt]
        refine ⟨by simp [h1], h2, fun y hy hh => ?_⟩
        rcases List.mem_append.1 hy with e' | e'
        · exact h3 y e' hh
        · obtain rfl : y = x := by simpa using e'
          omega
  · rw [if_neg hx]
    cases o with
    | none =>
      intro y hy
      rcases List.mem_append.1 hy with e | e
      · exact h y e
      · obtain rfl : y = x := by simpa using e
        simpa using hx
    | some e =>
      obtain ⟨h1, h2, h3⟩ := h
      refine ⟨by simp [h1], h2, fun y hy hh => ?_⟩
      rcases List.mem_append.1 hy with e' | e'
      · exact h3 y e' hh
      · obtain rfl : y = x := by simpa using e'
        exact absurd hh hx
end Go.Proofs.YtplehdcnnaamkaaGreatDoor

/- Prefixes, read and written: plain Lean. -/
namespace Go.Proofs.YtplehdcnnaamkaaGreatDoor
open Go.RowKit Go.Proofs.YtplehdcnnaamkaaGreatDoorW.PrintWords

/-- What is added to the length that is written behind an address. -/
def addOf : Bool × Int × Int → Int
  | (true, _, _) => 0
  | (false, _, _) => 96
/-- The prefix of an address's text and a length's. -/
def pfMk (o : Option (Bool × Int × Int)) (tail : List UInt8) : Option P3 := match o with
  | none => none
  | some a => if decOk tail (128 - addOf a) = true then if rightP (adHi a) (adLo a) (decN tail (128 - addOf a) + addOf a) = true then some (adHi a, adLo a, decN tail (128 - addOf a) + addOf a) else none else none
/-- The prefix that a text is. -/
def pfOf (l : List UInt8) : Option P3 := pfMk (adOf (Lib.cut l [47]).1) (Lib.cut l [47]).2.1
def pfV : Option P3 → Value
  | none => .agg #[.int .u64 0, .int .u64 0, .int .i64 0]
  | some p => .agg #[.int .u64 p.1, .int .u64 p.2.1, .int .i64 p.2.2]
theorem digits_slash (l : List UInt8) (h : (47 : UInt8) ∈ l) (m : Int) : decOk l m = false := by
  have : digitsL l = false := by
    rw [digitsL, Bool.and_eq_false_iff]
    refine .inr ?_
    rw [List.all_eq_false]
    exact ⟨47, List.mem_map.2 ⟨47, h, rfl⟩, by decide⟩
  rw [decOk, plainD, this]
  rfl
theorem dec_nil (m : Int) : decOk [] m = false := rfl
theorem pfMk_bad (o : Option (Bool × Int × Int)) (t : List UInt8) (h : ∀ m, decOk t m = false) : pfMk o t = none := by
  cases o with
  | none => rfl
  | some a => rw [pfMk, h]; rfl
/-- The document's reading: two parts. -/
theorem pf_doc (l : List UInt8) : (splitL (isAt ⟨#[47]⟩) l).length = 2 ∧ pfOf l = pfMk (adOf ((splitL (isAt ⟨#[47]⟩) l).getD 0 [])) ((splitL (isAt ⟨#[47]⟩) l).getD 1 []) ∨ (splitL (isAt ⟨#[47]⟩) l).length ≠ 2 ∧ pfOf l = none := by
  rcases chr_key 47 l with ⟨w, r, rfl, hw⟩ | hn
  · rw [pfOf, cut_chr_word 47 w r hw, split_chr_word 47 w r hw]
    rcases chr_key 47 r with ⟨w', r', rfl, hw'⟩ | hn
    · rw [split_chr_word 47 w' r' hw']
      refine .inr ⟨?_, pfMk_bad _ _ fun m => digits_slash _ (by simp) m⟩
      have := splitL_ne (isAt ⟨#[47]⟩) r'
      have : 0 < (splitL (isAt ⟨#[47]⟩) r').length := List.length_pos_iff.2 this
      simp only [List.length_cons]
      omega
    · rw [split_chr_none 47 r hn]
      exact .inl ⟨rfl, rfl⟩
  · rw [pfOf, cut_chr_none 47 l hn, split_chr_none 47 l hn]
    exact .inr ⟨by simp, pfMk_bad _ _ dec_nil⟩
theorem dec_bounds (l : List UInt8) (m : Int) (h : decOk l m = true) : 0 ≤ decN l m ∧ decN l m ≤ m := by
  have hp : plainD l = true := by
    rw [decOk, Bool.and_eq_true] at h
    exact h.1
  have hm : decV l ≤ m := by
    rw [decOk, Bool.and_eq_true, decide_eq_true_iff] at h
    exact h.2
  have hd : digitsL l = true := by
    rw [plainD, Bool.and_eq_true] at hp
    exact hp.1
  rw [decN, if_pos h]
  exact ⟨decV_nonneg l hd, hm⟩
theorem pfMk_some (a : Bool × Int × Int) (t : List UInt8) (k : Int) (h1 : decOk t (128 - addOf a) = true) (h2 : decN t (128 - addOf a) = k) (h3 : rightP (adHi a) (adLo a) (k + addOf a) = true) : pfMk (some a) t = some (adHi a, adLo a, k + addOf a) := by
  subst h2
  rw [pfMk]
  simp only [if_pos h1, if_pos h3]
end Go.Proofs.YtplehdcnnaamkaaGreatDoor

/- Prefixes, read; walked. -/
namespace Go.Proofs.YtplehdcnnaamkaaGreatDoor
open Go.RowKit Go.Proofs.YtplehdcnnaamkaaGreatDoorW.PrintWords Go.Proofs.YtplehdcnnaamkaaGreatDoorW.PrintMore

theorem ret_pf {a b : Value} {c d : Bool} (h : b = a) (h' : d = c) : Ending.returned (.tuple #[a, .bool c]) = .returned (.tuple #[b, .bool d]) := by rw [h, h']
theorem pfMk_none2 (a : Bool × Int × Int) (t : List UInt8) (h : decOk t (128 - addOf a) = false) : pfMk (some a) t = none := by
  rw [pfMk, h]; rfl
theorem pfMk_none3 (a : Bool × Int × Int) (t : List UInt8) (h1 : decOk t (128 - addOf a) = true) (h3 : rightP (adHi a) (adLo a) (decN t (128 - addOf a) + addOf a) = false) : pfMk (some a) t = none := by
  rw [pfMk]
  simp only [if_pos h1, h3]
  rfl
set_option maxHeartbeats 8000000 in
set_option maxRecDepth 100000 in
theorem PfParse_calls (s : ByteArray) (w : World) (hs : s.size ≤ 900000) (hE : Aside0 (Errs w)) (hM : Aside0 (Mx w)) :
    Calls Tryz.prog 16 #[.string s] w fun e w' => e = .returned (.tuple #[pfV (pfOf s.data.toList), .bool (pfOf s.data.toList).isSome]) ∧ Below w.heap.size w w' := by
  have q4 := mw_4
  have q6 := mw_6
  obtain ⟨W0, hW0⟩ : ∃ W0, W0 = w.alloc (.cells #[.int .u64 0, .int .u64 0, .int .i64 0] 25) := ⟨_, rfl⟩
  obtain ⟨hg, hl, hb⟩ := box3 hW0
  have B0 := Aside0.mk hb
  have HW := Lib.hid hW0
  have HG := Aside0.mk hg
  clear hg hW0 hb
  obtain ⟨mx, hmx⟩ := hM.out
  have HMX := Aside0.mk hmx
  have hcl := cut_le s.data.toList [47]
  rw [show s.data.toList.length = s.size by simp] at hcl
  obtain ⟨r, hr⟩ : ∃ r, r = pfOf s.data.toList := ⟨_, rfl⟩
  rw [← hr]
  have HR := Lib.hid (hr.trans (show pfOf s.data.toList = pfMk (adOf (Lib.cut s.data.toList [47]).1) (Lib.cut s.data.toList [47]).2.1 from rfl))
  clear hr hmx
  go_enter Tryz.func16, Tryz.ntmps16
  go_wp2_with fail
  rw [← HW.out]
  refine (Tryz.strings_Cut s _ mx _ (by omega) (by rw [← HMX.out]; exact B0.out.cell (cell_of_lt HMX.out))).mono ?_
  rintro e w1 ⟨rfl, n1, hw1⟩
  rw [show (ByteArray.mk #[47]).data.toList = [47] from rfl]
  have hb1 : Below W0.heap.size W0 w1 := by rw [hw1]; exact pw_below_drewN (Below.refl _ _) n1
  have HG1 := Aside0.mk ((hb1.block _ hl).trans HG.out)
  have hl1 := Nat.lt_of_lt_of_le hl hb1.size
  have B1 := Aside0.mk (below_then B0.out B0.out.size hb1)
  clear hw1 hb1
  generalize Lib.cut s.data.toList [47] = C at HR hcl ⊢
  obtain ⟨wl, rl, more⟩ := C
  simp only [] at HR hcl ⊢
  obtain ⟨word, hword⟩ : ∃ word : ByteArray, word = ⟨wl.toArray⟩ := ⟨_, rfl⟩
  obtain ⟨rst, hrst⟩ : ∃ rst : ByteArray, rst = ⟨rl.toArray⟩ := ⟨_, rfl⟩
  have hwz : word.size ≤ 900000 := by rw [hword, mk_size]; omega
  have hrz : rst.size ≤ 900000 := by rw [hrst, mk_size]; omega
  have hwl : word.data.toList = wl := by rw [hword]
  have hrl : rst.data.toList = rl := by rw [hrst]
  rw [← hword, ← hrst]
  have HWL := Lib.hid hwl
  have HRL := Lib.hid hrl
  clear hword hrst hwl hrl hcl
  go_wp2_with fail
  refine (AdParse_calls word _ hwz ⟨hE.out.stays B1.out⟩ ⟨hM.out.stays B1.out⟩).mono ?_
  rw [HWL.out]
  have hok := adOf_ok wl
  generalize adOf wl = o at HR hok ⊢
  rintro e w2 ⟨rfl, b2⟩
  have HG2 := Aside0.mk ((b2.block _ hl1).trans HG1.out)
  have hl2 := Nat.lt_of_lt_of_le hl1 b2.size
  have B2 := Aside0.mk (below_then B1.out B1.out.size b2)
  have hg2 := HG2.out
  obtain ⟨k0, f0⟩ := heap_cell (j := 0) hg2 rfl
  obtain ⟨k1, f1⟩ := heap_cell (j := 1) hg2 rfl
  obtain ⟨k2, f2⟩ := heap_cell (j := 2) hg2 rfl
  clear hg2 b2
  rcases o with _ | a
  · simp only [adVo, Option.isSome]
    go_wp2_with fail
    refine bodyPost_ret (results_cell_bool rfl _ _ w.heap.size 25 #[.int .u64 0, .int .u64 0, .int .i64 0] (0, 0) _ rfl (heap_set3 _ _ _ HG2.out) Tryz.underlying25 rfl (by kernel_rfl)) rfl ?_
    exact ⟨ret_pf (by rw [HR.out]; rfl) (by rw [HR.out]; rfl), below_set3 B2.out (Nat.le_refl _) _ _ _⟩
  · have HA := hok a rfl
    have hbd := ad_bd a HA
    clear hok
    have N1 := Aside0.mk (pfMk_none2 a rl)
    have N2 := Aside0.mk (pfMk_none3 a rl)
    have N3 := Aside0.mk (pfMk_some a rl)
    have hdb := dec_bounds rl (128 - addOf a)
    have RI := Aside0.mk (Right_calls (adHi a) (adLo a) (decN rl (128 - addOf a) + addOf a) hbd.1 hbd.2)
    obtain ⟨sx, hi, lo⟩ := a
    cases sx
    · simp only [adVo, adV, Option.isSome]
      have hw : (128 : Int) - addOf (false, hi, lo) = 32 := rfl
      have hadd : addOf (false, hi, lo) = 96 := rfl
      rw [hw] at N1 N2 N3 hdb RI
      rw [hadd] at N2 N3 RI
      clear hw hadd
      simp only [adHi, adLo] at N1 N2 N3 RI
      go_wp2_with fail
      refine (FourA4 lo _).mono ?_
      rintro e w3 ⟨rfl, rfl⟩
      go_wp2_with fail
      refine (Decimal_calls rst (by omega) _ (by omega) _ ⟨hE.out.stays B2.out⟩).mono ?_
      rw [HRL.out]
      rintro e w4 ⟨rfl, b4⟩
      have HG4 := Aside0.mk ((b4.block _ hl2).trans HG2.out)
      have hl4 := Nat.lt_of_lt_of_le hl2 b4.size
      have B4 := Aside0.mk (below_then B2.out B2.out.size b4)
      clear k0 f0 k1 f1 k2 f2
      have hg4 := HG4.out
      obtain ⟨k0, f0⟩ := heap_cell (j := 0) hg4 rfl
      obtain ⟨k1, f1⟩ := heap_cell (j := 1) hg4 rfl
      obtain ⟨k2, f2⟩ := heap_cell (j := 2) hg4 rfl
      clear hg4 b4
      cases hd : decOk rl 32
      · have HN := Lib.hid (N1.out hd)
        generalize decN rl 32 = n
        clear hd hdb
        go_wp2_with fail
        refine bodyPost_ret (results_cell_bool rfl _ _ w.heap.size 25 #[.int .u64 0, .int .u64 0, .int .i64 0] (0, 0) _ rfl (heap_set3 _ _ _ HG4.out) Tryz.underlying25 rfl (by kernel_rfl)) rfl ?_
        exact ⟨ret_pf (by rw [HR.out, HN.out]; rfl) (by rw [HR.out, HN.out]; rfl), below_set3 B4.out (Nat.le_refl _) _ _ _⟩
      · have hn := hdb hd
        have N4 := Aside0.mk (N2.out hd)
        have N5 := Aside0.mk (N3.out (decN rl 32) hd rfl)
        clear N1 N2 N3 hdb hd
        generalize decN rl 32 = n at hn N4 N5 RI
        go_wp2_with fail
        refine (Wide4_calls lo HA.2.1 HA.2.2 _).mono ?_
        rintro e w5 ⟨rfl, b5⟩
        have HG5 := Aside0.mk ((b5.block _ hl4).trans HG4.out)
        have hl5 := Nat.lt_of_lt_of_le hl4 b5.size
        have B5 := Aside0.mk (below_then B4.out B4.out.size b5)
        clear k0 f0 k1 f1 k2 f2 b5
        obtain ⟨W6, hW6⟩ : ∃ W6, W6 = w5.alloc (.cells #[.int .u64 0, .int .u64 (281470681743360 + lo), .int .i64 (n + 96)] 25) := ⟨_, rfl⟩
        obtain ⟨hg6, hl6, hb6⟩ := box3 hW6
        have HW6 := Lib.hid hW6
        have HG6 := Aside0.mk hg6
        have B6 := Aside0.mk (below_then B5.out B5.out.size hb6)
        have HG7 := Aside0.mk ((hb6.block _ hl5).trans HG5.out)
        have hl7 := Nat.lt_of_lt_of_le hl5 hb6.size
        clear hg6 hb6 hW6
        go_wp2_with fail
        try rw [← HW6.out]
        refine (RI.out _).mono ?_
        rintro e w7 ⟨rfl, b7⟩
        have HG8 := Aside0.mk ((b7.block _ hl7).trans HG7.out)
        have HG9 := Aside0.mk ((b7.block _ hl6).trans HG6.out)
        have B7 := Aside0.mk (below_then B6.out B6.out.size b7)
        have hg8 := HG8.out
        have hg9 := HG9.out
        obtain ⟨k0, f0⟩ := heap_cell (j := 0) hg8 rfl
        obtain ⟨k1, f1⟩ := heap_cell (j := 1) hg8 rfl
        obtain ⟨k2, f2⟩ := heap_cell (j := 2) hg8 rfl
        obtain ⟨m0, _⟩ := heap_cell (j := 0) hg9 rfl
        obtain ⟨m1, _⟩ := heap_cell (j := 1) hg9 rfl
        obtain ⟨m2, _⟩ := heap_cell (j := 2) hg9 rfl
        clear hg8 hg9 b7
        cases hr : rightP 0 (281470681743360 + lo) (n + 96)
        · have HN := Lib.hid (N4.out hr)
          clear hr
          go_wp2_with fail
          refine bodyPost_ret (results_cell_bool rfl _ _ w.heap.size 25 #[.int .u64 0, .int .u64 0, .int .i64 0] (0, 0) _ rfl (heap_set3 _ _ _ HG8.out) Tryz.underlying25 rfl (by kernel_rfl)) rfl ?_
          exact ⟨ret_pf (by rw [HR.out, HN.out]; rfl) (by rw [HR.out, HN.out]; rfl), below_set3 B7.out (Nat.le_refl _) _ _ _⟩
        · have HN := Lib.hid (N5.out hr)
          clear hr
          go_wp2_with fail
          refine bodyPost_ret (results_cell_bool rfl _ _ w.heap.size 25 #[.int .u64 0, .int .u64 (281470681743360 + lo), .int .i64 (n + 96)] (0, 0) _ rfl (heap_set3 _ _ _ HG8.out) Tryz.underlying25 rfl (by kernel_rfl)) rfl ?_
          exact ⟨ret_pf (by rw [HR.out, HN.out]; rfl) (by rw [HR.out, HN.out]; rfl), below_set3 B7.out (Nat.le_refl _) _ _ _⟩
    · simp only [adVo, adV, Option.isSome]
      have hw : (128 : Int) - addOf (true, hi, lo) = 128 := rfl
      have hadd : addOf (true, hi, lo) = 0 := rfl
      rw [hw] at N1 N2 N3 hdb RI
      rw [hadd] at N2 N3 RI
      simp only [Int.add_zero] at N2 N3 RI
      clear hw hadd
      simp only [adHi, adLo] at N1 N2 N3 RI
      go_wp2_with fail
      refine (FourA6 hi lo _).mono ?_
      rintro e w3 ⟨rfl, rfl⟩
      go_wp2_with fail
      refine (Decimal_calls rst (by omega) _ (by omega) _ ⟨hE.out.stays B2.out⟩).mono ?_
      rw [HRL.out]
      rintro e w4 ⟨rfl, b4⟩
      have HG4 := Aside0.mk ((b4.block _ hl2).trans HG2.out)
      have hl4 := Nat.lt_of_lt_of_le hl2 b4.size
      have B4 := Aside0.mk (below_then B2.out B2.out.size b4)
      clear k0 f0 k1 f1 k2 f2
      have hg4 := HG4.out
      obtain ⟨k0, f0⟩ := heap_cell (j := 0) hg4 rfl
      obtain ⟨k1, f1⟩ := heap_cell (j := 1) hg4 rfl
      obtain ⟨k2, f2⟩ := heap_cell (j := 2) hg4 rfl
      clear hg4 b4
      cases hd : decOk rl 128
      · have HN := Lib.hid (N1.out hd)
        generalize decN rl 128 = n
        clear hd hdb
        go_wp2_with fail
        refine bodyPost_ret (results_cell_bool rfl _ _ w.heap.size 25 #[.int .u64 0, .int .u64 0, .int .i64 0] (0, 0) _ rfl (heap_set3 _ _ _ HG4.out) Tryz.underlying25 rfl (by kernel_rfl)) rfl ?_
        exact ⟨ret_pf (by rw [HR.out, HN.out]; rfl) (by rw [HR.out, HN.out]; rfl), below_set3 B4.out (Nat.le_refl _) _ _ _⟩
      · have hn := hdb hd
        have N4 := Aside0.mk (N2.out hd)
        have N5 := Aside0.mk (N3.out (decN rl 128) hd rfl)
        clear N1 N2 N3 hdb hd
        generalize decN rl 128 = n at hn N4 N5 RI
        go_wp2_with fail
        refine (Wide6_calls hi lo _).mono ?_
        rintro e w5 ⟨rfl, b5⟩
        have HG5 := Aside0.mk ((b5.block _ hl4).trans HG4.out)
        have hl5 := Nat.lt_of_lt_of_le hl4 b5.size
        have B5 := Aside0.mk (below_then B4.out B4.out.size b5)
        clear k0 f0 k1 f1 k2 f2 b5
        obtain ⟨W6, hW6⟩ : ∃ W6, W6 = w5.alloc (.cells #[.int .u64 hi, .int .u64 lo, .int .i64 n] 25) := ⟨_, rfl⟩
        obtain ⟨hg6, hl6, hb6⟩ := box3 hW6
        have HW6 := Lib.hid hW6
        have HG6 := Aside0.mk hg6
        have B6 := Aside0.mk (below_then B5.out B5.out.size hb6)
        have HG7 := Aside0.mk ((hb6.block _ hl5).trans HG5.out)
        have hl7 := Nat.lt_of_lt_of_le hl5 hb6.size
        clear hg6 hb6 hW6
        go_wp2_with fail
        try rw [← HW6.out]
        refine (RI.out _).mono ?_
        rintro e w7 ⟨rfl, b7⟩
        have HG8 := Aside0.mk ((b7.block _ hl7).trans HG7.out)
        have HG9 := Aside0.mk ((b7.block _ hl6).trans HG6.out)
        have B7 := Aside0.mk (below_then B6.out B6.out.size b7)
        have hg8 := HG8.out
        have hg9 := HG9.out
        obtain ⟨k0, f0⟩ := heap_cell (j := 0) hg8 rfl
        obtain ⟨k1, f1⟩ := heap_cell (j := 1) hg8 rfl
        obtain ⟨k2, f2⟩ := heap_cell (j := 2) hg8 rfl
        obtain ⟨m0, _⟩ := heap_cell (j := 0) hg9 rfl
        obtain ⟨m1, _⟩ := heap_cell (j := 1) hg9 rfl
        obtain ⟨m2, _⟩ := heap_cell (j := 2) hg9 rfl
        clear hg8 hg9 b7
        cases hr : rightP hi lo n
        · have HN := Lib.hid (N4.out hr)
          clear hr
          go_wp2_with fail
          refine bodyPost_ret (results_cell_bool rfl _ _ w.heap.size 25 #[.int .u64 0, .int .u64 0, .int .i64 0] (0, 0) _ rfl (heap_set3 _ _ _ HG8.out) Tryz.underlying25 rfl (by kernel_rfl)) rfl ?_
          exact ⟨ret_pf (by rw [HR.out, HN.out]; rfl) (by rw [HR.out, HN.out]; rfl), below_set3 B7.out (Nat.le_refl _) _ _ _⟩
        · have HN := Lib.hid (N5.out hr)
          clear hr
          go_wp2_with fail
          refine bodyPost_ret (results_cell_bool rfl _ _ w.heap.size 25 #[.int .u64 hi, .int .u64 lo, .int .i64 n] (0, 0) _ rfl (heap_set3 _ _ _ HG8.out) Tryz.underlying25 rfl (by kernel_rfl)) rfl ?_
          exact ⟨ret_pf (by rw [HR.out, HN.out]; rfl) (by rw [HR.out, HN.out]; rfl), below_set3 B7.out (Nat.le_refl _) _ _ _⟩
end Go.Proofs.YtplehdcnnaamkaaGreatDoor

/- The document's prefixes, read; walked. -/
namespace Go.Proofs.YtplehdcnnaamkaaGreatDoor
open Go.RowKit Go.Proofs.YtplehdcnnaamkaaGreatDoorW.PrintWords Go.Proofs.YtplehdcnnaamkaaGreatDoorW.PrintMore

theorem ad_one (ad : Addr) : ad.add 1 = ⟨ad.block, ad.off + 1, none⟩ := rfl
theorem ad_zero (ad : Addr) : ad.add 0 = ad := by
  rfl
set_option maxHeartbeats 8000000 in
set_option maxRecDepth 100000 in
theorem rPfParse_calls (s : ByteArray) (w : World) (hs : s.size ≤ 900000) :
    Calls Tryz.prog 17 #[.string s] w fun e w' => e = .returned (.tuple #[pfV (pfOf s.data.toList), .bool (pfOf s.data.toList).isSome]) ∧ Below w.heap.size w w' := by
  obtain ⟨W0, hW0⟩ : ∃ W0, W0 = w.alloc (.cells #[.int .u64 0, .int .u64 0, .int .i64 0] 28) := ⟨_, rfl⟩
  obtain ⟨hg, hl, hb⟩ := box3 hW0
  have B0 := Aside0.mk hb
  have HW := Lib.hid hW0
  have HG := Aside0.mk hg
  clear hg hW0 hb
  have hpart := splitL_part (isAt ⟨#[47]⟩) s.data.toList
  have hne := splitL_ne (isAt ⟨#[47]⟩) s.data.toList
  rw [show s.data.toList.length = s.size by simp] at hpart
  have DOC := Aside0.mk (pf_doc s.data.toList)
  obtain ⟨r, hr⟩ : ∃ r, r = pfOf s.data.toList := ⟨_, rfl⟩
  rw [← hr]
  rw [← hr] at DOC
  clear hr
  go_enter Tryz.func17, Tryz.ntmps17
  go_wp2_with fail
  rw [← HW.out]
  refine (rSplit_calls s _ _ (by omega) (by decide)).mono ?_
  rintro e w1 ⟨v, rfl, hv, hb1⟩
  obtain ⟨A, c, rfl, hcap, hC⟩ := Kd.R_reads hv
  generalize splitL (isAt ⟨#[47]⟩) s.data.toList = P at hv hcap hC hpart hne DOC ⊢
  have hlen := strs_length P
  have hpos : 0 < (strs P).length := by
    rw [hlen]
    exact List.length_pos_iff.2 hne
  obtain ⟨ad, rfl⟩ := C_some hC hpos
  have hcell : ∀ j, j < P.length → w1.cell? (ad.add j) = some (.string ⟨(P.getD j []).toArray⟩) := fun j hj => by
    rw [C_str_at hC j (by omega), strs_get P j (by omega)]
  have hsize : ∀ j, (P.getD j []).length ≤ 900000 := fun j => by have := getD_len P s.size j hpart; omega
  have HG1 := Aside0.mk ((hb1.block _ hl).trans HG.out)
  have hl1 := Nat.lt_of_lt_of_le hl hb1.size
  have B1 := Aside0.mk (below_then B0.out B0.out.size hb1)
  have HCell := Aside0.mk hcell
  have HSz := Aside0.mk hsize
  have hcap' : (strs P).length ≤ c := hcap
  rw [hlen] at hcap' ⊢
  clear hv hC hb1 hpart hlen hpos hcell hsize hcap hne
  have hg1 := HG1.out
  obtain ⟨k0, f0⟩ := heap_cell (j := 0) hg1 rfl
  obtain ⟨k1, f1⟩ := heap_cell (j := 1) hg1 rfl
  obtain ⟨k2, f2⟩ := heap_cell (j := 2) hg1 rfl
  clear hg1
  by_cases h2 : P.length = 2
  · have hr : r = pfMk (adOf (P.getD 0 [])) (P.getD 1 []) := by
      rcases DOC.out with h | h
      · exact h.2
      · exact absurd h2 h.1
    have HR := Lib.hid hr
    have c0 := HCell.out 0 (by omega)
    have c1 := HCell.out 1 (by omega)
    rw [ad_zero] at c0
    rw [ad_one] at c1
    rw [h2] at hcap' ⊢
    clear hr DOC h2
    have hz0 := HSz.out 0
    have hz1 := HSz.out 1
    rw [← mk_size] at hz0 hz1
    have Hy0 := Lib.hid (show (ByteArray.mk (P.getD 0 []).toArray).data.toList = P.getD 0 [] by simp)
    have Hy1 := Lib.hid (show (ByteArray.mk (P.getD 1 []).toArray).data.toList = P.getD 1 [] by simp)
    generalize (ByteArray.mk (P.getD 0 []).toArray) = y0 at c0 hz0 Hy0
    generalize (ByteArray.mk (P.getD 1 []).toArray) = y1 at c1 hz1 Hy1
    have hbl : ad.block < w1.heap.size := by simpa [Addr.add] using cell_blk c0
    go_wp2_with fail
    refine (refParse6_calls y0 _ hz0).mono ?_
    rw [Hy0.out]
    have hok := adOf_ok (P.getD 0 [])
    generalize adOf (P.getD 0 []) = o at HR hok ⊢
    generalize P.getD 1 [] = rl at HR Hy1
    rintro e w2 ⟨rfl, b2⟩
    have HG2 := Aside0.mk ((b2.block _ hl1).trans HG1.out)
    have hl2 := Nat.lt_of_lt_of_le hl1 b2.size
    have B2 := Aside0.mk (below_then B1.out B1.out.size b2)
    have d1 := (b2.cell (cell_blk c1)).trans c1
    clear k0 f0 k1 f1 k2 f2 c0 c1
    rcases o with _ | a
    · simp only [refV, Option.isSome]
      have hg2 := HG2.out
      obtain ⟨k0, f0⟩ := heap_cell (j := 0) hg2 rfl
      obtain ⟨k1, f1⟩ := heap_cell (j := 1) hg2 rfl
      obtain ⟨k2, f2⟩ := heap_cell (j := 2) hg2 rfl
      clear hg2 b2
      go_wp2_with fail
      refine bodyPost_ret (results_cell_bool rfl _ _ w.heap.size 28 #[.int .u64 0, .int .u64 0, .int .i64 0] (0, 0) _ rfl (by rw [heap_alloc_old' _ _ _ (by simpa [World.setCell] using hl2)]; exact heap_set3 _ _ _ HG2.out) Tryz.underlying28 rfl (by kernel_rfl)) rfl ?_
      have B3 := below_set3 B2.out (Nat.le_refl _) (.int .u64 0) (.int .u64 0) (.int .i64 0)
      exact ⟨ret_pf (by rw [HR.out]; rfl) (by rw [HR.out]; rfl), B3.alloc B3.size _⟩
    have HA := hok a rfl
    have hbd := ad_bd a HA
    clear hok
    have N1 := Aside0.mk (pfMk_none2 a rl)
    have N2 := Aside0.mk (pfMk_none3 a rl)
    have N3 := Aside0.mk (pfMk_some a rl)
    have hdb := dec_bounds rl (128 - addOf a)
    have RI := Aside0.mk (rRight_calls (adHi a) (adLo a) (decN rl (128 - addOf a) + addOf a) hbd.1 hbd.2)
    clear b2
    obtain ⟨sx, hi, lo⟩ := a
    cases sx
    · simp only [refV, adHi, adLo, Option.isSome]
      have hw : (128 : Int) - addOf (false, hi, lo) = 32 := rfl
      have hadd : addOf (false, hi, lo) = 96 := rfl
      rw [hw] at N1 N2 N3 hdb RI
      rw [hadd] at N2 N3 RI
      clear hw hadd
      simp only [adHi, adLo] at N1 N2 N3 RI
      obtain ⟨W3, hW3⟩ : ∃ W3, W3 = w2.alloc (.cells #[.bool false, .int .u64 0, .int .u64 (281470681743360 + lo)] 47) := ⟨_, rfl⟩
      obtain ⟨hg3, hl3, hb3⟩ := box3 hW3
      have HW3 := Lib.hid hW3
      have B3 := Aside0.mk (below_then B2.out B2.out.size hb3)
      have HG3 := Aside0.mk ((hb3.block _ hl2).trans HG2.out)
      have hl4 := Nat.lt_of_lt_of_le hl2 hb3.size
      have d2 := (hb3.cell (cell_blk d1)).trans d1
      obtain ⟨x0, _⟩ := heap_cell (j := 0) hg3 rfl
      obtain ⟨x1, _⟩ := heap_cell (j := 1) hg3 rfl
      obtain ⟨x2, _⟩ := heap_cell (j := 2) hg3 rfl
      have hg4 := HG3.out
      obtain ⟨k0, f0⟩ := heap_cell (j := 0) hg4 rfl
      obtain ⟨k1, f1⟩ := heap_cell (j := 1) hg4 rfl
      obtain ⟨k2, f2⟩ := heap_cell (j := 2) hg4 rfl
      clear hg4 hg3 hb3 hW3
      rw [HW3.out] at d2
      go_wp2_with fail
      rw [← HW3.out] at d2 ⊢
      refine (rDecimal_calls y1 (by omega) 128 (by omega) _).mono ?_
      rw [Hy1.out]
      rintro e w3 ⟨rfl, hw3⟩
      subst hw3
      generalize decN rl 128 = n0
      generalize decOk rl 128 = ok0
      go_wp2_with fail
      refine (rDecimal_calls y1 (by omega) 32 (by omega) _).mono ?_
      rw [Hy1.out]
      rintro e w4 ⟨rfl, rfl⟩
      cases hd : decOk rl 32
      · have HN := Lib.hid (N1.out hd)
        generalize decN rl 32 = n
        clear hd hdb
        go_wp2_with fail
        refine bodyPost_ret (results_cell_bool rfl _ _ w.heap.size 28 #[.int .u64 0, .int .u64 0, .int .i64 0] (0, 0) _ rfl (by rw [heap_alloc_old' _ _ _ (by simpa [World.setCell] using hl4)]; exact heap_set3 _ _ _ HG3.out) Tryz.underlying28 rfl (by kernel_rfl)) rfl ?_
        have B4 := below_set3 B3.out (Nat.le_refl _) (.int .u64 0) (.int .u64 0) (.int .i64 0)
        exact ⟨ret_pf (by rw [HR.out, HN.out]; rfl) (by rw [HR.out, HN.out]; rfl), B4.alloc B4.size _⟩
      · have hn := hdb hd
        have N4 := Aside0.mk (N2.out hd)
        have N5 := Aside0.mk (N3.out (decN rl 32) hd rfl)
        clear N1 N2 N3 hdb hd
        generalize decN rl 32 = n at hn N4 N5 RI ⊢
        obtain ⟨W6, hW6⟩ : ∃ W6, W6 = W3.alloc (.cells #[.int .u64 0, .int .u64 (281470681743360 + lo), .int .i64 (n + 96)] 28) := ⟨_, rfl⟩
        obtain ⟨hg6, hl6, hb6⟩ := box3 hW6
        have HW6 := Lib.hid hW6
        have HG6 := Aside0.mk hg6
        have B6 := Aside0.mk (below_then B3.out B3.out.size hb6)
        have HG7 := Aside0.mk ((hb6.block _ hl4).trans HG3.out)
        have hl7 := Nat.lt_of_lt_of_le hl4 hb6.size
        clear hg6 hb6 hW6
        go_wp2_with fail
        try rw [← HW6.out]
        refine (RI.out _).mono ?_
        rintro e w7 ⟨rfl, b7⟩
        have HG8 := Aside0.mk ((b7.block _ hl7).trans HG7.out)
        have HG9 := Aside0.mk ((b7.block _ hl6).trans HG6.out)
        have B7 := Aside0.mk (below_then B6.out B6.out.size b7)
        have hg8 := HG8.out
        have hg9 := HG9.out
        clear k0 f0 k1 f1 k2 f2
        obtain ⟨k0, f0⟩ := heap_cell (j := 0) hg8 rfl
        obtain ⟨k1, f1⟩ := heap_cell (j := 1) hg8 rfl
        obtain ⟨k2, f2⟩ := heap_cell (j := 2) hg8 rfl
        obtain ⟨m0, _⟩ := heap_cell (j := 0) hg9 rfl
        obtain ⟨m1, _⟩ := heap_cell (j := 1) hg9 rfl
        obtain ⟨m2, _⟩ := heap_cell (j := 2) hg9 rfl
        clear hg8 hg9 b7
        cases hr : rightP 0 (281470681743360 + lo) (n + 96)
        · have HN := Lib.hid (N4.out hr)
          clear hr
          go_wp2_with fail
          refine bodyPost_ret (results_cell_bool rfl _ _ w.heap.size 28 #[.int .u64 0, .int .u64 0, .int .i64 0] (0, 0) _ rfl (heap_set3 _ _ _ HG8.out) Tryz.underlying28 rfl (by kernel_rfl)) rfl ?_
          exact ⟨ret_pf (by rw [HR.out, HN.out]; rfl) (by rw [HR.out, HN.out]; rfl), below_set3 B7.out (Nat.le_refl _) _ _ _⟩
        · have HN := Lib.hid (N5.out hr)
          clear hr
          go_wp2_with fail
          refine bodyPost_ret (results_cell_bool rfl _ _ w.heap.size 28 #[.int .u64 0, .int .u64 (281470681743360 + lo), .int .i64 (n + 96)] (0, 0) _ rfl (heap_set3 _ _ _ HG8.out) Tryz.underlying28 rfl (by kernel_rfl)) rfl ?_
          exact ⟨ret_pf (by rw [HR.out, HN.out]; rfl) (by rw [HR.out, HN.out]; rfl), below_set3 B7.out (Nat.le_refl _) _ _ _⟩
    · simp only [refV, adHi, adLo, Option.isSome]
      have hw : (128 : Int) - addOf (true, hi, lo) = 128 := rfl
      have hadd : addOf (true, hi, lo) = 0 := rfl
      rw [hw] at N1 N2 N3 hdb RI
      rw [hadd] at N2 N3 RI
      clear hw hadd
      simp only [adHi, adLo, Int.add_zero] at N1 N2 N3 RI
      obtain ⟨W3, hW3⟩ : ∃ W3, W3 = w2.alloc (.cells #[.bool true, .int .u64 hi, .int .u64 lo] 47) := ⟨_, rfl⟩
      obtain ⟨hg3, hl3, hb3⟩ := box3 hW3
      have HW3 := Lib.hid hW3
      have B3 := Aside0.mk (below_then B2.out B2.out.size hb3)
      have HG3 := Aside0.mk ((hb3.block _ hl2).trans HG2.out)
      have hl4 := Nat.lt_of_lt_of_le hl2 hb3.size
      have d2 := (hb3.cell (cell_blk d1)).trans d1
      obtain ⟨x0, _⟩ := heap_cell (j := 0) hg3 rfl
      obtain ⟨x1, _⟩ := heap_cell (j := 1) hg3 rfl
      obtain ⟨x2, _⟩ := heap_cell (j := 2) hg3 rfl
      have hg4 := HG3.out
      obtain ⟨k0, f0⟩ := heap_cell (j := 0) hg4 rfl
      obtain ⟨k1, f1⟩ := heap_cell (j := 1) hg4 rfl
      obtain ⟨k2, f2⟩ := heap_cell (j := 2) hg4 rfl
      clear hg4 hg3 hb3 hW3
      rw [HW3.out] at d2
      go_wp2_with fail
      rw [← HW3.out] at d2 ⊢
      refine (rDecimal_calls y1 (by omega) 128 (by omega) _).mono ?_
      rw [Hy1.out]
      rintro e w3 ⟨rfl, hw3⟩
      subst hw3
      cases hd : decOk rl 128
      · have HN := Lib.hid (N1.out hd)
        generalize decN rl 128 = n
        clear hd hdb
        go_wp2_with fail
        refine bodyPost_ret (results_cell_bool rfl _ _ w.heap.size 28 #[.int .u64 0, .int .u64 0, .int .i64 0] (0, 0) _ rfl (by rw [heap_alloc_old' _ _ _ (by simpa [World.setCell] using hl4)]; exact heap_set3 _ _ _ HG3.out) Tryz.underlying28 rfl (by kernel_rfl)) rfl ?_
        have B4 := below_set3 B3.out (Nat.le_refl _) (.int .u64 0) (.int .u64 0) (.int .i64 0)
        exact ⟨ret_pf (by rw [HR.out, HN.out]; rfl) (by rw [HR.out, HN.out]; rfl), B4.alloc B4.size _⟩
      · have hn := hdb hd
        have N4 := Aside0.mk (N2.out hd)
        have N5 := Aside0.mk (N3.out (decN rl 128) hd rfl)
        clear N1 N2 N3 hdb hd
        generalize decN rl 128 = n at hn N4 N5 RI ⊢
        obtain ⟨W6, hW6⟩ : ∃ W6, W6 = W3.alloc (.cells #[.int .u64 hi, .int .u64 lo, .int .i64 n] 28) := ⟨_, rfl⟩
        obtain ⟨hg6, hl6, hb6⟩ := box3 hW6
        have HW6 := Lib.hid hW6
        have HG6 := Aside0.mk hg6
        have B6 := Aside0.mk (below_then B3.out B3.out.size hb6)
        have HG7 := Aside0.mk ((hb6.block _ hl4).trans HG3.out)
        have hl7 := Nat.lt_of_lt_of_le hl4 hb6.size
        clear hg6 hb6 hW6
        go_wp2_with fail
        try rw [← HW6.out]
        refine (RI.out _).mono ?_
        rintro e w7 ⟨rfl, b7⟩
        have HG8 := Aside0.mk ((b7.block _ hl7).trans HG7.out)
        have HG9 := Aside0.mk ((b7.block _ hl6).trans HG6.out)
        have B7 := Aside0.mk (below_then B6.out B6.out.size b7)
        have hg8 := HG8.out
        have hg9 := HG9.out
        clear k0 f0 k1 f1 k2 f2
        obtain ⟨k0, f0⟩ := heap_cell (j := 0) hg8 rfl
        obtain ⟨k1, f1⟩ := heap_cell (j := 1) hg8 rfl
        obtain ⟨k2, f2⟩ := heap_cell (j := 2) hg8 rfl
        obtain ⟨m0, _⟩ := heap_cell (j := 0) hg9 rfl
        obtain ⟨m1, _⟩ := heap_cell (j := 1) hg9 rfl
        obtain ⟨m2, _⟩ := heap_cell (j := 2) hg9 rfl
        clear hg8 hg9 b7
        cases hr : rightP hi lo n
        · have HN := Lib.hid (N4.out hr)
          clear hr
          go_wp2_with fail
          refine bodyPost_ret (results_cell_bool rfl _ _ w.heap.size 28 #[.int .u64 0, .int .u64 0, .int .i64 0] (0, 0) _ rfl (heap_set3 _ _ _ HG8.out) Tryz.underlying28 rfl (by kernel_rfl)) rfl ?_
          exact ⟨ret_pf (by rw [HR.out, HN.out]; rfl) (by rw [HR.out, HN.out]; rfl), below_set3 B7.out (Nat.le_refl _) _ _ _⟩
        · have HN := Lib.hid (N5.out hr)
          clear hr
          go_wp2_with fail
          refine bodyPost_ret (results_cell_bool rfl _ _ w.heap.size 28 #[.int .u64 hi, .int .u64 lo, .int .i64 n] (0, 0) _ rfl (heap_set3 _ _ _ HG8.out) Tryz.underlying28 rfl (by kernel_rfl)) rfl ?_
          exact ⟨ret_pf (by rw [HR.out, HN.out]; rfl) (by rw [HR.out, HN.out]; rfl), below_set3 B7.out (Nat.le_refl _) _ _ _⟩
  · have hr : r = none := by
      rcases DOC.out with h | h
      · exact absurd h.1 h2
      · exact h.2
    have hlen2 : ¬ ((P.length : Int) = 2) := by omega
    have HR := Lib.hid hr
    clear hr DOC
    go_wp2_with fail
    refine bodyPost_ret (results_cell_bool rfl _ _ w.heap.size 28 #[.int .u64 0, .int .u64 0, .int .i64 0] (0, 0) _ rfl (heap_set3 _ _ _ HG1.out) Tryz.underlying28 rfl (by kernel_rfl)) rfl ?_
    exact ⟨ret_pf (by rw [HR.out]; rfl) (by rw [HR.out]; rfl), below_set3 B1.out (Nat.le_refl _) _ _ _⟩
end Go.Proofs.YtplehdcnnaamkaaGreatDoor

/- The chapter's examples of layer 5: plain Lean. -/
namespace Go.Proofs.YtplehdcnnaamkaaGreatDoor
open Go.RowKit Go.Proofs.YtplehdcnnaamkaaGreatDoorW.PrintWords

theorem six_x1 : sixL [58, 58, 102, 102, 102, 102, 58, 49, 46, 50, 46, 51, 46, 52] = some [0, 0, 0, 0, 0, 65535, 258, 772] := by decide +kernel
theorem six_x2 : sixL [49, 58, 50, 58, 51, 58, 52, 58, 53, 58, 54, 58, 55] = none := by decide +kernel
theorem text_x1 : textL6 [0, 0, 0, 0, 0, 65535, 258, 772] = [58, 58, 102, 102, 102, 102, 58, 49, 48, 50, 58, 51, 48, 52] := by decide +kernel
theorem text_x2 : textL6 [1, 0, 0, 2, 0, 0, 0, 0] = [49, 58, 48, 58, 48, 58, 50, 58, 58] := by decide +kernel
end Go.Proofs.YtplehdcnnaamkaaGreatDoor

/- The chapter's examples of layer 4, walked. -/
namespace Go.Proofs.YtplehdcnnaamkaaGreatDoor
open Go.RowKit Go.Proofs.YtplehdcnnaamkaaGreatDoorW.PrintWords Go.Proofs.YtplehdcnnaamkaaGreatDoorW.PrintMore

theorem four_x1 : fourN [48, 120, 55, 102, 46, 49] = 2130706433 ∧ fourOk [48, 120, 55, 102, 46, 49] = true := by decide +kernel
theorem four_x2 : fourOk [49, 46, 50, 46, 51, 46, 50, 53, 54] = false := by decide +kernel
theorem four_x3 : fourN [50, 53, 54] = 256 ∧ fourOk [50, 53, 54] = true := by decide +kernel
theorem AwakeL3_calls (w : World) : Calls Tryz.prog 153 #[] w fun e w' => e = .returned (.bool true) ∧ Below w.heap.size w w' := by
  go_enter Tryz.func153, Tryz.ntmps153
  go_wp2_with fail
  refine (awake3_calls _).mono ?_
  rintro e w1 ⟨rfl, hb⟩
  go_wp2
  go_ret
  exact ⟨rfl, hb⟩
set_option maxHeartbeats 1000000 in
theorem awake4_calls (w : World) : Calls Tryz.prog 122 #[] w fun e w' => e = .returned (.bool true) ∧ Below w.heap.size w w' := by
  go_enter Tryz.func122, Tryz.ntmps122
  go_wp2_with fail
  refine (Four_calls _ _ (by decide)).mono ?_
  rintro e w1 ⟨rfl, b1⟩
  rw [show (ByteArray.mk #[48, 120, 55, 102, 46, 49]).data.toList = [48, 120, 55, 102, 46, 49] from rfl, four_x1.1, four_x1.2]
  go_wp2_with fail
  refine (Four_calls _ _ (by decide)).mono ?_
  rintro e w2 ⟨rfl, b2⟩
  rw [show (ByteArray.mk #[49, 46, 50, 46, 51, 46, 50, 53, 54]).data.toList = [49, 46, 50, 46, 51, 46, 50, 53, 54] from rfl, four_x2]
  go_wp2_with fail
  refine (Four_calls _ _ (by decide)).mono ?_
  rintro e w3 ⟨rfl, b3⟩
  rw [show (ByteArray.mk #[50, 53, 54]).data.toList = [50, 53, 54] from rfl, four_x3.1, four_x3.2]
  go_wp2_with fail
  refine (AwakeL3_calls _).mono ?_
  rintro e w4 ⟨rfl, b4⟩
  have B2 := Aside0.mk (below_then b1 b1.size b2)
  have B3 := Aside0.mk (below_then B2.out B2.out.size b3)
  have B4 := Aside0.mk (below_then B3.out B3.out.size b4)
  clear b1 b2 b3 b4
  go_wp2_with fail
  refine (Of_calls 127 0 0 1 (by omega) (by omega) (by omega) (by omega) _).mono ?_
  rintro e w5 ⟨rfl, rfl⟩
  simp only [Int.reduceMul, Int.reduceAdd]
  go_wp2_with fail
  refine (Of_calls 0 0 1 0 (by omega) (by omega) (by omega) (by omega) _).mono ?_
  rintro e w6 ⟨rfl, rfl⟩
  simp only [Int.reduceMul, Int.reduceAdd]
  go_wp2_with fail
  go_ret
  exact ⟨rfl, B4.out⟩
end Go.Proofs.YtplehdcnnaamkaaGreatDoor

/- The chapter's examples of layer 5, walked. -/
namespace Go.Proofs.YtplehdcnnaamkaaGreatDoor
open Go.RowKit Go.Proofs.YtplehdcnnaamkaaGreatDoorW.PrintWords Go.Proofs.YtplehdcnnaamkaaGreatDoorW.PrintMore

theorem six_v1 : sixHi [58, 58, 102, 102, 102, 102, 58, 49, 46, 50, 46, 51, 46, 52] = 0 ∧ sixLo [58, 58, 102, 102, 102, 102, 58, 49, 46, 50, 46, 51, 46, 52] = 281470698652420 ∧ sixOk [58, 58, 102, 102, 102, 102, 58, 49, 46, 50, 46, 51, 46, 52] = true := by
  have h := six_some six_x1
  exact ⟨h.1.trans (by decide), h.2.1.trans (by decide), h.2.2⟩
theorem six_v2 : sixHi [49, 58, 50, 58, 51, 58, 52, 58, 53, 58, 54, 58, 55] = 0 ∧ sixLo [49, 58, 50, 58, 51, 58, 52, 58, 53, 58, 54, 58, 55] = 0 ∧ sixOk [49, 58, 50, 58, 51, 58, 52, 58, 53, 58, 54, 58, 55] = false := six_none six_x2
theorem AwakeL4_calls (w : World) : Calls Tryz.prog 89 #[] w fun e w' => e = .returned (.bool true) ∧ Below w.heap.size w w' := by
  go_enter Tryz.func89, Tryz.ntmps89
  go_wp2_with fail
  refine (awake4_calls _).mono ?_
  rintro e w1 ⟨rfl, hb⟩
  go_wp2
  go_ret
  exact ⟨rfl, hb⟩
theorem half_x : half ((eight [1, 0, 0, 2]).take 4) = 281474976710658 ∧ half ((eight [1, 0, 0, 2]).drop 4) = 0 := by decide
theorem pcs_x1 : piecesOf 0 281470698652420 = [0, 0, 0, 0, 0, 65535, 258, 772] := by decide
theorem pcs_x2 : piecesOf 281474976710658 0 = [1, 0, 0, 2, 0, 0, 0, 0] := by decide

set_option maxHeartbeats 2000000 in
set_option maxRecDepth 100000 in
theorem awake5_calls (w : World) (hE : Aside0 (Errs w)) (hM : Aside0 (Mx w)) (hP : Aside0 (Pows w)) (hT : Aside0 (Debr w)) : Calls Tryz.prog 53 #[] w fun e w' => e = .returned (.bool true) ∧ Below w.heap.size w w' := by
  go_enter Tryz.func53, Tryz.ntmps53
  go_wp2_with fail
  refine (SixParse_calls _ _ (by decide) hE hM).mono ?_
  rintro e w1 ⟨rfl, b1⟩
  rw [show (ByteArray.mk #[58, 58, 102, 102, 102, 102, 58, 49, 46, 50, 46, 51, 46, 52]).data.toList = [58, 58, 102, 102, 102, 102, 58, 49, 46, 50, 46, 51, 46, 52] from rfl, six_v1.1, six_v1.2.1, six_v1.2.2]
  have B1 := Aside0.mk b1
  clear b1
  go_wp2_with fail
  obtain ⟨W1, hW1⟩ : ∃ W1, W1 = w1.alloc (.cells #[.int .u64 0, .int .u64 281470698652420] 34) := ⟨_, rfl⟩
  rw [← hW1]
  have hg : W1.heap[w1.heap.size]? = some (.cells #[.int .u64 0, .int .u64 281470698652420] 34 (0, 0)) := by rw [hW1]; exact heap_alloc_new' _ _ _ rfl
  have hlt : w1.heap.size < W1.heap.size := by rw [hW1]; simp
  have BW1 : Aside0 (Below w.heap.size w W1) := ⟨by rw [hW1]; exact B1.out.alloc B1.out.size _⟩
  have HG := Aside0.mk hg
  clear hW1 hg
  generalize w1.heap.size = g at *
  refine (SixParse_calls _ _ (by decide) ⟨hE.out.stays BW1.out⟩ ⟨hM.out.stays BW1.out⟩).mono ?_
  rintro e w2 ⟨rfl, b2⟩
  rw [show (ByteArray.mk #[49, 58, 50, 58, 51, 58, 52, 58, 53, 58, 54, 58, 55]).data.toList = [49, 58, 50, 58, 51, 58, 52, 58, 53, 58, 54, 58, 55] from rfl, six_v2.1, six_v2.2.1, six_v2.2.2]
  have hg2 := (b2.block g hlt).trans HG.out
  have B2 := Aside0.mk (below_then BW1.out BW1.out.size b2)
  have hlt2 : g < w2.heap.size := Nat.lt_of_lt_of_le hlt b2.size
  clear b2
  go_wp2_with fail
  obtain ⟨W2, hW2⟩ : ∃ W2, W2 = w2.alloc (.cells #[.int .u64 0, .int .u64 0] 34) := ⟨_, rfl⟩
  rw [← hW2]
  have hg3 : W2.heap[g]? = some (.cells #[.int .u64 0, .int .u64 281470698652420] 34 (0, 0)) := by rw [hW2, heap_alloc_old' _ _ _ hlt2]; exact hg2
  have BW2 : Aside0 (Below w.heap.size w W2) := ⟨by rw [hW2]; exact B2.out.alloc B2.out.size _⟩
  have hlt3 : g < W2.heap.size := by rw [hW2]; simp; omega
  have HG3 := Aside0.mk hg3
  clear hW2 hg2 hg3
  refine (AwakeL4_calls _).mono ?_
  rintro e w3 ⟨rfl, b3⟩
  have hg4 := (b3.block g hlt3).trans HG3.out
  have B3 := Aside0.mk (below_then BW2.out BW2.out.size b3)
  obtain ⟨c0, _⟩ := heap_cell (j := 0) hg4 rfl
  obtain ⟨c1, _⟩ := heap_cell (j := 1) hg4 rfl
  clear b3 hg4
  go_wp2_with fail
  refine (Text6_calls 0 281470698652420 (by omega) (by omega) _ ⟨hP.out.stays B3.out⟩ ⟨hT.out.stays B3.out⟩).mono ?_
  rintro e w4 ⟨rfl, b4⟩
  have B4 := Aside0.mk (below_then B3.out B3.out.size b4)
  rw [pcs_x1, text_x1]
  clear b4 c0 c1
  go_wp2_with fail
  have hs := SixOf_calls (some ⟨w4.heap.size, 0, none⟩) 4 [1, 0, 0, 2] (w4.alloc (.cells #[.int .u16 1, .int .u16 0, .int .u16 0, .int .u16 2] 102)) (by decide) (by decide) (fun _ => ⟨_, rfl, fun j v hv => by
    rw [Go.Proofs.YtplehdcnnaamkaaGreatDoorW.PrintWords.add_plain, World.cell?_alloc_new]
    exact (by simpa [u16s] using hv)⟩)
  rw [half_x.1, half_x.2, show ([1, 0, 0, 2] : List Int).length = 4 from rfl] at hs
  refine hs.mono ?_
  rintro e w5 ⟨rfl, b5⟩
  have B5 : Aside0 (Below w.heap.size w w5) := ⟨below_then (B4.out.alloc B4.out.size _) (by have := B4.out.size; simp; omega) b5⟩
  clear b5 hs
  go_wp2_with fail
  refine (Text6_calls 281474976710658 0 (by omega) (by omega) _ ⟨hP.out.stays B5.out⟩ ⟨hT.out.stays B5.out⟩).mono ?_
  rintro e w6 ⟨rfl, b6⟩
  have B6 := Aside0.mk (below_then B5.out B5.out.size b6)
  rw [pcs_x2, text_x2]
  clear b6
  go_wp2_with fail
  go_ret
  exact ⟨by simp, B6.out⟩
end Go.Proofs.YtplehdcnnaamkaaGreatDoor

/- Layer 6 is awake. -/
namespace Go.Proofs.YtplehdcnnaamkaaGreatDoor
open Go.RowKit Go.Proofs.YtplehdcnnaamkaaGreatDoorW.PrintWords Go.Proofs.YtplehdcnnaamkaaGreatDoorW.PrintMore

theorem ad_x1 : adOf [58, 58, 102, 102, 102, 102, 58, 55, 102, 48, 48, 58, 49] = some (true, 0, 281472812449793) := by decide +kernel
theorem ad_x2 : adOf [50, 48, 48, 50, 58, 55, 102, 48, 48, 58, 49, 58, 58] = some (true, 2306545597143908352, 0) := by decide +kernel
theorem in_x1 : inL4 0 281472812449793 = [2130706433] := by decide
theorem in_x2 : inL4 2306545597143908352 0 = [2130706433] := by decide
theorem AwakeL5_calls (w : World) (hE : Aside0 (Errs w)) (hM : Aside0 (Mx w)) (hP : Aside0 (Pows w)) (hT : Aside0 (Debr w)) : Calls Tryz.prog 139 #[] w fun e w' => e = .returned (.bool true) ∧ Below w.heap.size w w' := by
  go_enter Tryz.func139, Tryz.ntmps139
  go_wp2_with fail
  refine (awake5_calls _ hE hM hP hT).mono ?_
  rintro e w1 ⟨rfl, b1⟩
  go_wp2_with fail
  go_ret
  exact ⟨rfl, b1⟩
set_option maxHeartbeats 4000000 in
set_option maxRecDepth 100000 in
theorem awake6_calls (w : World) (hE : Aside0 (Errs w)) (hM : Aside0 (Mx w)) (hP : Aside0 (Pows w)) (hT : Aside0 (Debr w)) : Calls Tryz.prog 107 #[] w fun e w' => e = .returned (.bool true) ∧ Below w.heap.size w w' := by
  go_enter Tryz.func107, Tryz.ntmps107
  go_wp2_with fail
  refine (AdParse_calls _ _ (by decide) hE hM).mono ?_
  rw [show (ByteArray.mk #[58, 58, 102, 102, 102, 102, 58, 55, 102, 48, 48, 58, 49]).data.toList = [58, 58, 102, 102, 102, 102, 58, 55, 102, 48, 48, 58, 49] from rfl, ad_x1]
  simp only [adVo, adV, Option.isSome]
  rintro e w1 ⟨rfl, b1⟩
  have B1 := Aside0.mk b1
  clear b1
  go_wp2_with fail
  refine (AdParse_calls _ _ (by decide) ⟨hE.out.stays B1.out⟩ ⟨hM.out.stays B1.out⟩).mono ?_
  rw [show (ByteArray.mk #[50, 48, 48, 50, 58, 55, 102, 48, 48, 58, 49, 58, 58]).data.toList = [50, 48, 48, 50, 58, 55, 102, 48, 48, 58, 49, 58, 58] from rfl, ad_x2]
  simp only [adVo, adV, Option.isSome]
  rintro e w2 ⟨rfl, b2⟩
  have B2 := Aside0.mk (below_then B1.out B1.out.size b2)
  clear b2
  go_wp2_with fail
  refine (AwakeL5_calls _ ⟨hE.out.stays B2.out⟩ ⟨hM.out.stays B2.out⟩ ⟨hP.out.stays B2.out⟩ ⟨hT.out.stays B2.out⟩).mono ?_
  rintro e w3 ⟨rfl, b3⟩
  have B3 := Aside0.mk (below_then B2.out B2.out.size b3)
  clear b3
  go_wp2_with fail
  refine (Inner6_calls 0 281472812449793 (by omega) (by omega) _).mono ?_
  rw [in_x1]
  rintro e w4 ⟨v, rfl, hR, b4⟩
  have B4 := Aside0.mk (below_then B3.out B3.out.size b4)
  obtain ⟨A, c, rfl, hcap, hC⟩ := Kd.R_reads hR
  simp only [List.length_cons, List.length_nil, Nat.zero_add]
  have HC := Aside0.mk hC
  clear hR hC b4
  go_wp2_with fail
  refine (EqualF_calls [2130706433] [2130706433] 1 1 rfl rfl A (some ⟨w4.heap.size, 0, none⟩) c 1 _ (by omega) (fun j hj => C_kget (Kd.C_alloc HC.out _) j hj) (fun j hj => C_kget (C_new .u32 w4 [2130706433] _ (by decide)) j hj)).mono ?_
  rw [show decide (([2130706433] : List Int) = [2130706433]) = true from rfl]
  rintro e w5 ⟨rfl, b5⟩
  have B5 : Aside0 (Below w.heap.size w w5) := ⟨below_then (B4.out.alloc B4.out.size _) (by have := B4.out.size; simp; omega) b5⟩
  clear b5 HC hcap
  go_wp2_with fail
  refine (Inner6_calls 2306545597143908352 0 (by omega) (by omega) _).mono ?_
  rw [in_x2]
  rintro e w6 ⟨v, rfl, hR, b6⟩
  have B6 := Aside0.mk (below_then B5.out B5.out.size b6)
  obtain ⟨A2, c2, rfl, hcap, hC⟩ := Kd.R_reads hR
  simp only [List.length_cons, List.length_nil, Nat.zero_add]
  have HC := Aside0.mk hC
  clear hR hC b6
  go_wp2_with fail
  refine (EqualF_calls [2130706433] [2130706433] 1 1 rfl rfl A2 (some ⟨w6.heap.size, 0, none⟩) c2 1 _ (by omega) (fun j hj => C_kget (Kd.C_alloc HC.out _) j hj) (fun j hj => C_kget (C_new .u32 w6 [2130706433] _ (by decide)) j hj)).mono ?_
  rw [show decide (([2130706433] : List Int) = [2130706433]) = true from rfl]
  rintro e w7 ⟨rfl, b7⟩
  have B7 : Aside0 (Below w.heap.size w w7) := ⟨below_then (B6.out.alloc B6.out.size _) (by have := B6.out.size; simp; omega) b7⟩
  clear b7
  go_wp2_with fail
  go_ret
  exact ⟨rfl, B7.out⟩
end Go.Proofs.YtplehdcnnaamkaaGreatDoor

/- Layer 7 is awake. -/
namespace Go.Proofs.YtplehdcnnaamkaaGreatDoor
open Go.RowKit Go.Proofs.YtplehdcnnaamkaaGreatDoorW.PrintWords Go.Proofs.YtplehdcnnaamkaaGreatDoorW.PrintMore

theorem pf_x1 : pfOf [49, 48, 46, 48, 46, 48, 46, 48, 47, 56] = some (0, 281470849515520, 104) := by decide +kernel
theorem ad_x3 : adOf [49, 48, 46, 49, 46, 50, 46, 51] = some (false, 0, 167838211) := by decide +kernel
theorem ad_x4 : adOf [58, 58, 102, 102, 102, 102, 58, 49, 48, 46, 49, 46, 50, 46, 51] = some (true, 0, 281470849581571) := by decide +kernel
theorem ad_x5 : adOf [49, 49, 46, 49, 46, 50, 46, 51] = some (false, 0, 184615427) := by decide +kernel
theorem has_x1 : hasO 0 281470849515520 104 (some (false, 0, 167838211)) = true := by decide +kernel
theorem has_x2 : hasO 0 281470849515520 104 (some (true, 0, 281470849581571)) = true := by decide +kernel
theorem has_x3 : hasO 0 281470849515520 104 (some (false, 0, 184615427)) = false := by decide +kernel
theorem AwakeL6_calls (w : World) (hE : Aside0 (Errs w)) (hM : Aside0 (Mx w)) (hP : Aside0 (Pows w)) (hT : Aside0 (Debr w)) : Calls Tryz.prog 62 #[] w fun e w' => e = .returned (.bool true) ∧ Below w.heap.size w w' := by
  go_enter Tryz.func62, Tryz.ntmps62
  go_wp2_with fail
  refine (awake6_calls _ hE hM hP hT).mono ?_
  rintro e w1 ⟨rfl, b1⟩
  go_wp2_with fail
  go_ret
  exact ⟨rfl, b1⟩
theorem ok_some (a : Bool × Int × Int) (h : adOk a) : ∀ b, some a = some b → adOk b := fun b e => by rw [← Option.some.inj e]; exact h
set_option maxHeartbeats 4000000 in
set_option maxRecDepth 100000 in
theorem awake7_calls (w : World) (hE : Aside0 (Errs w)) (hM : Aside0 (Mx w)) (hP : Aside0 (Pows w)) (hT : Aside0 (Debr w)) : Calls Tryz.prog 15 #[] w fun e w' => e = .returned (.bool true) ∧ Below w.heap.size w w' := by
  go_enter Tryz.func15, Tryz.ntmps15
  go_wp2_with fail
  refine (PfParse_calls _ _ (by decide) hE hM).mono ?_
  rw [show (ByteArray.mk #[49, 48, 46, 48, 46, 48, 46, 48, 47, 56]).data.toList = [49, 48, 46, 48, 46, 48, 46, 48, 47, 56] from rfl, pf_x1]
  simp only [pfV, Option.isSome]
  rintro e w1 ⟨rfl, b1⟩
  obtain ⟨W1, hW1⟩ : ∃ W1, W1 = w1.alloc (.cells #[.int .u64 0, .int .u64 281470849515520, .int .i64 104] 25) := ⟨_, rfl⟩
  obtain ⟨hg1, hl1, hb1⟩ := box3 hW1
  have HW1 := Lib.hid hW1
  have HG1 := Aside0.mk hg1
  have B1 := Aside0.mk (below_then b1 b1.size hb1)
  clear hW1 hg1 b1 hb1
  go_wp2_with fail
  rw [← HW1.out]
  refine (AdParse_calls _ _ (by decide) ⟨hE.out.stays B1.out⟩ ⟨hM.out.stays B1.out⟩).mono ?_
  rw [show (ByteArray.mk #[49, 48, 46, 49, 46, 50, 46, 51]).data.toList = [49, 48, 46, 49, 46, 50, 46, 51] from rfl, ad_x3]
  simp only [adVo, adV, Option.isSome]
  rintro e w2 ⟨rfl, b2⟩
  have HG2 := Aside0.mk ((b2.block _ hl1).trans HG1.out)
  have hl2 := Nat.lt_of_lt_of_le hl1 b2.size
  have B2 := Aside0.mk (below_then B1.out B1.out.size b2)
  clear b2
  go_wp2_with fail
  refine (AdParse_calls _ _ (by decide) ⟨hE.out.stays B2.out⟩ ⟨hM.out.stays B2.out⟩).mono ?_
  rw [show (ByteArray.mk #[58, 58, 102, 102, 102, 102, 58, 49, 48, 46, 49, 46, 50, 46, 51]).data.toList = [58, 58, 102, 102, 102, 102, 58, 49, 48, 46, 49, 46, 50, 46, 51] from rfl, ad_x4]
  simp only [adVo, adV, Option.isSome]
  rintro e w3 ⟨rfl, b3⟩
  have HG3 := Aside0.mk ((b3.block _ hl2).trans HG2.out)
  have hl3 := Nat.lt_of_lt_of_le hl2 b3.size
  have B3 := Aside0.mk (below_then B2.out B2.out.size b3)
  clear b3
  go_wp2_with fail
  refine (AdParse_calls _ _ (by decide) ⟨hE.out.stays B3.out⟩ ⟨hM.out.stays B3.out⟩).mono ?_
  rw [show (ByteArray.mk #[49, 49, 46, 49, 46, 50, 46, 51]).data.toList = [49, 49, 46, 49, 46, 50, 46, 51] from rfl, ad_x5]
  simp only [adVo, adV, Option.isSome]
  rintro e w4 ⟨rfl, b4⟩
  have HG4 := Aside0.mk ((b4.block _ hl3).trans HG3.out)
  have hl4 := Nat.lt_of_lt_of_le hl3 b4.size
  have B4 := Aside0.mk (below_then B3.out B3.out.size b4)
  clear b4
  go_wp2_with fail
  refine (AwakeL6_calls _ ⟨hE.out.stays B4.out⟩ ⟨hM.out.stays B4.out⟩ ⟨hP.out.stays B4.out⟩ ⟨hT.out.stays B4.out⟩).mono ?_
  rintro e w5 ⟨rfl, b5⟩
  have HG5 := Aside0.mk ((b5.block _ hl4).trans HG4.out)
  have hl5 := Nat.lt_of_lt_of_le hl4 b5.size
  have B5 := Aside0.mk (below_then B4.out B4.out.size b5)
  have hg5 := HG5.out
  obtain ⟨k0, _⟩ := heap_cell (j := 0) hg5 rfl
  obtain ⟨k1, _⟩ := heap_cell (j := 1) hg5 rfl
  obtain ⟨k2, _⟩ := heap_cell (j := 2) hg5 rfl
  clear b5 hg5
  go_wp2_with fail
  refine (PfHas_calls 0 281470849515520 104 (some (false, 0, 167838211)) (ok_some _ ⟨rfl, by omega, by omega⟩) (by omega) (by omega) _).mono ?_
  rw [has_x1]
  rintro e w6 ⟨rfl, b6⟩
  have HG6 := Aside0.mk ((b6.block _ hl5).trans HG5.out)
  have hl6 := Nat.lt_of_lt_of_le hl5 b6.size
  have B6 := Aside0.mk (below_then B5.out B5.out.size b6)
  have hg6 := HG6.out
  clear k0 k1 k2
  obtain ⟨k0, _⟩ := heap_cell (j := 0) hg6 rfl
  obtain ⟨k1, _⟩ := heap_cell (j := 1) hg6 rfl
  obtain ⟨k2, _⟩ := heap_cell (j := 2) hg6 rfl
  clear b6 hg6
  go_wp2_with fail
  refine (PfHas_calls 0 281470849515520 104 (some (true, 0, 281470849581571)) (ok_some _ ⟨by omega, by omega⟩) (by omega) (by omega) _).mono ?_
  rw [has_x2]
  rintro e w7 ⟨rfl, b7⟩
  have HG7 := Aside0.mk ((b7.block _ hl6).trans HG6.out)
  have B7 := Aside0.mk (below_then B6.out B6.out.size b7)
  have hg7 := HG7.out
  clear k0 k1 k2
  obtain ⟨k0, _⟩ := heap_cell (j := 0) hg7 rfl
  obtain ⟨k1, _⟩ := heap_cell (j := 1) hg7 rfl
  obtain ⟨k2, _⟩ := heap_cell (j := 2) hg7 rfl
  clear b7 hg7
  go_wp2_with fail
  refine (PfHas_calls 0 281470849515520 104 (some (false, 0, 184615427)) (ok_some _ ⟨rfl, by omega, by omega⟩) (by omega) (by omega) _).mono ?_
  rw [has_x3]
  rintro e w8 ⟨rfl, b8⟩
  have B8 := Aside0.mk (below_then B7.out B7.out.size b8)
  clear b8
  go_wp2_with fail
  go_ret
  exact ⟨rfl, B8.out⟩
end Go.Proofs.YtplehdcnnaamkaaGreatDoor

/- The law PrefixReads, walked. -/
namespace Go.Proofs.YtplehdcnnaamkaaGreatDoor
open Go.RowKit Go.Proofs.YtplehdcnnaamkaaGreatDoorW.PrintWords Go.Proofs.YtplehdcnnaamkaaGreatDoorW.PrintMore

set_option maxRecDepth 100000 in
theorem ep_28 (a b c a' b' c' : Int) (w : World) : (binOp .eql 28 (.agg #[.int .u64 a, .int .u64 b, .int .i64 c]) (.agg #[.int .u64 a', .int .u64 b', .int .i64 c'])).run Tryz.prog w = .ok (.bool (a == a' && (b == b' && c == c'))) w := by
  have h : (Op.equalIn (9998 + 2) 28 (.agg #[.int .u64 a, .int .u64 b, .int .i64 c]) (.agg #[.int .u64 a', .int .u64 b', .int .i64 c'])).run Tryz.prog w = .ok (a == a' && (b == b' && c == c')) w := by
    have e1 : (Op.equalIn (9998 + 1) 23 (.int .u64 a) (.int .u64 a')).run Tryz.prog w = .ok (a == a') w := run_equalIn_int w 9998 23 .u64 .u64 a a' Tryz.underlying23
    have e2 : (Op.equalIn (9998 + 1) 23 (.int .u64 b) (.int .u64 b')).run Tryz.prog w = .ok (b == b') w := run_equalIn_int w 9998 23 .u64 .u64 b b' Tryz.underlying23
    have e3 : (Op.equalIn (9998 + 1) 3 (.int .i64 c) (.int .i64 c')).run Tryz.prog w = .ok (c == c') w := run_equalIn_int w 9998 3 .i64 .i64 c c' Tryz.underlying3
    refine eqA_of Tryz.underlying28 (by kernel_rfl) ?_
    exact eqf_cons rfl (by kernel_rfl) (by kernel_rfl) e1 (eqf_cons rfl (by kernel_rfl) (by kernel_rfl) e2 (eqf_last rfl (by kernel_rfl) (by kernel_rfl) e3))
  simp only [binOp]
  simp [Op.equal, Op.maxDepth, h]
theorem eg_28 (a b c a' b' c' : Int) (o1 o2 : Operand) (w : World) : (eqGuard .eql 28 o1 o2 (.agg #[.int .u64 a, .int .u64 b, .int .i64 c]) (.agg #[.int .u64 a', .int .u64 b', .int .i64 c'])).run Tryz.prog w = .ok () w := by kernel_rfl
theorem pfV_agg (o : Option P3) : ∃ a b c, pfV o = .agg #[.int .u64 a, .int .u64 b, .int .i64 c] := by
  cases o <;> exact ⟨_, _, _, rfl⟩
set_option maxHeartbeats 4000000 in
set_option maxRecDepth 100000 in
theorem PrefixReads_law (s : ByteArray) (_hs : s.size ≤ 140737488351232) (w : World) (hP : Aside0 (Pows w)) (hT : Aside0 (Debr w)) (hE : Aside0 (Errs w)) (hM : Aside0 (Mx w)) :
    Calls Tryz.prog 3 #[.string s] w fun e w' => e = .returned (.bool true) ∧ Below w.heap.size w w' := by
  by_cases hz : s.size ≤ 500
  · have P1 := Aside0.mk (fun W hE hM => PfParse_calls s W (by omega) hE hM)
    have P2 := Aside0.mk (fun W => rPfParse_calls s W (by omega))
    obtain ⟨a, b, c, hv⟩ := pfV_agg (pfOf s.data.toList)
    rw [hv] at P1 P2
    clear hv
    generalize (pfOf s.data.toList).isSome = ok at P1 P2
    have q1 := ep_28
    have q2 := eg_28
    go_enter Tryz.func3, Tryz.ntmps3
    go_wp2_with fail
    refine (awake7_calls _ hE hM hP hT).mono ?_
    rintro e w1 ⟨rfl, b1⟩
    have B1 := Aside0.mk b1
    clear b1
    go_wp2_with fail
    refine (P1.out _ ⟨hE.out.stays B1.out⟩ ⟨hM.out.stays B1.out⟩).mono ?_
    rintro e w2 ⟨rfl, b2⟩
    obtain ⟨W3, hW3⟩ : ∃ W3, W3 = w2.alloc (.cells #[.int .u64 a, .int .u64 b, .int .i64 c] 25) := ⟨_, rfl⟩
    obtain ⟨hg3, hl3, hb3⟩ := box3 hW3
    have HG3 := Aside0.mk hg3
    have HW3 := Lib.hid hW3
    have B3 := Aside0.mk (below_then (below_then B1.out B1.out.size b2) (below_then B1.out B1.out.size b2).size hb3)
    clear b2 hW3 hg3 hb3
    go_wp2_with fail
    rw [← HW3.out]
    refine (P2.out _).mono ?_
    rintro e w4 ⟨rfl, b4⟩
    have hg4 := (b4.block _ hl3).trans HG3.out
    have B4 := Aside0.mk (below_then B3.out B3.out.size b4)
    obtain ⟨W5, hW5⟩ : ∃ W5, W5 = w4.alloc (.cells #[.int .u64 a, .int .u64 b, .int .i64 c] 28) := ⟨_, rfl⟩
    obtain ⟨hg5, hl5, hb5⟩ := box3 hW5
    have hg6 := (hb5.block _ (Nat.lt_of_lt_of_le hl3 b4.size)).trans hg4
    have HW5 := Lib.hid hW5
    have B5 := Aside0.mk (below_then B4.out B4.out.size hb5)
    obtain ⟨k0, _⟩ := heap_cell (j := 0) hg6 rfl
    obtain ⟨k1, _⟩ := heap_cell (j := 1) hg6 rfl
    obtain ⟨k2, _⟩ := heap_cell (j := 2) hg6 rfl
    rw [HW5.out] at k0 k1 k2
    clear b4 hg4 hg5 hg6 hW5 hb5
    go_wp2_with fail
    rw [← HW5.out]
    go_ret
    exact ⟨ret_bool (by simp), B5.out⟩
  · go_enter Tryz.func3, Tryz.ntmps3
    go_wp2_with fail
    refine (awake7_calls _ hE hM hP hT).mono ?_
    rintro e w1 ⟨rfl, b1⟩
    have B1 := Aside0.mk b1
    clear b1
    have hz' : (500 : Int) < (s.size : Int) := by omega
    go_wp2_with fail
    go_ret
    exact ⟨rfl, B1.out⟩
theorem PrefixReads_row (s : ByteArray) (w : World) (hs : s.size ≤ 140737488351232) (hP : Aside0 (Pows w)) (hT : Aside0 (Debr w)) (hE : Aside0 (Errs w)) (hM : Aside0 (Mx w)) :
    Calls Tryz.prog 3 #[.string s] w fun e w' => e = .returned (.bool true) ∧ Below w.heap.size w w' := PrefixReads_law s hs w hP hT hE hM
end Go.Proofs.YtplehdcnnaamkaaGreatDoor

/- A row that lists variables, its world's shape kept; a slice of numbers that came in: opened. -/
namespace Go.Proofs.YtplehdcnnaamkaaGreatDoor
open Go.ChangeShapes Go.WideShapes Go.RowKit

theorem returns_and_shaped {H : Type} {enc : TypeId × Value → H} {a : Assume} {C : Checked} {os : Os} {f : FuncId} {fn : Func} {s : ChangeSpec} {conds : List PathCond} {apart fresh handsOn again : Bool} {X : World → Array Value → Prop}
    (hX : ∀ (w w' : World) (args : Array Value), w.heap = w'.heap → X w args → X w' args)
    (own : ownKnob C.prog.godebug = none) (started : os.Started) (noInit : C.prog.inits.idxOf? f = none) (hfn : C.prog.funcs[f]? = some fn)
    (witness : ∃ (w : World) (tape : Tape) (i : Input), w.os = os ∧ (w.forCall tape i).Shaped C.prog ∧ i.vars = [] ∧ Input.okWide C.prog (w.forCall tape i) .any w.heap.size f i ∧
      ((s.pre enc C.prog fn conds apart (w.forCall tape i).memory i.args ∧ X (w.forCall tape i).memory i.args) ∧ sizedMet enc C.prog fn (OpenSpec.ofChange s) apart (w.forCall tape i).memory i.args) ∧ a.holds C.prog (lone (Frame.enter C.prog f i.args .normal) [] (w.forCall tape i)))
    (contract : ∀ (W : World) (base : Nat) (args : Array Value) (ds gs : List (DataW H)) (before : List MemPlace),
      (∀ (j : Nat) t v, fn.params[j]? = some t → args[j]? = some v → Value.okWide C.prog W .any base t v) →
      DataW.Whole enc C.prog fn.params.toList s.vars apart W args.toList ds gs before →
      conds.all (PathCond.test C.prog ⟨fn.params.toList, ds, s.plain.varTypes C.prog, gs⟩) = true →
      (DataW.weightsEach C.prog (fn.params.toList ++ s.plain.varTypes C.prog) (ds ++ gs)).all (· ≤ reachBytes) = true → X W args → W.ShapedOpen C.prog →
      a.holds C.prog (lone (Frame.enter C.prog f args .normal) [] W) →
      Calls C.prog f args W fun e W' => ∃ v, e = .returned v ∧ s.post enc C.prog fn apart fresh handsOn again W args v W') :
    ReturnsInHanded a C os f .any (fun w args => (s.pre enc C.prog fn conds apart w args ∧ X w args) ∧ sizedMet enc C.prog fn (OpenSpec.ofChange s) apart w args) (s.post enc C.prog fn apart fresh handsOn again) := by
  refine returnsInHanded_of_calls own started noInit witness ?_
  intro w tape i _ hsh _ hok hpre hholds
  obtain ⟨_, _, _, fn', hfn', _, _, _, _, hval⟩ := hok
  obtain rfl : fn' = fn := Option.some.inj (hfn'.symm.trans hfn)
  obtain ⟨⟨⟨ds, gs, before, hw, hc⟩, hx⟩, hz⟩ := hpre
  have hw' := DataW.Whole.of_heap (w' := w.forCall tape i) (by rfl) hw
  refine (contract (w.forCall tape i) w.heap.size i.args ds gs before hval hw' hc (hz.weights hw) (hX _ _ _ (by rfl) hx) hsh hholds).mono fun e W' ⟨v, he, hp⟩ => ?_
  subst he
  exact ChangeSpec.post_blind hp
theorem mx_of {W : World} (h : W.ShapedOpen Tryz.prog) : Mx W :=
  Go.Proofs.cell_of_shapedOpen_int (zero := #[.int .i64 0]) (t := 3) h (of_decide_eq_true (by kernel_rfl)) (by kernel_rfl) rfl (by kernel_rfl) (by kernel_rfl) Tryz.underlying3

end Go.Proofs.YtplehdcnnaamkaaGreatDoor

