/- The document's reading of an address of eight pieces, and that the reader's is the same: plain Lean. -/
import Derived.Test.YtfieiigefllekaaGreatDoorJI
import Derived.Test.YtfieiigefllekaaGreatDoorJF
import Derived.Test.YtfieiigefllekaaGreatDoorJD
import Derived.BigRegion
namespace Go.Proofs.YtfieiigefllekaaGreatDoor
open Go.RowKit Go.Proofs.YtfieiigefllekaaGreatDoorW.PrintWords

/-- The pieces of some words; the last one may be an address of four bytes. -/
def listW (last : Bool) : List (List UInt8) → Option (List Int)
  | [] => some []
  | w :: ws => if strictOk w = true ∧ last = true ∧ ws = [] then some [strictN w / 65536, strictN w % 65536] else match pieceL w with
    | none => none
    | some x => (listW last ws).map (x :: ·)
def listD (last : Bool) (s : List UInt8) : Option (List Int) := if s = [] then some [] else listW last (splitL (isAt ⟨#[58]⟩) s)
/-- Where two colons stand. -/
def dcol : List UInt8 → Option (List UInt8 × List UInt8)
  | [] => none
  | a :: r => if a = 58 ∧ r.head? = some 58 then some ([], r.tail) else (dcol r).map fun p => (a :: p.1, p.2)
def docL (s : List UInt8) : Option (List Int) := match dcol s with
  | none => match listD true s with
    | none => none
    | some l => if l.length = 8 then some l else none
  | some (a, b) => match listD false a, listD true b with
    | some l, some r => if l.length + r.length ≤ 7 then some (l ++ List.replicate (8 - (l.length + r.length)) 0 ++ r) else none
    | _, _ => none

theorem at_colon (c : UInt8) : isAt ⟨#[58]⟩ c = decide (c = 58) := by
  by_cases h : c = 58
  · subst h; rfl
  · have hb : ((58 : UInt8) == c) = false := beq_eq_false_iff_ne.2 fun h' => h h'.symm
    simp [isAt, Lib.indexByte, hb, h]
theorem pre_colon (s : List UInt8) : Lib.hasPrefix s [58] = decide (s.head? = some 58) := by
  cases s with
  | nil => rfl
  | cons a r =>
    by_cases h : a = 58
    · subst h; simp [Lib.hasPrefix]
    · have h2 : ¬ (58 : UInt8) = a := fun h' => h h'.symm
      simp only [Lib.hasPrefix, List.isPrefixOf, List.head?_cons, Option.some.injEq, h, decide_false, Bool.and_eq_false_imp, beq_iff_eq]
      exact fun h' => absurd h' h2
theorem index_colon (a : UInt8) (r : List UInt8) : Lib.index (a :: r) [58] = if a = 58 then 0 else if Lib.index r [58] = -1 then -1 else Lib.index r [58] + 1 := by
  rw [Lib.index]
  by_cases h : a = 58
  · subst h; simp
  · have hb : ¬ (58 : UInt8) = a := fun h' => h h'.symm
    simp [h, hb]
theorem index_word (w r : List UInt8) (h : ∀ c ∈ w, c ≠ 58) : Lib.index (w ++ 58 :: r) [58] = (w.length : Int) := by
  induction w with
  | nil => rw [List.nil_append, index_colon, if_pos rfl]; rfl
  | cons a w ih =>
    rw [List.cons_append, index_colon, if_neg (h a (by simp)), ih fun c hc => h c (by simp [hc]), if_neg (by omega)]
    simp
theorem index_nowhere (w : List UInt8) (h : ∀ c ∈ w, c ≠ 58) : Lib.index w [58] = -1 := by
  induction w with
  | nil => rfl
  | cons a w ih => rw [index_colon, if_neg (h a (by simp)), if_pos (ih fun c hc => h c (by simp [hc]))]
/-- A text has a first word and a rest, or is one word. -/
theorem cut_spec (s : List UInt8) : (∃ w r, s = w ++ 58 :: r ∧ (∀ c ∈ w, c ≠ 58) ∧ Lib.cut s [58] = (w, r, true)) ∨ ((∀ c ∈ s, c ≠ 58) ∧ Lib.cut s [58] = (s, [], false)) := by
  have key : (∃ w r, s = w ++ 58 :: r ∧ ∀ c ∈ w, c ≠ 58) ∨ ∀ c ∈ s, c ≠ 58 := by
    induction s with
    | nil => exact .inr (by simp)
    | cons a s ih =>
      by_cases h : a = 58
      · exact .inl ⟨[], s, by rw [h]; rfl, by simp⟩
      · rcases ih with ⟨w, r, rfl, hw⟩ | hn
        · refine .inl ⟨a :: w, r, rfl, fun c hc => ?_⟩
          rcases List.mem_cons.1 hc with rfl | hc
          · exact h
          · exact hw c hc
        · refine .inr fun c hc => ?_
          rcases List.mem_cons.1 hc with rfl | hc
          · exact h
          · exact hn c hc
  rcases key with ⟨w, r, rfl, hw⟩ | hn
  · refine .inl ⟨w, r, rfl, hw, ?_⟩
    rw [Lib.cut, index_word w r hw, if_pos (by omega)]
    simp
  · refine .inr ⟨hn, ?_⟩
    rw [Lib.cut, index_nowhere s hn, if_neg (by omega)]
theorem split_word (w r : List UInt8) (h : ∀ c ∈ w, c ≠ 58) : splitL (isAt ⟨#[58]⟩) (w ++ 58 :: r) = w :: splitL (isAt ⟨#[58]⟩) r := by
  induction w with
  | nil => rw [List.nil_append, splitL, if_pos (by rw [at_colon]; decide)]
  | cons a w ih => rw [List.cons_append, splitL, if_neg (by rw [at_colon]; simpa using h a (by simp)), ih fun c hc => h c (by simp [hc])]
theorem split_one (w : List UInt8) (h : ∀ c ∈ w, c ≠ 58) : splitL (isAt ⟨#[58]⟩) w = [w] := by
  induction w with
  | nil => rfl
  | cons a w ih => rw [splitL, if_neg (by rw [at_colon]; simpa using h a (by simp)), ih fun c hc => h c (by simp [hc])]
theorem dcol_one (w : List UInt8) (h : ∀ c ∈ w, c ≠ 58) : dcol w = none := by
  induction w with
  | nil => rfl
  | cons a w ih => rw [dcol, if_neg (fun hh => h a (by simp) hh.1), ih fun c hc => h c (by simp [hc])]; rfl
theorem dcol_word (w r : List UInt8) (h : ∀ c ∈ w, c ≠ 58) : dcol (w ++ 58 :: r) = if r.head? = some 58 then some (w, r.tail) else (dcol r).map fun p => (w ++ 58 :: p.1, p.2) := by
  induction w with
  | nil =>
    rw [List.nil_append, dcol]
    by_cases hr : r.head? = some 58
    · rw [if_pos ⟨rfl, hr⟩, if_pos hr]
    · rw [if_neg (fun hh => hr hh.2), if_neg hr]
      rfl
  | cons a w ih =>
    rw [List.cons_append, dcol, if_neg (fun hh => h a (by simp) hh.1), ih fun c hc => h c (by simp [hc])]
    by_cases hr : r.head? = some 58
    · rw [if_pos hr, if_pos hr]; rfl
    · rw [if_neg hr, if_neg hr, Option.map_map]
      rfl
theorem list_empty (last : Bool) (ws : List (List UInt8)) : listW last ([] :: ws) = none := by
  rw [listW, if_neg (fun h => absurd h.1 (by decide))]
  rfl
theorem list_more (last : Bool) (w : List UInt8) (ws : List (List UInt8)) (h : ws ≠ []) : listW last (w :: ws) = match pieceL w with
    | none => none
    | some x => (listW last ws).map (x :: ·) := by
  rw [listW, if_neg (fun hh => h hh.2.2)]
theorem bind_over (o : Option (List Int)) (p : List Int) (g : Int) (h : 8 < p.length) : (o.bind fun q => if 8 < (p ++ q).length then none else some (p ++ q, g)) = none := by
  cases o with
  | none => rfl
  | some q => exact if_pos (by simp; omega)
theorem bind_map (o : Option (List Int)) (p : List Int) (x g : Int) : ((o.map (x :: ·)).bind fun q => if 8 < (p ++ q).length then none else some (p ++ q, g)) = o.bind fun q => if 8 < ((p ++ [x]) ++ q).length then none else some ((p ++ [x]) ++ q, g) := by
  cases o <;> simp
theorem runL_step (n : Nat) (rest : List UInt8) (p : List Int) (gap : Int) : runL (n + 1) rest p gap false = match stepL rest p gap with
    | none => none
    | some (r', p', g', e') => if 8 < p'.length then none else runL n r' p' g' e' := rfl
theorem runL_end (n : Nat) (rest : List UInt8) (p : List Int) (gap : Int) : runL n rest p gap true = some (p, gap) := by cases n <;> rfl
/-- One word alone. -/
theorem run_last (n : Nat) (rest : List UInt8) (p : List Int) (gap : Int) (hn : ∀ c ∈ rest, c ≠ 58) (hc : Lib.cut rest [58] = (rest, [], false)) : runL (n + 1) rest p gap false = (listW true (splitL (isAt ⟨#[58]⟩) rest)).bind fun q => if 8 < (p ++ q).length then none else some (p ++ q, gap) := by
  have hp : Lib.hasPrefix rest [58] = false := by
    rw [pre_colon, decide_eq_false_iff_not]
    intro h
    rcases rest with _ | ⟨a, r⟩
    · cases h
    · exact hn a (by simp) (Option.some.inj h)
  rw [runL_step, stepL, if_neg (by rw [hp]; decide), hc, stepW, split_one rest hn]
  by_cases hs : strictOk rest = true
  · rw [if_pos ⟨hs, rfl⟩, listW, if_pos ⟨hs, rfl, rfl⟩]
    simp only [runL_end]
    rfl
  · rw [if_neg (fun h => hs h.1), listW, if_neg (fun h => hs h.1)]
    cases pieceL rest with
    | none => rfl
    | some x =>
      simp only [Bool.false_eq_true, false_and, if_false, Bool.not_false, runL_end]
      rfl
/-- Behind the gap. -/
theorem run_gap : ∀ (n : Nat) (rest : List UInt8) (p : List Int) (gap : Int), 0 ≤ gap → rest ≠ [] → rest.length < n → runL n rest p gap false = (listW true (splitL (isAt ⟨#[58]⟩) rest)).bind fun q => if 8 < (p ++ q).length then none else some (p ++ q, gap)
  | 0, _, _, _, _, _, h => absurd h (by omega)
  | n + 1, rest, p, gap, hg, hne, hl => by
    rcases cut_spec rest with ⟨w, r, rfl, hw, hc⟩ | ⟨hn, hc⟩
    · rw [runL_step, stepL, pre_colon, hc]
      rcases w with _ | ⟨a, w⟩
      · rw [if_pos (by simp), if_pos hg, split_word _ _ hw, list_empty]
        rfl
      · rw [if_neg (by simpa using hw a (by simp)), stepW, if_neg (by simp), split_word _ _ hw, list_more _ _ _ (splitL_ne _ _)]
        simp only
        cases pieceL (a :: w) with
        | none => rfl
        | some x =>
          simp only [true_and]
          by_cases hr : r = []
          · subst hr
            rw [if_pos rfl]
            simp only [splitL, list_empty]
            rfl
          · rw [if_neg hr]
            simp only [Bool.not_true]
            rw [bind_map]
            by_cases h8 : 8 < (p ++ [x]).length
            · rw [if_pos h8, bind_over _ _ _ h8]
            · rw [if_neg h8]
              exact run_gap n r (p ++ [x]) gap hg hr (by simp at hl; omega)
    · exact run_last n rest p gap hn hc
/-- What a run says as long as no gap is met. -/
def startR (rest : List UInt8) (p : List Int) : Option (List Int × Int) := match dcol rest with
  | none => (listW true (splitL (isAt ⟨#[58]⟩) rest)).bind fun q => if 8 < (p ++ q).length then none else some (p ++ q, -1)
  | some (l, r) => (listW false (splitL (isAt ⟨#[58]⟩) l)).bind fun a => (listD true r).bind fun b => if 8 < (p ++ (a ++ b)).length then none else some (p ++ (a ++ b), ((p ++ a).length : Int))
theorem start_over (rest : List UInt8) (p : List Int) (h : 8 < p.length) : startR rest p = none := by
  rw [startR]
  cases dcol rest with
  | none => exact bind_over _ _ _ h
  | some lr =>
    simp only
    cases listW false (splitL (isAt ⟨#[58]⟩) lr.1) with
    | none => rfl
    | some a => cases listD true lr.2 with
      | none => rfl
      | some b => exact if_pos (by simp; omega)
theorem start_more (w r : List UInt8) (p : List Int) (hw : ∀ c ∈ w, c ≠ 58) (hr : r.head? ≠ some 58) : startR (w ++ 58 :: r) p = match pieceL w with
    | none => none
    | some x => startR r (p ++ [x]) := by
  unfold startR
  rw [dcol_word w r hw, if_neg hr]
  cases dcol r with
  | none =>
    rw [Option.map_none]
    simp only
    rw [split_word w r hw, list_more _ _ _ (splitL_ne _ _)]
    cases pieceL w with
    | none => rfl
    | some x => exact bind_map _ _ _ _
  | some lr =>
    rw [Option.map_some]
    simp only
    rw [split_word w lr.1 hw, list_more _ _ _ (splitL_ne _ _)]
    cases pieceL w with
    | none => rfl
    | some x => cases listW false (splitL (isAt ⟨#[58]⟩) lr.1) with
      | none => rfl
      | some a => cases listD true lr.2 with
        | none => rfl
        | some b =>
          simp only [Option.bind_some, Option.map_some]
          rw [show p ++ (x :: a ++ b) = p ++ [x] ++ (a ++ b) by simp, show p ++ x :: a = p ++ [x] ++ a by simp]
theorem run_start : ∀ (n : Nat) (rest : List UInt8) (p : List Int), rest.head? ≠ some 58 → rest.length < n → runL n rest p (-1) false = startR rest p
  | 0, _, _, _, h => absurd h (by omega)
  | n + 1, rest, p, hh, hl => by
    rcases cut_spec rest with ⟨w, r, rfl, hw, hc⟩ | ⟨hn, hc⟩
    · have hl' : r.length < n := by simp at hl; omega
      rw [runL_step, stepL, pre_colon, hc, if_neg (by simpa using hh), stepW, if_neg (by simp)]
      simp only [true_and, Bool.not_true]
      by_cases hr : r.head? = some 58
      · rcases r with _ | ⟨a, t⟩
        · cases hr
        · obtain rfl := Option.some.inj hr
          rw [startR, dcol_word w _ hw, if_pos hr]
          simp only [List.tail_cons]
          rw [split_one w hw, listW, if_neg (by simp)]
          cases pieceL w with
          | none => rfl
          | some x =>
            simp only
            rw [if_neg (by simp)]
            simp only [listW, Option.map_some, Option.bind_some]
            by_cases h8 : 8 < (p ++ [x]).length
            · rw [if_pos h8]
              cases listD true t with
              | none => rfl
              | some b => exact (if_pos (by simp at h8 ⊢; omega)).symm
            · rw [if_neg h8]
              obtain ⟨m, rfl⟩ : ∃ m, n = m + 1 := ⟨n - 1, by omega⟩
              rw [runL_step, stepL, pre_colon, if_pos (by simp), if_neg (by omega)]
              simp only [List.drop_succ_cons, List.drop_zero]
              rw [if_neg h8]
              rcases t with _ | ⟨c, t⟩
              · rw [List.isEmpty_nil, runL_end, listD, if_pos rfl]
                simp only [Option.bind_some, List.append_nil]
                rw [if_neg h8]
              · rw [List.isEmpty_cons, run_gap m (c :: t) _ _ (by omega) (by simp) (by simp at hl' ⊢; omega), listD, if_neg (by simp)]
                simp only [List.append_assoc]
      · rw [start_more w r p hw hr]
        cases pieceL w with
        | none => rfl
        | some x =>
          simp only
          by_cases h0 : r = []
          · subst h0
            rw [if_pos rfl]
            rfl
          · rw [if_neg h0]
            simp only
            by_cases h8 : 8 < (p ++ [x]).length
            · rw [if_pos h8, start_over _ _ h8]
            · rw [if_neg h8]
              exact run_start n r (p ++ [x]) hr hl'
    · rw [run_last n rest p (-1) hn hc, startR, dcol_one rest hn]
theorem dcol_ne (s a b : List UInt8) (hs : s.head? ≠ some 58) (h : dcol s = some (a, b)) : a ≠ [] := by
  rcases s with _ | ⟨c, r⟩
  · cases h
  · rw [dcol, if_neg (fun hh => hs (by rw [hh.1]; rfl))] at h
    cases hd : dcol r with
    | none => rw [hd] at h; cases h
    | some p =>
      rw [hd, Option.map_some, Option.some.injEq, Prod.mk.injEq] at h
      rw [← h.1]
      simp
/-- The reader's pieces are the document's. -/
theorem six_doc (s : List UInt8) : sixL s = docL s := by
  rw [sixL, startL, pre_colon]
  by_cases hs : s.head? = some 58
  · rw [if_pos (by simpa using hs)]
    rcases s with _ | ⟨a, r⟩
    · cases hs
    · obtain rfl := Option.some.inj hs
      by_cases hr : r.head? = some 58
      · rcases r with _ | ⟨b, t⟩
        · cases hr
        · obtain rfl := Option.some.inj hr
          rw [if_pos (by simp [Lib.hasPrefix]), docL, dcol, if_pos ⟨rfl, rfl⟩]
          simp only [List.drop_succ_cons, List.drop_zero, List.tail_cons]
          rw [runL_step, stepL, pre_colon, if_pos (by simp), if_neg (by omega)]
          simp only [List.drop_succ_cons, List.drop_zero, List.length_nil, Nat.not_lt_zero, if_false]
          rcases t with _ | ⟨c, t⟩
          · rfl
          · rw [List.isEmpty_cons, run_gap _ (c :: t) [] _ (by simp) (by simp) (by simp)]
            simp only [listD, List.nil_append, if_true, reduceCtorEq, if_false]
            cases listW true (splitL (isAt ⟨#[58]⟩) (c :: t)) with
            | none => rfl
            | some q =>
              simp only [Option.bind_some]
              by_cases h8 : 8 < q.length
              · rw [if_pos h8, if_neg (by omega)]
              · rw [if_neg h8]
                simp only [fillL]
                rw [if_neg (by simp)]
                by_cases h7 : q.length ≤ 7
                · rw [if_pos (by omega), if_pos (by simpa using h7)]
                  simp
                · rw [if_neg (by omega), if_neg (by simpa using h7)]
      · rw [if_neg (by
          rcases r with _ | ⟨b, t⟩
          · simp [Lib.hasPrefix]
          · have hb : b ≠ 58 := fun h => hr (by rw [h]; rfl)
            have hb2 : ¬ (58 : UInt8) = b := fun h => hb h.symm
            simp [Lib.hasPrefix, hb2])]
        rw [docL, dcol, if_neg (fun hh => hr hh.2)]
        have hsp : ∀ l, splitL (isAt ⟨#[58]⟩) (58 :: l) = [] :: splitL (isAt ⟨#[58]⟩) l := fun l => split_word [] l (by simp)
        cases dcol r with
        | none =>
          rw [Option.map_none]
          simp only [listD, reduceCtorEq, if_false, hsp, list_empty]
        | some p =>
          rw [Option.map_some]
          simp only [listD, reduceCtorEq, if_false, hsp, list_empty]
  · rw [if_neg (by simpa using hs)]
    simp only
    rw [run_start _ s [] hs (Nat.lt_succ_self _), startR, docL]
    rcases hd : dcol s with _ | ⟨a, b⟩
    · simp only [List.nil_append]
      rcases s with _ | ⟨c, t⟩
      · rfl
      · rw [listD, if_neg (by simp)]
        cases listW true (splitL (isAt ⟨#[58]⟩) (c :: t)) with
        | none => rfl
        | some q =>
          simp only [Option.bind_some]
          by_cases h8 : 8 < q.length
          · rw [if_pos h8, if_neg (by omega)]
          · rw [if_neg h8]
            simp only [fillL]
            rw [if_pos (by omega)]
    · have ha := dcol_ne s a b hs hd
      simp only [List.nil_append]
      rw [show listD false a = listW false (splitL (isAt ⟨#[58]⟩) a) from if_neg ha]
      cases listW false (splitL (isAt ⟨#[58]⟩) a) with
      | none => rfl
      | some l => cases listD true b with
        | none => rfl
        | some r =>
          simp only [Option.bind_some]
          by_cases h8 : 8 < (l ++ r).length
          · rw [if_pos h8, if_neg (by simp at h8; omega)]
          · rw [if_neg h8]
            simp only [fillL]
            rw [if_neg (by omega)]
            by_cases h7 : l.length + r.length ≤ 7
            · rw [if_pos (by simp; omega), if_pos h7]
              simp
            · rw [if_neg (by simp; omega), if_neg h7]
end Go.Proofs.YtfieiigefllekaaGreatDoor

/- The document's piece and list of an address of eight pieces. -/
namespace Go.Proofs.YtfieiigefllekaaGreatDoor
open Go.RowKit Go.Proofs.YtfieiigefllekaaGreatDoorW.PrintWords Go.Proofs.YtfieiigefllekaaGreatDoorW.PrintMore

theorem info_int : (Tryz.prog.info? 3).map (fun i => (i.zero, i.size, i.bytes)) = some (some (.int .i64 0), 1, 8) := by kernel_rfl
def pieceM (l : List UInt8) : Int := (pieceL l).getD (-1)
theorem piece_neg (l : List UInt8) : (pieceL l = none ∧ pieceM l = -1) ∨ ∃ x, pieceL l = some x ∧ pieceM l = x ∧ 0 ≤ x ∧ x ≤ 65535 := by
  rcases h : pieceL l with _ | x
  · exact .inl ⟨rfl, by rw [pieceM, h]; rfl⟩
  · exact .inr ⟨x, rfl, by rw [pieceM, h]; rfl, piece_bd l x h⟩

set_option maxHeartbeats 2000000 in
theorem rpiece_calls (s : ByteArray) (w : World) (hs : s.size ≤ 1000000) :
    Calls Tryz.prog 94 #[.string s] w fun e w' => e = .returned (.int .i64 (pieceM s.data.toList)) ∧ Below w.heap.size w w' := by
  have hlen : s.data.toList.length = s.size := by simp
  by_cases hb : s.size < 1 ∨ 4 < s.size
  · have E := Lib.hid (show pieceM s.data.toList = -1 by
      rw [pieceM, pieceL, if_pos (by
        rcases hb with h | h
        · exact .inl (List.eq_nil_of_length_eq_zero (by omega))
        · exact .inr (by omega))]
      rfl)
    clear hlen
    by_cases h1 : s.size < 1
    · clear hb
      go_enter Tryz.func94, Tryz.ntmps94
      go_wp2_with fail
      go_ret
      exact ⟨ret_int E.out.symm, Below.refl _ _⟩
    · have h4 : 4 < s.size := by omega
      clear hb
      go_enter Tryz.func94, Tryz.ntmps94
      go_wp2_with fail
      go_ret
      exact ⟨ret_int E.out.symm, Below.refl _ _⟩
  · have h1 : 1 ≤ s.size := by omega
    have h4 : s.size ≤ 4 := by omega
    have E := Lib.hid (show pieceL s.data.toList = accN 16 0 (intsOf s.data.toList) by
      rw [pieceL, if_neg (by
        rintro (h | h)
        · rw [h] at hlen; simp at hlen; omega
        · omega)])
    clear hb hlen
    go_enter Tryz.func94, Tryz.ntmps94
    go_wp2_with fail
    go_loop [3, 4] (fun n i => ∃ (j : Nat) (m : Int), i = .int .i64 j ∧ n = .int .i64 m ∧ j ≤ s.size ∧ 0 ≤ m ∧ m ≤ 65535 ∧ Aside0 (m < 16 ^ j) ∧ Aside0 (accN 16 m (intsOf (s.data.toList.drop j)) = pieceL s.data.toList)) (fun _ i => s.size - (intOf i).toNat)
    case atStart => exact ⟨0, 0, rfl, rfl, by omega, by omega, by omega, ⟨by decide⟩, ⟨E.out.symm⟩⟩
    case round =>
      obtain ⟨j, m, rfl, rfl, hj, hm0, hm1, hmp, hr⟩ := hrel
      by_cases hlt : j < s.size
      · have hsm := pow_small m j hmp.out (by omega)
        have hbt := (s[j]'hlt).toNat_lt
        have Hd := Lib.hid (drop_byte s j hlt)
        go_wp2_with fail
        refine (rValue_byte _ _).mono ?_
        rintro e w2 ⟨rfl, rfl⟩
        have hv := hexV_bd ((s[j]'hlt).toNat : Int)
        generalize hv' : hexV ((s[j]'hlt).toNat : Int) = v at hv ⊢
        have HV := Lib.hid hv'
        clear hv'
        have Hr := Lib.hid (show accN 16 m (((s[j]'hlt).toNat : Int) :: intsOf (s.data.toList.drop (j + 1))) = pieceL s.data.toList by rw [← hr.out, Hd.out]; rfl)
        by_cases hneg : v < 0
        · have HN := Lib.hid (show pieceM s.data.toList = -1 by rw [pieceM, ← Hr.out, accN, if_pos (by rw [HV.out]; omega)]; rfl)
          go_wp2_with fail
          go_ret
          exact ⟨ret_int HN.out.symm, Below.refl _ _⟩
        · have HN := Lib.hid (show accN 16 (m * 16 + v) (intsOf (s.data.toList.drop (j + 1))) = pieceL s.data.toList by rw [← Hr.out, accN, if_neg (by rw [HV.out]; omega), HV.out, show min (m * 16 + v) 1099511627776 = m * 16 + v by omega])
          have HS := Aside0.mk (pow_step m v j 1 hmp.out (by omega) (by omega))
          go_wp2_with fail
          exact ⟨⟨j + 1, m * 16 + v, by go_num, rfl, by omega, by omega, by omega, HS, ⟨HN.out⟩⟩, by simp [intOf]; omega⟩
      · have HN := Lib.hid (show pieceM s.data.toList = m by
          rw [pieceM, ← hr.out, List.drop_of_length_le (by simp; omega)]
          rfl)
        go_wp2_with fail
        go_ret
        exact ⟨ret_int HN.out.symm, Below.refl _ _⟩

/-- What is read of the words so far. -/
theorem listW_step (last : Bool) (P : List (List UInt8)) (j : Nat) (h : j < P.length) : listW last (P.drop j) = if strictOk (P.getD j []) = true ∧ last = true ∧ j + 1 = P.length then some [strictN (P.getD j []) / 65536, strictN (P.getD j []) % 65536] else match pieceL (P.getD j []) with
    | none => none
    | some x => (listW last (P.drop (j + 1))).map (x :: ·) := by
  rw [List.drop_eq_getElem_cons h, listW, List.getD_eq_getElem?_getD, List.getElem?_eq_getElem h]
  have hd : P.drop (j + 1) = [] ↔ j + 1 = P.length := by
    rw [List.drop_eq_nil_iff]
    omega
  simp only [Option.getD_some]
  by_cases hc : strictOk P[j] = true ∧ last = true ∧ j + 1 = P.length
  · rw [if_pos hc, if_pos ⟨hc.1, hc.2.1, hd.2 hc.2.2⟩]
  · rw [if_neg hc, if_neg (fun h' => hc ⟨h'.1, h'.2.1, hd.1 h'.2.2⟩)] <;> rfl
theorem listW_len (last : Bool) : ∀ (P : List (List UInt8)) (l : List Int), listW last P = some l → l.length ≤ P.length + 1
  | [], l, h => by
    obtain rfl := Option.some.inj h
    simp
  | w :: ws, l, h => by
    rw [listW] at h
    split at h
    · obtain rfl := Option.some.inj h
      simp
    · split at h
      · cases h
      · rename_i x _
        cases hl : listW last ws with
        | none => rw [hl] at h; cases h
        | some q =>
          rw [hl] at h
          obtain rfl := Option.some.inj h
          have := listW_len last ws q hl
          simp
          omega
theorem listD_len (last : Bool) (s : List UInt8) (l : List Int) (h : listD last s = some l) : l.length ≤ s.length + 2 := by
  rw [listD] at h
  split at h
  · obtain rfl := Option.some.inj h
    simp
  · have h1 := listW_len last _ l h
    have h2 := splitL_size (isAt ⟨#[58]⟩) s
    omega
theorem listW_bd (last : Bool) : ∀ (P : List (List UInt8)) (l : List Int), listW last P = some l → ∀ x ∈ l, 0 ≤ x ∧ x ≤ 65535
  | [], l, h => by
    obtain rfl := Option.some.inj h
    simp
  | w :: ws, l, h => by
    rw [listW] at h
    split at h
    · obtain rfl := Option.some.inj h
      have hb : 0 ≤ strictN w ∧ strictN w < 4294967296 := by
        rcases strict_val w with ⟨_, _, h3⟩ | ⟨n, hn, _, _, h3, _⟩ <;> rw [h3] <;> omega
      intro x hx
      simp at hx
      rcases hx with rfl | rfl <;> omega
    · split at h
      · cases h
      · rename_i x hx
        cases hl : listW last ws with
        | none => rw [hl] at h; cases h
        | some q =>
          rw [hl] at h
          obtain rfl := Option.some.inj h
          intro y hy
          rcases List.mem_cons.1 hy with rfl | hy
          · exact piece_bd _ _ hx
          · exact listW_bd last ws q hl y hy
theorem listD_bd (last : Bool) (s : List UInt8) (l : List Int) (h : listD last s = some l) : ∀ x ∈ l, 0 ≤ x ∧ x ≤ 65535 := by
  rw [listD] at h
  split at h
  · obtain rfl := Option.some.inj h
    simp
  · exact listW_bd last _ l h

set_option maxHeartbeats 4000000 in
set_option maxRecDepth 100000 in
theorem rlist_calls (s : ByteArray) (last : Bool) (w : World) (hs : s.size ≤ 900000) :
    Calls Tryz.prog 59 #[.string s, .bool last] w fun e w' => Below w.heap.size w w' ∧ ((listD last s.data.toList = none ∧ e = .returned (.tuple #[.slice none 0 0, .bool false])) ∨ ∃ l v, listD last s.data.toList = some l ∧ e = .returned (.tuple #[v, .bool true]) ∧ Kd.R (Kd.int .i64) 3 w' w.heap.size (fun _ => True) v l) := by
  by_cases h0 : s.data.toList = []
  · have e0 : s.toList.isEmpty = true := by rw [toList_eq, h0]; rfl
    have E := Lib.hid (show listD last s.data.toList = some [] by rw [listD, if_pos h0])
    clear h0
    go_enter Tryz.func59, Tryz.ntmps59
    go_wp2_with fail
    go_ret2
    exact ⟨Below.refl _ _, .inr ⟨[], _, E.out, rfl, Kd.R_nil _ _ _ _ _⟩⟩
  · have e0 : s.toList.isEmpty = false := by rw [toList_eq]; simpa using h0
    have E := Lib.hid (show listD last s.data.toList = listW last (splitL (isAt ⟨#[58]⟩) s.data.toList) by rw [listD, if_neg h0])
    clear h0
    go_enter Tryz.func59, Tryz.ntmps59
    go_wp2_with fail
    refine (rSplit_calls s _ _ (by omega) (by decide)).mono ?_
    rintro e w1 ⟨v, rfl, hv, hb⟩
    obtain ⟨A, c, rfl, hcap, hC⟩ := Kd.R_reads hv
    have hpart := splitL_part (isAt ⟨#[58]⟩) s.data.toList
    have hne := splitL_ne (isAt ⟨#[58]⟩) s.data.toList
    have hln := splitL_size (isAt ⟨#[58]⟩) s.data.toList
    rw [show s.data.toList.length = s.size by simp] at hln hpart
    generalize splitL (isAt ⟨#[58]⟩) s.data.toList = P at hv hcap hC hpart hne hln E ⊢
    have hlen := strs_length P
    have hpos : 0 < (strs P).length := by
      rw [hlen]
      exact List.length_pos_iff.2 hne
    obtain ⟨ad, rfl⟩ := C_some hC hpos
    have hcell : ∀ j, j < P.length → w1.cell? (ad.add j) = some (.string ⟨(P.getD j []).toArray⟩) := fun j hj => by
      rw [C_str_at hC j (by omega), strs_get P j (by omega)]
    have hsize : ∀ j, (P.getD j []).length ≤ 900000 := fun j => by have := getD_len P s.size j hpart; omega
    have HB := Aside0.mk hb
    have HCell := Aside0.mk hcell
    have HSz := Aside0.mk hsize
    have hcap' : (strs P).length ≤ c := hcap
    rw [hlen] at hcap' ⊢
    have hbl := cell_blk (HCell.out 0 (by omega))
    have hblk : ad.block < w1.heap.size := by simpa [Addr.add] using hbl
    have hw1 : w.heap.size ≤ w1.heap.size := hb.size
    clear hv hC hb hpart hlen hpos hcell hsize hcap hne hbl
    obtain ⟨np, hnp⟩ : ∃ np, np = P.length := ⟨_, rfl⟩
    have HNP := Lib.hid hnp
    rw [← hnp] at hcap' hln ⊢
    clear hnp
    go_wp2_with fail
    go_loopw [6, 8] (fun v i wr => ∃ (j : Nat) (l : List Int), i = .int .i64 j ∧ j ≤ np ∧ l.length ≤ 2 * j ∧ Aside0 ((listW last (P.drop j)).map (l ++ ·) = listW last P) ∧ Aside0 (Kd.R (Kd.int .i64) 3 wr w1.heap.size (fun _ => True) v l) ∧ Aside0 (Below w1.heap.size w1 wr)) (fun _ i _ => np - (intOf i).toNat)
    case atStart => exact ⟨0, [], rfl, by omega, by simp, ⟨by simp⟩, ⟨Kd.R_nil _ _ _ _ _⟩, ⟨Below.refl _ _⟩⟩
    case round =>
      obtain ⟨j, l, rfl, hj, hll, hr, HO, hbw⟩ := hrel
      have hszw : w1.heap.size ≤ wr.heap.size := hbw.out.size
      by_cases hlt : j < np
      · have hcj : wr.cell? (ad.add j) = some (.string ⟨(P.getD j []).toArray⟩) := (hbw.out.cell (by unfold Addr.add; split <;> exact hblk)).trans (HCell.out j (by rw [← HNP.out]; exact hlt))
        have Hst := Lib.hid (listW_step last P j (by rw [← HNP.out]; exact hlt))
        have hysz := HSz.out j
        rw [← mk_size] at hysz
        have Hy := Lib.hid (show (ByteArray.mk (P.getD j []).toArray).data.toList = P.getD j [] by simp)
        generalize (ByteArray.mk (P.getD j []).toArray) = y at hcj hysz Hy
        go_wp2_with fail
        refine (rStrict_calls y _ hysz).mono ?_
        rintro e w2 ⟨rfl, b2⟩
        have B2 := Aside0.mk (below_then hbw.out hbw.out.size b2)
        have hcj2 := (b2.cell (p := ad.add j) (cell_blk hcj)).trans hcj
        have HO2 := Aside0.mk (Kd.R_below HO.out b2)
        have hsz2 : w1.heap.size ≤ w2.heap.size := B2.out.size
        clear b2 hcj
        by_cases hA : strictOk y.data.toList = true ∧ last = true ∧ j + 1 = np
        · obtain ⟨hso, rfl, hjn⟩ := hA
          obtain ⟨n4, hn4, hs4, _, hv4, _⟩ : ∃ n : Nat, n < 4294967296 ∧ strictL y.data.toList = some (n : Int) ∧ strictOk y.data.toList = true ∧ strictN y.data.toList = n ∧ y.data.toList = fourT n := by
            rcases strict_val y.data.toList with ⟨_, h, _⟩ | h
            · rw [h] at hso; cases hso
            · exact h
          have HR := Lib.hid (show (listW true (P.drop (j + 1))).map ((l ++ [(n4 : Int) / 65536, (n4 : Int) % 65536]) ++ ·) = listW true P by
            rw [← hr.out, Hst.out, if_pos ⟨by rw [← Hy.out]; exact hso, rfl, by rw [hjn]; exact HNP.out⟩, List.drop_of_length_le (by rw [← HNP.out]; omega), ← Hy.out, hv4]
            simp [listW])
          rw [hso, hv4]
          have hq : (((j : Int)) == (np : Int) - 1) = true := by rw [beq_iff_eq]; omega
          clear hs4 hv4 hso
          go_wp2_with ((with_reducible refine gate_builtin (b := .append) (xs := #[.tmp 41, .tmp 48]) rfl ?_); at_builtin; go_loud (refine Kd.R_append_rows (Kd.int .i64) (w0 := w1) w1.heap.size rfl (.tmp 41) (.tmp 48) 34 3 (.int .i64 0) 8 rfl Tryz.underlying34 info_int rfl (by decide) (by omega) u6 l [(n4 : Int) / 65536, (n4 : Int) % 65536] _ _ _ (fun _ => True) (fun _ => False) rfl rfl ?aO ?aR (fun _ _ h => h) (fun _ h => h.elim) ?aF ?aB ?aS ?aL ?_); go_loud (case aO => exact (Kd.R_below HO2.out ((Below.refl _ _).alloc (Nat.le_refl _) _))); go_loud (case aR => exact (C_new .i64 w2 [(n4 : Int) / 65536, (n4 : Int) % 65536] _ (by simp))); (case aF => exact fun _ _ => trivial); go_loud (case aB => exact (B2.out.alloc (by omega) _)); go_loud (case aS => (simp; omega)); go_loud (case aL => omega); intro v1 w4 ho hb hg _)
          refine ⟨⟨j + 1, l ++ [(n4 : Int) / 65536, (n4 : Int) % 65536], by go_num, by omega, by simp; omega, ⟨HR.out⟩, ⟨ho⟩, ⟨hb⟩⟩, by simp [intOf]; omega⟩
        · have Hst2 := Lib.hid (show listW last (P.drop j) = match pieceL (P.getD j []) with
            | none => none
            | some x => (listW last (P.drop (j + 1))).map (x :: ·) by rw [Hst.out, if_neg (by rw [← Hy.out, ← HNP.out]; exact hA)] <;> rfl)
          have hB : strictOk y.data.toList = false ∨ (strictOk y.data.toList = true ∧ last = false) ∨ (strictOk y.data.toList = true ∧ last = true ∧ ¬ j + 1 = np) := by
            cases h1 : strictOk y.data.toList
            · exact .inl rfl
            · cases last
              · exact .inr (.inl ⟨rfl, rfl⟩)
              · exact .inr (.inr ⟨rfl, rfl, fun h => hA ⟨h1, rfl, h⟩⟩)
          clear hA
          rcases hB with hso | ⟨hso, rfl⟩ | ⟨hso, rfl, hjn⟩
          · rw [hso]
            go_wp2_with fail
            refine (rpiece_calls y _ (by omega)).mono ?_
            rintro e w3 ⟨rfl, b3⟩
            have B3 := Aside0.mk (below_then B2.out B2.out.size b3)
            have HO3 := Aside0.mk (Kd.R_below HO2.out b3)
            have hsz3 : w1.heap.size ≤ w3.heap.size := B3.out.size
            clear b3 hcj2
            rcases piece_neg y.data.toList with ⟨hp, hm⟩ | ⟨x, hp, hm, hx0, hx1⟩
            · rw [hm]
              have HR := Lib.hid (show listD last s.data.toList = none by rw [E.out, ← hr.out, Hst2.out, ← Hy.out, hp]; rfl)
              clear hm hp
              go_wp2_with fail
              go_ret2
              exact ⟨below_then HB.out HB.out.size B3.out, .inl ⟨HR.out, rfl⟩⟩
            · rw [hm]
              have HR := Lib.hid (show (listW last (P.drop (j + 1))).map ((l ++ [x]) ++ ·) = listW last P by
                rw [← hr.out, Hst2.out, ← Hy.out, hp]
                simp only [Option.map_map]
                congr 1
                funext q
                simp)
              clear hm hp
              go_wp2_with ((with_reducible refine gate_builtin (b := .append) (xs := #[.tmp 57, .tmp 59]) rfl ?_); at_builtin; refine Kd.R_append (Kd.int .i64) (w0 := w1) w1.heap.size rfl (.tmp 57) (.tmp 59) 34 3 (.int .i64 0) 8 rfl Tryz.underlying34 info_int rfl (by decide) (by omega) u6 l x [.int .i64 x] (fun _ => True) (fun _ => False) rfl rfl ?aP (fun _ hk => hk.elim) ?aF ?aO ?aB ?aS ?aL ?_; (case aP => exact rfl); (case aF => exact fun _ _ => trivial); (case aO => exact HO3.out); (case aB => exact B3.out); (case aS => omega); (case aL => omega); intro v1 w4 ho hb hg _)
              refine ⟨⟨j + 1, l ++ [x], by go_num, by omega, by simp; omega, ⟨HR.out⟩, ⟨ho⟩, ⟨hb⟩⟩, by simp [intOf]; omega⟩
          · rw [hso]
            go_wp2_with fail
            refine (rpiece_calls y _ (by omega)).mono ?_
            rintro e w3 ⟨rfl, b3⟩
            have B3 := Aside0.mk (below_then B2.out B2.out.size b3)
            have HO3 := Aside0.mk (Kd.R_below HO2.out b3)
            have hsz3 : w1.heap.size ≤ w3.heap.size := B3.out.size
            clear b3 hcj2
            rcases piece_neg y.data.toList with ⟨hp, hm⟩ | ⟨x, hp, hm, hx0, hx1⟩
            · rw [hm]
              have HR := Lib.hid (show listD false s.data.toList = none by rw [E.out, ← hr.out, Hst2.out, ← Hy.out, hp]; rfl)
              clear hm hp
              go_wp2_with fail
              go_ret2
              exact ⟨below_then HB.out HB.out.size B3.out, .inl ⟨HR.out, rfl⟩⟩
            · rw [hm]
              have HR := Lib.hid (show (listW false (P.drop (j + 1))).map ((l ++ [x]) ++ ·) = listW false P by
                rw [← hr.out, Hst2.out, ← Hy.out, hp]
                simp only [Option.map_map]
                congr 1
                funext q
                simp)
              clear hm hp
              go_wp2_with ((with_reducible refine gate_builtin (b := .append) (xs := #[.tmp 57, .tmp 59]) rfl ?_); at_builtin; refine Kd.R_append (Kd.int .i64) (w0 := w1) w1.heap.size rfl (.tmp 57) (.tmp 59) 34 3 (.int .i64 0) 8 rfl Tryz.underlying34 info_int rfl (by decide) (by omega) u6 l x [.int .i64 x] (fun _ => True) (fun _ => False) rfl rfl ?aP (fun _ hk => hk.elim) ?aF ?aO ?aB ?aS ?aL ?_; (case aP => exact rfl); (case aF => exact fun _ _ => trivial); (case aO => exact HO3.out); (case aB => exact B3.out); (case aS => omega); (case aL => omega); intro v1 w4 ho hb hg _)
              refine ⟨⟨j + 1, l ++ [x], by go_num, by omega, by simp; omega, ⟨HR.out⟩, ⟨ho⟩, ⟨hb⟩⟩, by simp [intOf]; omega⟩
          · rw [hso]
            have hq : (((j : Int)) == (np : Int) - 1) = false := by rw [beq_eq_false_iff_ne]; omega
            go_wp2_with fail
            refine (rpiece_calls y _ (by omega)).mono ?_
            rintro e w3 ⟨rfl, b3⟩
            have B3 := Aside0.mk (below_then B2.out B2.out.size b3)
            have HO3 := Aside0.mk (Kd.R_below HO2.out b3)
            have hsz3 : w1.heap.size ≤ w3.heap.size := B3.out.size
            clear b3 hcj2
            rcases piece_neg y.data.toList with ⟨hp, hm⟩ | ⟨x, hp, hm, hx0, hx1⟩
            · rw [hm]
              have HR := Lib.hid (show listD true s.data.toList = none by rw [E.out, ← hr.out, Hst2.out, ← Hy.out, hp]; rfl)
              clear hm hp
              go_wp2_with fail
              go_ret2
              exact ⟨below_then HB.out HB.out.size B3.out, .inl ⟨HR.out, rfl⟩⟩
            · rw [hm]
              have HR := Lib.hid (show (listW true (P.drop (j + 1))).map ((l ++ [x]) ++ ·) = listW true P by
                rw [← hr.out, Hst2.out, ← Hy.out, hp]
                simp only [Option.map_map]
                congr 1
                funext q
                simp)
              clear hm hp
              go_wp2_with ((with_reducible refine gate_builtin (b := .append) (xs := #[.tmp 57, .tmp 59]) rfl ?_); at_builtin; refine Kd.R_append (Kd.int .i64) (w0 := w1) w1.heap.size rfl (.tmp 57) (.tmp 59) 34 3 (.int .i64 0) 8 rfl Tryz.underlying34 info_int rfl (by decide) (by omega) u6 l x [.int .i64 x] (fun _ => True) (fun _ => False) rfl rfl ?aP (fun _ hk => hk.elim) ?aF ?aO ?aB ?aS ?aL ?_; (case aP => exact rfl); (case aF => exact fun _ _ => trivial); (case aO => exact HO3.out); (case aB => exact B3.out); (case aS => omega); (case aL => omega); intro v1 w4 ho hb hg _)
              refine ⟨⟨j + 1, l ++ [x], by go_num, by omega, by simp; omega, ⟨HR.out⟩, ⟨ho⟩, ⟨hb⟩⟩, by simp [intOf]; omega⟩
      · obtain rfl : j = np := by omega
        have HR := Lib.hid (show listD last s.data.toList = some l by
          rw [E.out, ← hr.out, List.drop_of_length_le (by rw [← HNP.out]; exact Nat.le_refl _)]
          simp [listW])
        go_wp2_with fail
        go_ret2
        exact ⟨below_then HB.out HB.out.size hbw.out, .inr ⟨l, _, HR.out, rfl, Kd.R_lower HO.out hw1⟩⟩
end Go.Proofs.YtfieiigefllekaaGreatDoor

/- What the document's Parse of an address of eight pieces needs: plain Lean. -/
namespace Go.Proofs.YtfieiigefllekaaGreatDoor
open Go.RowKit Go.Proofs.YtfieiigefllekaaGreatDoorW.PrintWords

theorem byte_58 (x : UInt8) : x.toNat = 58 ↔ x = 58 := by
  constructor
  · intro h
    exact UInt8.toNat_inj.1 h
  · rintro rfl
    rfl
theorem dcol_hit (s : ByteArray) (j : Nat) (h : j + 1 < s.size) (h1 : (s[j]'(by omega)).toNat = 58) (h2 : (s[j + 1]'h).toNat = 58) : dcol (s.data.toList.drop j) = some ([], s.data.toList.drop (j + 2)) := by
  rw [drop_byte s j (by omega), drop_byte s (j + 1) h, dcol, if_pos ⟨(byte_58 _).1 h1, by rw [List.head?_cons, (byte_58 _).1 h2]⟩]
  rfl
theorem dcol_miss (s : ByteArray) (j : Nat) (h : j + 1 < s.size) (hn : ¬ ((s[j]'(by omega)).toNat = 58 ∧ (s[j + 1]'h).toNat = 58)) : dcol (s.data.toList.drop j) = (dcol (s.data.toList.drop (j + 1))).map fun p => ((s[j]'(by omega)) :: p.1, p.2) := by
  rw [drop_byte s j (by omega), dcol, if_neg]
  rintro ⟨ha, hb⟩
  rw [drop_byte s (j + 1) h, List.head?_cons] at hb
  exact hn ⟨(byte_58 _).2 ha, (byte_58 _).2 (Option.some.inj hb)⟩
theorem dcol_short (l : List UInt8) (h : l.length ≤ 1) : dcol l = none := by
  rcases l with _ | ⟨a, _ | ⟨b, r⟩⟩
  · rfl
  · rw [dcol, if_neg (fun hh => by simp at hh)]
    rfl
  · simp at h
/-- One place on. -/
theorem dcol_on (s : ByteArray) (j : Nat) (h : j + 1 < s.size) (hn : ¬ ((s[j]'(by omega)).toNat = 58 ∧ (s[j + 1]'h).toNat = 58)) (hd : dcol s.data.toList = (dcol (s.data.toList.drop j)).map fun p => (s.data.toList.take j ++ p.1, p.2)) : dcol s.data.toList = (dcol (s.data.toList.drop (j + 1))).map fun p => (s.data.toList.take (j + 1) ++ p.1, p.2) := by
  rw [hd, dcol_miss s j h hn, Option.map_map, take_byte s j (by omega)]
  congr 1
  funext p
  simp
theorem dcol_found (s : ByteArray) (j : Nat) (h : j + 1 < s.size) (h1 : (s[j]'(by omega)).toNat = 58) (h2 : (s[j + 1]'h).toNat = 58) (hd : dcol s.data.toList = (dcol (s.data.toList.drop j)).map fun p => (s.data.toList.take j ++ p.1, p.2)) : dcol s.data.toList = some (s.data.toList.take j, s.data.toList.drop (j + 2)) := by
  rw [hd, dcol_hit s j h h1 h2]
  simp
theorem dcol_over (s : ByteArray) (j : Nat) (h : s.size ≤ j + 1) (hd : dcol s.data.toList = (dcol (s.data.toList.drop j)).map fun p => (s.data.toList.take j ++ p.1, p.2)) : dcol s.data.toList = none := by
  rw [hd, dcol_short _ (by simp; omega)]
  rfl
theorem doc_none {l : List UInt8} (h : docL l = none) : sixHi l = 0 ∧ sixLo l = 0 ∧ sixOk l = false := six_none (by rw [six_doc]; exact h)
theorem doc_some {l : List UInt8} {xs : List Int} (h : docL l = some xs) : sixHi l = half (xs.take 4) ∧ sixLo l = half (xs.drop 4) ∧ sixOk l = true := six_some (by rw [six_doc]; exact h)
theorem doc_plain {l : List UInt8} (h : dcol l = none) : docL l = match listD true l with
    | none => none
    | some q => if q.length = 8 then some q else none := by
  rw [docL, h] <;> rfl
theorem doc_two {l a b : List UInt8} (h : dcol l = some (a, b)) : docL l = match listD false a, listD true b with
    | some p, some r => if p.length + r.length ≤ 7 then some (p ++ List.replicate (8 - (p.length + r.length)) 0 ++ r) else none
    | _, _ => none := by
  rw [docL, h] <;> rfl
theorem copy_step (A L : List Int) (n j : Nat) (hj : j < L.length) (hn : L.length ≤ n) : (A ++ (L.take j ++ List.replicate (n - j) 0)).set (A.length + j) (L.getD j 0) = A ++ (L.take (j + 1) ++ List.replicate (n - (j + 1)) 0) := by
  rw [List.set_append_right _ _ (by omega), show A.length + j - A.length = j by omega, List.set_append_right _ _ (by simp; omega)]
  rw [show j - (L.take j).length = 0 by simp; omega, show n - j = (n - (j + 1)) + 1 by omega, List.replicate_succ, List.set_cons_zero, List.take_succ_eq_append_getElem hj, List.getD_eq_getElem?_getD, List.getElem?_eq_getElem hj, List.append_assoc]
  rfl
theorem half_snoc (xs : List Int) (x : Int) : half (xs ++ [x]) = half xs * 65536 + x := by simp [half]
theorem half_take (l : List Int) (hb : ∀ x ∈ l, 0 ≤ x ∧ x ≤ 65535) : ∀ j, 0 ≤ half (l.take j) ∧ half (l.take j) < 65536 ^ j
  | 0 => by simp [half]
  | j + 1 => by
    have ih := half_take l hb j
    by_cases hj : j < l.length
    · rw [List.take_succ_eq_append_getElem hj, half_snoc]
      have := hb (l[j]'hj) (List.getElem_mem hj)
      rw [Int.pow_succ]
      omega
    · rw [List.take_of_length_le (by omega)] at ih ⊢
      rw [Int.pow_succ]
      omega
theorem half_next (l : List Int) (j : Nat) (hj : j < l.length) : half (l.take (j + 1)) = half (l.take j) * 65536 + l.getD j 0 := by
  rw [List.take_succ_eq_append_getElem hj, half_snoc, List.getD_eq_getElem?_getD, List.getElem?_eq_getElem hj]
  rfl
end Go.Proofs.YtfieiigefllekaaGreatDoor

/- The document's number and Parse of an address of eight pieces, walked. -/
namespace Go.Proofs.YtfieiigefllekaaGreatDoor
open Go.RowKit Go.Proofs.YtfieiigefllekaaGreatDoorW.PrintWords Go.Proofs.YtfieiigefllekaaGreatDoorW.PrintMore

set_option maxHeartbeats 2000000 in
theorem rnumber_calls (l : List Int) (ad : Addr) (c : Nat) (w : World) (h8 : l.length = 8) (hb : ∀ x ∈ l, 0 ≤ x ∧ x ≤ 65535) (_hc : 8 ≤ c) (hcell : ∀ j, j < 8 → w.cell? (ad.add j) = some (.int .i64 (l.getD j 0))) :
    Calls Tryz.prog 60 #[.slice (some ad) 8 c] w fun e w' => e = .returned (.tuple #[.int .u64 (half (l.take 4)), .int .u64 (half (l.drop 4))]) ∧ Below w.heap.size w w' := by
  have hc8 : (8 : Nat) ≤ 9223372036854775807 := by omega
  have HC := Aside0.mk hcell
  have Hb := Aside0.mk hb
  have H8 := Lib.hid h8
  clear hcell hb h8
  go_enter Tryz.func60, Tryz.ntmps60
  go_wp2_with fail
  go_loop [4, 5, 6] (fun hi lo i => ∃ (j : Nat) (x y : Int), i = .int .i64 j ∧ hi = .int .u64 x ∧ lo = .int .u64 y ∧ j ≤ 4 ∧ Aside0 (x = half (l.take j)) ∧ Aside0 (y = half ((l.drop 4).take j))) (fun _ _ i => 4 - (intOf i).toNat)
  case atStart => exact ⟨0, 0, 0, rfl, rfl, rfl, by omega, ⟨rfl⟩, ⟨rfl⟩⟩
  case round =>
    obtain ⟨j, x, y, rfl, rfl, rfl, hj, hx, hy⟩ := hrel
    by_cases hlt : j < 4
    · have c1 := HC.out j (by omega)
      have c2 := HC.out (j + 4) (by omega)
      have g1 : 0 ≤ l.getD j 0 ∧ l.getD j 0 ≤ 65535 := by
        rw [List.getD_eq_getElem?_getD, List.getElem?_eq_getElem (by rw [H8.out]; omega)]
        exact Hb.out _ (List.getElem_mem _)
      have g2 : 0 ≤ l.getD (j + 4) 0 ∧ l.getD (j + 4) 0 ≤ 65535 := by
        rw [List.getD_eq_getElem?_getD, List.getElem?_eq_getElem (by rw [H8.out]; omega)]
        exact Hb.out _ (List.getElem_mem _)
      have e1 := half_next l j (by rw [H8.out]; omega)
      have e2 := half_next (l.drop 4) j (by rw [List.length_drop, H8.out]; omega)
      rw [show (l.drop 4).getD j 0 = l.getD (j + 4) 0 by rw [List.getD_eq_getElem?_getD, List.getElem?_drop, List.getD_eq_getElem?_getD, Nat.add_comm]] at e2
      have b1 := half_take l Hb.out j
      have b2 := half_take (l.drop 4) (fun z hz => Hb.out z (List.mem_of_mem_drop hz)) j
      rw [← hx.out] at b1 e1
      rw [← hy.out] at b2 e2
      have hp : (65536 : Int) ^ j ≤ 281474976710656 := by
        have : j = 0 ∨ j = 1 ∨ j = 2 ∨ j = 3 := by omega
        rcases this with rfl | rfl | rfl | rfl <;> decide
      have b1' : 0 ≤ x ∧ x < 281474976710656 := by omega
      have b2' : 0 ≤ y ∧ y < 281474976710656 := by omega
      clear b1 b2 hp
      have E1 := Lib.hid e1.symm
      have E2 := Lib.hid e2.symm
      clear e1 e2
      generalize l.getD j 0 = p at c1 g1 E1
      generalize l.getD (j + 4) 0 = q at c2 g2 E2
      obtain ⟨m, hm⟩ : ∃ m : Nat, m = j + 4 := ⟨_, rfl⟩
      have hmi : (j : Int) + 4 = (m : Int) := by omega
      rw [← hm] at c2
      have HM := Lib.hid hm
      have hm8 : m < 8 := by omega
      clear hm
      go_wp2_with fail
      exact ⟨⟨j + 1, x * 65536 + p, y * 65536 + q, by go_num, rfl, rfl, by omega, ⟨E1.out⟩, ⟨E2.out⟩⟩, by simp [intOf]; omega⟩
    · have hj4 : j = 4 := by omega
      have R1 := Lib.hid (show x = half (l.take 4) by rw [hx.out, hj4])
      have R2 := Lib.hid (show y = half (l.drop 4) by rw [hy.out, List.take_of_length_le (by rw [List.length_drop, H8.out]; omega)])
      clear hj4
      go_wp2_with fail
      go_ret2
      exact ⟨by rw [R1.out, R2.out] <;> rfl, Below.refl _ _⟩
end Go.Proofs.YtfieiigefllekaaGreatDoor

/- The document's Parse of an address of eight pieces, walked. -/
namespace Go.Proofs.YtfieiigefllekaaGreatDoor
open Go.RowKit Go.Proofs.YtfieiigefllekaaGreatDoorW.PrintWords Go.Proofs.YtfieiigefllekaaGreatDoorW.PrintMore

theorem ret_three {a b c d : Int} {x y : Bool} (h1 : a = c) (h2 : b = d) (h3 : x = y) : Ending.returned (.tuple #[.int .u64 a, .int .u64 b, .bool x]) = .returned (.tuple #[.int .u64 c, .int .u64 d, .bool y]) := by rw [h1, h2, h3]

theorem put8 {W : World} {base g cap : Nat} {ok : Nat → Prop} {ys : List Int} (hl : ys.length = 8) (h : Kd.R (Kd.int .i64) 3 W base ok (.slice (some ⟨g, 0, none⟩) 8 cap) ys) (m : Nat) (x : Int) : Kd.R (Kd.int .i64) 3 (W.setCell ⟨g, m, none⟩ (.int .i64 x)) base ok (.slice (some ⟨g, 0, none⟩) 8 cap) (ys.set m x) := by
  rw [← hl] at h ⊢
  have := (Kd.R_put h (m : Int) x).1
  rwa [Int.toNat_natCast] at this
theorem cell8 {W : World} {base g cap : Nat} {ok : Nat → Prop} {ys : List Int} (hl : ys.length = 8) (h : Kd.R (Kd.int .i64) 3 W base ok (.slice (some ⟨g, 0, none⟩) 8 cap) ys) (m : Nat) (hm : m < 8) : W.cell? ⟨g, m, none⟩ = some (.int .i64 (ys.getD m 0)) ∧ W.frozen? ⟨g, m, none⟩ = false := by
  rw [← hl] at h
  have := Kd.R_cell 0 h (m : Int) (by omega) (by omega)
  rw [Int.toNat_natCast] at this
  refine ⟨this.1.trans ?_, this.2⟩
  rw [rdOf, Int.toNat_natCast, List.getD_eq_getElem?_getD]
theorem make8 {W : World} {base : Nat} {ok : Nat → Prop} {v : Value} (h : Kd.R (Kd.int .i64) 3 W base ok v (List.replicate (8 : Int).toNat 0)) : ∃ g cap, v = .slice (some ⟨g, 0, none⟩) 8 cap ∧ 8 ≤ cap ∧ base ≤ g ∧ g < W.heap.size ∧ Kd.R (Kd.int .i64) 3 W base ok (.slice (some ⟨g, 0, none⟩) 8 cap) (List.replicate 8 0) := by
  obtain ⟨g, cap, rfl, h1, h2, _⟩ := Kd.R_form h (by decide)
  obtain ⟨A, c, e, hc, _⟩ := Kd.R_reads h
  injection e with e1 e2 e3
  subst e3
  exact ⟨g, cap, rfl, hc, h1, h2, h⟩
theorem copied (p : List Int) (j : Nat) (ys : List Int) (hj : j < p.length) (h8 : p.length ≤ 8) (hy : ys = p.take j ++ List.replicate (8 - j) 0) : ys.set j (p.getD j 0) = p.take (j + 1) ++ List.replicate (8 - (j + 1)) 0 := by
  have := copy_step [] p 8 j hj h8
  simp only [List.nil_append, List.length_nil, Nat.zero_add] at this
  rw [hy, this]
theorem copied2 (p r : List Int) (np nr j o : Nat) (ys : List Int) (hp : np = p.length) (hr : nr = r.length) (ho : o + nr = 8) (h7 : np + nr ≤ 7) (hj : j < r.length) (hy : ys = (p ++ List.replicate (8 - (np + nr)) 0) ++ (r.take j ++ List.replicate (nr - j) 0)) : ys.set (o + j) (r.getD j 0) = (p ++ List.replicate (8 - (np + nr)) 0) ++ (r.take (j + 1) ++ List.replicate (nr - (j + 1)) 0) := by
  have := copy_step (p ++ List.replicate (8 - (np + nr)) 0) r nr j hj (by omega)
  rw [List.length_append, List.length_replicate, ← hp, show np + (8 - (np + nr)) + j = o + j by omega] at this
  rw [hy, this]
theorem copied0 (p : List Int) (np nr : Nat) (ys : List Int) (hp : np = p.length) (h7 : np + nr ≤ 7) (hy : ys = p.take np ++ List.replicate (8 - np) 0) : ys = (p ++ List.replicate (8 - (np + nr)) 0) ++ (([] : List Int) ++ List.replicate nr 0) := by
  rw [hy, hp, List.take_length, List.nil_append, List.append_assoc, List.replicate_append_replicate]
  congr 2
  omega
theorem C_int_get {w : World} {A : Option Addr} {xs : List Int} (h : Kd.C (Kd.int .i64) w A xs.length xs) (j : Nat) (hj : j < xs.length) : ∃ ad, A = some ad ∧ w.cell? (ad.add j) = some (.int .i64 (xs.getD j 0)) := by
  obtain ⟨ad, rfl⟩ := C_some h (by omega)
  refine ⟨ad, rfl, ?_⟩
  rw [C_int_at h j hj, List.getD_eq_getElem?_getD, List.getElem?_eq_getElem hj]
  rfl

set_option maxHeartbeats 8000000 in
set_option maxRecDepth 100000 in
theorem rParse5_calls (s : ByteArray) (w : World) (hs : s.size ≤ 900000) :
    Calls Tryz.prog 16 #[.string s] w fun e w' => e = .returned (.tuple #[.int .u64 (sixHi s.data.toList), .int .u64 (sixLo s.data.toList), .bool (sixOk s.data.toList)]) ∧ Below w.heap.size w w' := by
  go_enter Tryz.func16, Tryz.ntmps16
  go_wp2_with fail
  go_loop [5, 6] (fun a i => ∃ j : Nat, i = .int .i64 j ∧ ((a = .int .i64 (-1) ∧ j ≤ s.size ∧ Aside0 (dcol s.data.toList = (dcol (s.data.toList.drop j)).map fun p => (s.data.toList.take j ++ p.1, p.2))) ∨ (∃ k : Nat, a = .int .i64 k ∧ j = k + 1 ∧ k + 1 < s.size ∧ Aside0 (dcol s.data.toList = some (s.data.toList.take k, s.data.toList.drop (k + 2)))))) (fun _ i => s.size - (intOf i).toNat)
  case atStart => exact ⟨0, rfl, .inl ⟨rfl, by omega, ⟨by simp⟩⟩⟩
  case round =>
    obtain ⟨j, rfl, ⟨rfl, hj, hd⟩ | ⟨k, rfl, rfl, hk, hd⟩⟩ := hrel
    · obtain ⟨m, hm⟩ : ∃ m : Nat, m = j + 1 := ⟨_, rfl⟩
      have hmi : (j : Int) + 1 = (m : Int) := by omega
      have HM := Lib.hid hm
      by_cases hlt : m < s.size
      · have hjs : j < s.size := by omega
        by_cases h1 : (s[j]'hjs).toNat = 58
        · by_cases h2 : (s[m]'hlt).toNat = 58
          · have HF := Lib.hid (show dcol s.data.toList = some (s.data.toList.take j, s.data.toList.drop (j + 2)) by
              subst hm
              exact dcol_found s j hlt h1 h2 hd.out)
            clear hm
            go_wp2_with fail
            exact ⟨⟨m, by go_num, .inr ⟨j, rfl, HM.out, by have := HM.out; omega, ⟨HF.out⟩⟩⟩, by have := HM.out; simp [intOf]; omega⟩
          · have HF := Lib.hid (show dcol s.data.toList = (dcol (s.data.toList.drop m)).map fun p => (s.data.toList.take m ++ p.1, p.2) by
              subst hm
              exact dcol_on s j hlt (fun h => h2 h.2) hd.out)
            clear hm
            go_wp2_with fail
            exact ⟨⟨m, by go_num, .inl ⟨rfl, by omega, ⟨HF.out⟩⟩⟩, by have := HM.out; simp [intOf]; omega⟩
        · have HF := Lib.hid (show dcol s.data.toList = (dcol (s.data.toList.drop m)).map fun p => (s.data.toList.take m ++ p.1, p.2) by
            subst hm
            exact dcol_on s j hlt (fun h => h1 h.1) hd.out)
          clear hm
          go_wp2_with fail
          exact ⟨⟨m, by go_num, .inl ⟨rfl, by omega, ⟨HF.out⟩⟩⟩, by have := HM.out; simp [intOf]; omega⟩
      · have HF := Lib.hid (show docL s.data.toList = match listD true s.data.toList with
            | none => none
            | some q => if q.length = 8 then some q else none from doc_plain (dcol_over s j (by omega) hd.out))
        clear hm hd
        go_wp2_with fail
        refine (rlist_calls s true _ hs).mono ?_
        rintro e w1 ⟨hb, ⟨hn, rfl⟩ | ⟨q, v, hq, rfl, hR⟩⟩
        · have HZ := Aside0.mk (doc_none (by rw [HF.out, hn]))
          go_wp2_with fail
          go_ret3
          exact ⟨ret_three HZ.out.1.symm HZ.out.2.1.symm HZ.out.2.2.symm, hb⟩
        · obtain ⟨A, c, rfl, hcap, hC⟩ := Kd.R_reads hR
          by_cases h8 : q.length = 8
          · have HZ := Aside0.mk (doc_some (show docL s.data.toList = some q by rw [HF.out, hq]; exact if_pos h8))
            obtain ⟨ad, rfl⟩ := C_some hC (by omega)
            have hcell : ∀ j, j < 8 → w1.cell? (ad.add j) = some (.int .i64 (q.getD j 0)) := fun j hj => by
              rw [C_int_at hC j (by omega), List.getD_eq_getElem?_getD, List.getElem?_eq_getElem (by omega)]
              rfl
            have HC := Aside0.mk hcell
            have HL := Aside0.mk (listD_bd true _ q hq)
            have H8 := Lib.hid h8
            rw [h8] at hcap ⊢
            clear hR hC hcell hq h8
            go_wp2_with fail
            refine (rnumber_calls q ad c _ H8.out HL.out hcap HC.out).mono ?_
            rintro e w2 ⟨rfl, hb2⟩
            go_wp2_with fail
            go_ret3
            exact ⟨ret_three HZ.out.1.symm HZ.out.2.1.symm HZ.out.2.2.symm, below_then hb hb.size hb2⟩
          · have HZ := Aside0.mk (doc_none (show docL s.data.toList = none by rw [HF.out, hq]; exact if_neg h8))
            clear hR hC hq
            go_wp2_with fail
            go_ret3
            exact ⟨ret_three HZ.out.1.symm HZ.out.2.1.symm HZ.out.2.2.symm, hb⟩
    · obtain ⟨m, hm⟩ : ∃ m : Nat, m = k + 2 := ⟨_, rfl⟩
      have hmi : (k : Int) + 2 = (m : Int) := by omega
      have hms : m ≤ s.size := by omega
      have HF := Lib.hid (show docL s.data.toList = match listD false (s.extract 0 k).data.toList, listD true (s.extract m s.size).data.toList with
            | some p, some r => if p.length + r.length ≤ 7 then some (p ++ List.replicate (8 - (p.length + r.length)) 0 ++ r) else none
            | _, _ => none by
        rw [extract_list, hm, show (s.extract 0 k).data.toList = s.data.toList.take k by simp]
        exact doc_two hd.out)
      have hs1 : (s.extract 0 k).size ≤ 900000 := by simp; omega
      have hs2 : (s.extract m s.size).size ≤ 900000 := by simp; omega
      clear hm hd
      rcases Nat.lt_or_ge (k + 2) s.size with hB | hB
      all_goals
        go_wp2_with fail
        generalize s.extract 0 k = sa at HF hs1 ⊢
        refine (rlist_calls sa false _ hs1).mono ?_
        rintro e w1 ⟨hb, hL⟩
        have hL1 : ∃ lv lo, e = .returned (.tuple #[lv, .bool lo]) ∧ ((lo = false ∧ listD false sa.data.toList = none) ∨ ∃ p, lo = true ∧ listD false sa.data.toList = some p ∧ Kd.R (Kd.int .i64) 3 w1 w.heap.size (fun _ => True) lv p) := by
          rcases hL with ⟨hn, rfl⟩ | ⟨p, v, hp, rfl, hR⟩
          · exact ⟨_, _, rfl, .inl ⟨rfl, hn⟩⟩
          · exact ⟨_, _, rfl, .inr ⟨p, rfl, hp, hR⟩⟩
        clear hL
        obtain ⟨lv, lo, rfl, hL⟩ := hL1
        go_wp2_with fail
        generalize s.extract m s.size = sb at HF hs2 ⊢
        refine (rlist_calls sb true _ hs2).mono ?_
        rintro e w2 ⟨hb2, hR2⟩
        rcases hL with ⟨rfl, hn⟩ | ⟨p, rfl, hp, hRp⟩
        · have HZ := Aside0.mk (doc_none (show docL s.data.toList = none by rw [HF.out, hn]))
          rcases hR2 with ⟨_, rfl⟩ | ⟨r, v, _, rfl, _⟩
          all_goals
            go_wp2_with fail
            go_ret3
            exact ⟨ret_three HZ.out.1.symm HZ.out.2.1.symm HZ.out.2.2.symm, below_then hb hb.size hb2⟩
        · rcases hR2 with ⟨hn, rfl⟩ | ⟨r, v, hr, rfl, hRr⟩
          · have HZ := Aside0.mk (doc_none (show docL s.data.toList = none by rw [HF.out, hn, hp]))
            go_wp2_with fail
            go_ret3
            exact ⟨ret_three HZ.out.1.symm HZ.out.2.1.symm HZ.out.2.2.symm, below_then hb hb.size hb2⟩
          · have hRp2 := Kd.R_below hRp hb2
            obtain ⟨A, c, rfl, hcap, hC⟩ := Kd.R_reads hRp2
            obtain ⟨A', c', rfl, hcap', hC'⟩ := Kd.R_reads hRr
            have hl1 := listD_len false _ p hp
            have hl2 := listD_len true _ r hr
            rw [show sa.data.toList.length = sa.size by simp] at hl1
            rw [show sb.data.toList.length = sb.size by simp] at hl2
            by_cases h7 : p.length + r.length ≤ 7
            · have HZ := Aside0.mk (doc_some (show docL s.data.toList = some (p ++ List.replicate (8 - (p.length + r.length)) 0 ++ r) by rw [HF.out, hp, hr]; exact if_pos h7))
              have HP := Aside0.mk (fun j hj => C_int_get hC j hj)
              have HR := Aside0.mk (fun j hj => C_int_get hC' j hj)
              have HBd := Aside0.mk (show ∀ x ∈ p ++ List.replicate (8 - (p.length + r.length)) 0 ++ r, 0 ≤ x ∧ x ≤ 65535 from fun x hx => by
                rcases List.mem_append.1 hx with hx | hx
                · rcases List.mem_append.1 hx with hx | hx
                  · exact listD_bd _ _ _ hp x hx
                  · rw [(List.mem_replicate.1 hx).2]; omega
                · exact listD_bd _ _ _ hr x hx)
              have HB2 := Aside0.mk (below_then hb hb.size hb2)
              have hw2 : w.heap.size ≤ w2.heap.size := HB2.out.size
              obtain ⟨np, hnp⟩ : ∃ n, n = p.length := ⟨_, rfl⟩
              obtain ⟨nr, hnr⟩ : ∃ n, n = r.length := ⟨_, rfl⟩
              have HNP := Lib.hid hnp
              have HNR := Lib.hid hnr
              rw [← hnp] at hcap h7 ⊢
              rw [← hnr] at hcap' h7 ⊢
              have hc1 : np ≤ 9 := by omega
              have hc2 : nr ≤ 9 := by omega
              have hgt : ¬ (7 : Int) < (np : Int) + (nr : Int) := by omega
              clear hnp hnr hl1 hl2 hC hC' hRp hRp2 hRr hb hb2 hp hr HF hs1 hs2
              go_wp2_with (at_make; refine Kd.R_make (Kd.int .i64) (w0 := w2) w2.heap.size 3 rfl rfl 34 (.const (.int .i64 8)) (.const (.int .i64 8)) rfl 8 rfl rfl Tryz.underlying34 (.int .i64 0) 8 info_int rfl (by decide) (by omega) 0 (ok := fun _ => True) (okp := fun _ => True) rfl (fun _ h => h) trivial (by omega) (by decide) (Below.refl _ _) (Nat.le_refl _) ?_; intro v1 w3 ho hb3 _ _; (obtain ⟨g, cap, rfl, hcap3, hg3, hg4, hO3⟩ := make8 ho); (have HO3 := Aside0.mk hO3); (have HB3 := Aside0.mk hb3); clear ho hO3 hb3)
              go_loopw [16] (fun i wr => ∃ (j : Nat) (ys : List Int), i = .int .i64 j ∧ j ≤ np ∧ ys.length = 8 ∧ Aside0 (ys = p.take j ++ List.replicate (8 - j) 0) ∧ Aside0 (Kd.R (Kd.int .i64) 3 wr w2.heap.size (fun _ => True) (.slice (some ⟨g, 0, none⟩) 8 cap) ys) ∧ Aside0 (Below w2.heap.size w2 wr)) (fun i _ => np - (intOf i).toNat)
              case atStart => exact ⟨0, List.replicate 8 0, rfl, by omega, by simp, ⟨by simp⟩, ⟨HO3.out⟩, ⟨HB3.out⟩⟩
              case round =>
                obtain ⟨j, ys, rfl, hj, h8, hy, HO, hbw⟩ := hrel
                have hw3 : w2.heap.size ≤ wr.heap.size := hbw.out.size
                by_cases hlt : j < np
                · have hlp : j < p.length := by rw [← HNP.out]; exact hlt
                  obtain ⟨ad, rfl, hcj0⟩ := HP.out j hlp
                  have hcj := (hbw.out.cell (cell_blk hcj0)).trans hcj0
                  obtain ⟨cw, fw⟩ := cell8 h8 HO.out j (by omega)
                  have HY := Lib.hid (copied p j ys hlp (by rw [← HNP.out]; omega) hy.out)
                  generalize p.getD j 0 = x at hcj HY
                  clear hcj0 hlp
                  go_wp2_with fail
                  exact ⟨⟨j + 1, ys.set j x, by go_num, by omega, by rw [List.length_set]; exact h8, ⟨HY.out⟩, ⟨put8 h8 HO.out j x⟩, ⟨hbw.out.setCell (by show w2.heap.size ≤ g; omega) _⟩⟩, by simp [intOf]; omega⟩
                · have hjn : j = np := by omega
                  have HY := Lib.hid (copied0 p np nr ys HNP.out h7 (by rw [hy.out, hjn]))
                  obtain ⟨o, ho⟩ : ∃ o : Nat, o + nr = 8 := ⟨8 - nr, by omega⟩
                  have hoi : (8 : Int) - (nr : Int) = (o : Int) := by omega
                  have HO8 := Lib.hid ho
                  have H7 := Lib.hid h7
                  have ho8 : o ≤ 8 := by omega
                  clear hjn ho hy h7
                  go_wp2_with fail
                  go_loopw [17] (fun i wr => ∃ (j : Nat) (ys : List Int), i = .int .i64 j ∧ j ≤ nr ∧ ys.length = 8 ∧ Aside0 (ys = (p ++ List.replicate (8 - (np + nr)) 0) ++ (r.take j ++ List.replicate (nr - j) 0)) ∧ Aside0 (Kd.R (Kd.int .i64) 3 wr w2.heap.size (fun _ => True) (.slice (some ⟨g, 0, none⟩) 8 cap) ys) ∧ Aside0 (Below w2.heap.size w2 wr)) (fun i _ => nr - (intOf i).toNat)
                  case atStart => exact ⟨0, ys, rfl, by omega, h8, ⟨HY.out⟩, ⟨HO.out⟩, ⟨hbw.out⟩⟩
                  case round =>
                    clear HY HO h8 hbw
                    obtain ⟨i, zs, rfl, hi, h8, hy, HO, hbw⟩ := hrel
                    have hw4 : w2.heap.size ≤ wr.heap.size := hbw.out.size
                    by_cases hlt : i < nr
                    · have hlp : i < r.length := by rw [← HNR.out]; exact hlt
                      obtain ⟨ad, rfl, hcj0⟩ := HR.out i hlp
                      have hcj := (hbw.out.cell (cell_blk hcj0)).trans hcj0
                      obtain ⟨q, hq⟩ : ∃ q : Nat, q = o + i := ⟨_, rfl⟩
                      have hqi : (o : Int) + (i : Int) = (q : Int) := by omega
                      have hq8 : q < 8 := by have := HO8.out; omega
                      obtain ⟨cw, fw⟩ := cell8 h8 HO.out q hq8
                      have HY := Lib.hid (show zs.set q (r.getD i 0) = (p ++ List.replicate (8 - (np + nr)) 0) ++ (r.take (i + 1) ++ List.replicate (nr - (i + 1)) 0) by rw [hq]; exact copied2 p r np nr i o zs HNP.out HNR.out HO8.out H7.out hlp hy.out)
                      generalize r.getD i 0 = x at hcj HY
                      clear hcj0 hlp hq
                      go_wp2_with fail
                      exact ⟨⟨i + 1, zs.set q x, by go_num, by omega, by rw [List.length_set]; exact h8, ⟨HY.out⟩, ⟨put8 h8 HO.out q x⟩, ⟨hbw.out.setCell (by show w2.heap.size ≤ g; omega) _⟩⟩, by simp [intOf]; omega⟩
                    · have HY := Lib.hid (show zs = p ++ List.replicate (8 - (p.length + r.length)) 0 ++ r by
                        have hin : i = r.length := by rw [← HNR.out]; omega
                        rw [hy.out, hin, HNR.out, HNP.out, List.take_length, Nat.sub_self]
                        simp)
                      have hcell : ∀ j, j < 8 → wr.cell? ((⟨g, 0, none⟩ : Addr).add j) = some (.int .i64 (zs.getD j 0)) := fun j hj => by
                        rw [add_at, Nat.zero_add]
                        exact (cell8 h8 HO.out j hj).1
                      have HC := Aside0.mk hcell
                      have HBz := Aside0.mk (show ∀ x ∈ zs, 0 ≤ x ∧ x ≤ 65535 by rw [HY.out]; exact HBd.out)
                      have HZ2 := Lib.hid (show sixHi s.data.toList = half (zs.take 4) ∧ sixLo s.data.toList = half (zs.drop 4) ∧ sixOk s.data.toList = true by rw [HY.out]; exact HZ.out)
                      clear hcell hy
                      go_wp2_with fail
                      refine (rnumber_calls zs ⟨g, 0, none⟩ cap _ h8 HBz.out hcap3 HC.out).mono ?_
                      rintro e w5 ⟨rfl, hb5⟩
                      go_wp2_with fail
                      go_ret3
                      exact ⟨ret_three HZ2.out.1.symm HZ2.out.2.1.symm HZ2.out.2.2.symm, below_then HB2.out HB2.out.size (below_then hbw.out hbw.out.size hb5)⟩
            · have HZ := Aside0.mk (doc_none (show docL s.data.toList = none by rw [HF.out, hp, hr]; exact if_neg h7))
              clear hC hC' hRp hRp2 hRr
              go_wp2_with fail
              go_ret3
              exact ⟨ret_three HZ.out.1.symm HZ.out.2.1.symm HZ.out.2.2.symm, below_then hb hb.size hb2⟩
end Go.Proofs.YtfieiigefllekaaGreatDoor

/- What is written is read again: addresses of eight pieces. Plain Lean. -/
namespace Go.Proofs.YtfieiigefllekaaGreatDoor
open Go.RowKit Go.Proofs.YtfieiigefllekaaGreatDoorW.PrintWords

theorem hex_len : ∀ (k u : Nat), u < 16 ^ (k + 1) → (digB 16 u).length ≤ k + 1
  | 0, u, h => by rw [digB_small (by simpa using h)]; simp
  | k + 1, u, h => by
    by_cases hu : u < 16
    · rw [digB_small hu]; simp
    · rw [digB_big (by omega) (by omega), List.length_append, List.length_singleton]
      have := hex_len k (u / 16) (by rw [Nat.pow_succ] at h; omega)
      omega
theorem hexCh_colon : ∀ d : Fin 16, hexCh d.val ≠ 58 := by decide
theorem hex_colon (u : Nat) : ∀ c ∈ digB 16 u, c ≠ 58 := by
  intro c hc
  obtain ⟨d, hd, rfl⟩ := digB_mem 16 (by omega) u c hc
  exact hexCh_colon ⟨d, hd⟩
theorem piece_dig (u : Nat) (h : u ≤ 65535) : pieceL (digB 16 u) = some (u : Int) := by
  have h4 := hex_len 3 u (by omega)
  rw [pieceL, if_neg (by
    rintro (h | h)
    · exact digB_ne 16 u h
    · omega), show accN 16 0 (intsOf (digB 16 u)) = _ from acc_dig 16 (by omega) (by omega) u, Int.min_eq_left (by omega)]
theorem strict_dig (u : Nat) : strictOk (digB 16 u) = false := by
  rw [strictOk, strictL, split_none _ (digB_dot 16 (by omega) (by omega) u)]
  rfl
theorem words_nil : wordsL [] = [] := rfl
theorem words_one (x : Int) : wordsL [x] = digB 16 x.toNat := by simp [wordsL, Lib.join_one]
theorem words_cons (x y : Int) (xs : List Int) : wordsL (x :: y :: xs) = digB 16 x.toNat ++ 58 :: wordsL (y :: xs) := by
  simp only [wordsL, List.map_cons, Lib.join_cons]
  simp [Lib.joinTail]
theorem words_split : ∀ xs : List Int, xs ≠ [] → splitL (isAt ⟨#[58]⟩) (wordsL xs) = xs.map fun x => digB 16 x.toNat
  | [], h => absurd rfl h
  | [x], _ => by rw [words_one, split_one _ (hex_colon _)]; rfl
  | x :: y :: xs, _ => by rw [words_cons, split_word _ _ (hex_colon _), words_split (y :: xs) (by simp)]; rfl
theorem words_ne (x : Int) (xs : List Int) : wordsL (x :: xs) ≠ [] := by
  rcases xs with _ | ⟨y, xs⟩
  · rw [words_one]; exact digB_ne _ _
  · rw [words_cons]; simp
theorem words_head (x : Int) (xs : List Int) : ∃ c t, wordsL (x :: xs) = c :: t ∧ c ≠ 58 := by
  have hd : ∃ c t, digB 16 x.toNat = c :: t := by
    rcases h : digB 16 x.toNat with _ | ⟨c, t⟩
    · exact absurd h (digB_ne _ _)
    · exact ⟨c, t, rfl⟩
  obtain ⟨c, t, e⟩ := hd
  have hc := hex_colon x.toNat c (by rw [e]; simp)
  rcases xs with _ | ⟨y, xs⟩
  · exact ⟨c, t, by rw [words_one, e], hc⟩
  · exact ⟨c, _, by rw [words_cons, e]; rfl, hc⟩
theorem words_dcol : ∀ xs : List Int, dcol (wordsL xs) = none
  | [] => rfl
  | [x] => by rw [words_one, dcol_one _ (hex_colon _)]
  | x :: y :: xs => by
    obtain ⟨c, t, e, hc⟩ := words_head y xs
    rw [words_cons, dcol_word _ _ (hex_colon _), if_neg (by rw [e]; simpa using hc), words_dcol (y :: xs)]
    rfl
theorem words_gap (r : List UInt8) : ∀ xs : List Int, dcol (wordsL xs ++ 58 :: 58 :: r) = some (wordsL xs, r)
  | [] => by rw [words_nil, List.nil_append, dcol, if_pos ⟨rfl, rfl⟩]; rfl
  | [x] => by rw [words_one, dcol_word _ _ (hex_colon _), if_pos (show (58 :: r).head? = some 58 from rfl)]; rfl
  | x :: y :: xs => by
    obtain ⟨c, t, e, hc⟩ := words_head y xs
    rw [words_cons, List.append_assoc, List.cons_append, dcol_word _ _ (hex_colon _), if_neg (by rw [e]; simpa using hc), words_gap r (y :: xs)]
    rfl
theorem list_words (last : Bool) : ∀ xs : List Int, (∀ x ∈ xs, 0 ≤ x ∧ x ≤ 65535) → listW last (xs.map fun x => digB 16 x.toNat) = some xs
  | [], _ => rfl
  | x :: xs, h => by
    have hx := h x (by simp)
    rw [List.map_cons, listW, if_neg (fun hh => absurd hh.1 (by rw [strict_dig]; decide)), piece_dig _ (by omega), list_words last xs fun y hy => h y (by simp [hy])]
    simp only [Option.map_some]
    rw [Int.toNat_of_nonneg hx.1]
theorem listD_words (last : Bool) (xs : List Int) (h : ∀ x ∈ xs, 0 ≤ x ∧ x ≤ 65535) : listD last (wordsL xs) = some xs := by
  rcases xs with _ | ⟨x, xs⟩
  · rfl
  · rw [listD, if_neg (words_ne _ _), words_split _ (by simp), list_words last _ h]
theorem words_len4 : ∀ xs : List Int, (∀ x ∈ xs, 0 ≤ x ∧ x ≤ 65535) → (wordsL xs).length ≤ 5 * xs.length - 1
  | [], _ => by simp [words_nil]
  | [x], h => by
    have := hex_len 3 x.toNat (by have := h x (by simp); omega)
    rw [words_one]
    simpa using this
  | x :: y :: xs, h => by
    have h1 := hex_len 3 x.toNat (by have := h x (by simp); omega)
    have h2 := words_len4 (y :: xs) fun z hz => h z (by simp [hz])
    rw [words_cons, List.length_append, List.length_cons]
    simp only [List.length_cons] at h2 ⊢
    omega
theorem zrun_zero : ∀ (l : List Int) (n : Nat), n ≤ zrun l → l.take n = List.replicate n 0
  | _, 0, _ => rfl
  | [], n + 1, h => absurd h (by simp [zrun])
  | x :: r, n + 1, h => by
    rw [zrun] at h
    split at h
    · rename_i hx
      rw [List.take_succ_cons, zrun_zero r n (by omega), hx]
      rfl
    · omega
theorem longF_run (xs : List Int) : ∀ j, (longF xs j).2 ≤ zrun (xs.drop (longF xs j).1)
  | 0 => Nat.zero_le _
  | j + 1 => by
    rw [longF]
    split
    · exact Nat.le_refl _
    · exact longF_run xs j
theorem six_back (xs : List Int) (hl : xs.length = 8) (hb : ∀ x ∈ xs, 0 ≤ x ∧ x ≤ 65535) : sixL (textL6 xs) = some xs := by
  have hbd := longF_bd xs hl 8 (Nat.le_refl _)
  have hz := zrun_zero _ _ (longF_run xs 8)
  rw [six_doc, textL6]
  generalize longF xs 8 = an at *
  obtain ⟨a, n⟩ := an
  simp only at hbd hz ⊢
  by_cases h2 : n < 2
  · rw [if_pos h2, docL, words_dcol]
    simp only
    rw [listD_words true xs hb]
    simp only
    rw [if_pos hl]
  · have h1 : ∀ x ∈ xs.take a, 0 ≤ x ∧ x ≤ 65535 := fun x hx => hb x (List.mem_of_mem_take hx)
    have h3 : ∀ x ∈ xs.drop (a + n), 0 ≤ x ∧ x ≤ 65535 := fun x hx => hb x (List.mem_of_mem_drop hx)
    rw [if_neg h2, List.append_assoc, show [58, 58] ++ wordsL (xs.drop (a + n)) = 58 :: 58 :: wordsL (xs.drop (a + n)) from rfl, docL, words_gap]
    simp only
    rw [listD_words false _ h1, listD_words true _ h3]
    simp only [List.length_take, List.length_drop, hl]
    rw [if_pos (by omega), show 8 - (min a 8 + (8 - (a + n))) = n by omega, ← hz, List.append_assoc, ← List.drop_drop, List.take_append_drop, List.take_append_drop]
theorem text_len (xs : List Int) (hl : xs.length = 8) (hb : ∀ x ∈ xs, 0 ≤ x ∧ x ≤ 65535) : (textL6 xs).length ≤ 39 := by
  have hbd := longF_bd xs hl 8 (Nat.le_refl _)
  rw [textL6]
  generalize longF xs 8 = an at *
  obtain ⟨a, n⟩ := an
  simp only at hbd ⊢
  by_cases h2 : n < 2
  · rw [if_pos h2]
    have := words_len4 xs hb
    omega
  · have h1 := words_len4 (xs.take a) fun x hx => hb x (List.mem_of_mem_take hx)
    have h3 := words_len4 (xs.drop (a + n)) fun x hx => hb x (List.mem_of_mem_drop hx)
    rw [List.length_take, hl] at h1
    rw [List.length_drop, hl] at h3
    rw [if_neg h2]
    simp only [List.length_append, List.length_cons, List.length_nil]
    omega
/-- The longest row is where the document finds it. -/
theorem longF_max (xs : List Int) : ∀ j f, f < j → zrun (xs.drop f) ≤ (longF xs j).2
  | 0, _, h => absurd h (by omega)
  | j + 1, f, h => by
    rw [longF]
    rcases Nat.lt_or_ge f j with hf | hf
    · have := longF_max xs j f hf
      split
      · show _ ≤ zrun _
        omega
      · exact this
    · obtain rfl : f = j := by omega
      split
      · exact Nat.le_refl _
      · omega
theorem longF_first (xs : List Int) : ∀ j f, f < (longF xs j).1 → zrun (xs.drop f) < (longF xs j).2
  | 0, _, h => absurd h (by simp [longF])
  | j + 1, f, h => by
    rw [longF] at h ⊢
    by_cases hc : (longF xs j).2 < zrun (xs.drop j)
    · rw [if_pos hc] at h ⊢
      have := longF_max xs j f h
      show _ < zrun _
      omega
    · rw [if_neg hc] at h ⊢
      exact longF_first xs j f h
theorem longF_is (xs : List Int) (hl : xs.length = 8) (f n : Nat) (h2 : 2 ≤ n) (hn : n ≤ zrun (xs.drop f)) (hup : ∀ k g, n < k → k ≤ 8 → g + k ≤ 8 → zrun (xs.drop g) < k) (hlow : ∀ g, g < f → zrun (xs.drop g) < n) : longF xs 8 = (f, n) := by
  have hzl : ∀ g, zrun (xs.drop g) ≤ 8 - g := fun g => by
    have := zrun_le (xs.drop g)
    rwa [List.length_drop, hl] at this
  have hf8 : f < 8 := by have := hzl f; omega
  have hmax := longF_max xs 8 f hf8
  have hrun := longF_run xs 8
  have hbd := longF_bd xs hl 8 (Nat.le_refl _)
  have hfirst := longF_first xs 8
  generalize longF xs 8 = an at *
  obtain ⟨a, m⟩ := an
  simp only at hmax hrun hbd hfirst ⊢
  have hm : m = n := by
    rcases Nat.lt_or_ge n m with h | h
    · have := hup m a h (by omega) hbd
      omega
    · omega
  subst hm
  have ha : a = f := by
    rcases Nat.lt_trichotomy a f with h | h | h
    · have := hlow a h
      omega
    · exact h
    · have := hfirst f h
      omega
  rw [ha]
theorem longF_none (xs : List Int) (hl : xs.length = 8) (hup : ∀ k g, 1 < k → k ≤ 8 → g + k ≤ 8 → zrun (xs.drop g) < k) : (longF xs 8).2 < 2 := by
  have hrun := longF_run xs 8
  have hbd := longF_bd xs hl 8 (Nat.le_refl _)
  generalize longF xs 8 = an at *
  obtain ⟨a, m⟩ := an
  simp only at hrun hbd ⊢
  rcases Nat.lt_or_ge m 2 with h | h
  · exact h
  · have := hup m a (by omega) (by omega) hbd
    omega
theorem half_pieces (hi lo : Int) : half ((piecesOf hi lo).take 4) = hi ∧ half ((piecesOf hi lo).drop 4) = lo := by
  constructor <;> simp only [piecesOf, half, List.take_succ_cons, List.take_zero, List.drop_succ_cons, List.drop_zero, List.foldl_cons, List.foldl_nil] <;> omega
end Go.Proofs.YtfieiigefllekaaGreatDoor
