/- The document's Text of an address of eight pieces, walked. -/
import Derived.Test.YtfieiigefllekaaGreatDoorZRSix4
import Derived.BigRegion
namespace Go.Proofs.YtfieiigefllekaaGreatDoor
open Go.RowKit Go.Proofs.YtfieiigefllekaaGreatDoorW.PrintWords Go.Proofs.YtfieiigefllekaaGreatDoorW.PrintMore

set_option maxHeartbeats 4000000 in
set_option maxRecDepth 100000 in
theorem rText5_calls (hi lo : Int) (h0 : 0 ≤ hi ∧ hi < 18446744073709551616) (h1 : 0 ≤ lo ∧ lo < 18446744073709551616) (w : World) :
    Calls Tryz.prog 21 #[.int .u64 hi, .int .u64 lo] w fun e w' => e = .returned (.string ⟨(textL6 (piecesOf hi lo)).toArray⟩) ∧ Below w.heap.size w w' := by
  go_enter Tryz.func21, Tryz.ntmps21
  go_wp2_with fail
  refine (rPieces5_calls hi lo h0 h1 _).mono ?_
  rintro e w1 ⟨g, cap, rfl, hcap, hg, hR, b1⟩
  have hl : (piecesOf hi lo).length = 8 := rfl
  have hb := pieces_bd hi lo h0 h1
  generalize hPe : piecesOf hi lo = P at hR hl hb ⊢
  have HPe := Lib.hid hPe
  clear hPe
  have hcell : ∀ j, j < 8 → w1.cell? ((⟨g, 0, none⟩ : Addr).add j) = some (.int .i64 (P.getD j 0)) := fun j hj => by
    rw [add_at, Nat.zero_add]
    exact (cell8 hl hR j hj).1
  have HC := Aside0.mk hcell
  have HBd := Aside0.mk hb
  have HL := Lib.hid hl
  have B1 := Aside0.mk b1
  clear hR hcell hb hl b1
  go_wp2_with fail
  go_loop [6] (fun i => ∃ n : Nat, i = .int .i64 n ∧ 1 ≤ n ∧ n ≤ 8 ∧ Aside0 (∀ k f, n < k → k ≤ 8 → f + k ≤ 8 → zrun (P.drop f) < k)) (fun i => (intOf i).toNat)
  case atStart => exact ⟨8, rfl, by omega, by omega, ⟨fun k f h1 h2 => by omega⟩⟩
  case round =>
    obtain ⟨n, rfl, hn1, hn8, hup⟩ := hrel
    by_cases h2 : 2 ≤ n
    · go_wp2_with fail
      go_loop [7] (fun i => ∃ f : Nat, i = .int .i64 f ∧ f + n ≤ 9 ∧ Aside0 (∀ q, q < f → zrun (P.drop q) < n)) (fun i => 9 - (intOf i).toNat)
      case atStart => exact ⟨0, rfl, by omega, ⟨fun q hq => by omega⟩⟩
      case round =>
        obtain ⟨f, rfl, hf, hlow⟩ := hrel
        obtain ⟨m, hm⟩ : ∃ m : Nat, m = f + n := ⟨_, rfl⟩
        have hmi : (f : Int) + (n : Int) = (m : Int) := by omega
        have HM := Lib.hid hm
        have HF := Lib.hid hf
        have hf8 : f ≤ 8 := by omega
        by_cases hm8 : m ≤ 8
        · have hle := Lib.hid (show f + n ≤ 8 by omega)
          clear hm hf
          go_wp2_with fail
          refine (rzeros5_calls P f n _ cap _ HL.out hle.out HC.out).mono ?_
          rintro e w2 ⟨rfl, rfl⟩
          by_cases hz : n ≤ zrun (P.drop f)
          · rw [decide_eq_true hz]
            have HT := Lib.hid (show (⟨(wordsL (P.take f)).toArray⟩ : ByteArray) ++ ⟨#[58, 58]⟩ ++ ⟨(wordsL (P.drop m)).toArray⟩ = ⟨(textL6 (piecesOf hi lo)).toArray⟩ by
              have hlg := longF_is P HL.out f n h2 hz hup.out hlow.out
              rw [HPe.out, textL6, hlg, if_neg (by omega), HM.out]
              apply ByteArray.ext
              simp)
            have hW : ∀ j, j < 8 → w2.drew.cell? ((⟨g, 0, none⟩ : Addr).add j) = some (.int .i64 (P.getD j 0)) := HC.out
            have J1 := Aside0.mk (rjoin5_calls (P.take f) f (by rw [List.length_take, HL.out]; omega) (some ⟨g, 0, none⟩) cap w2.drew hf8 (fun x hx => HBd.out x (List.mem_of_mem_take hx)) (fun j hj => ⟨_, rfl, (hW j (by omega)).trans (by rw [List.getD_eq_getElem?_getD, List.getD_eq_getElem?_getD, List.getElem?_take_of_lt hj])⟩))
            have J2 := Aside0.mk (fun (A : Option Addr) (c : Nat) (hA : m < 8 → A = some ⟨g, m, none⟩) => rjoin5_calls (P.drop m) (8 - m) (by rw [List.length_drop, HL.out]) A c w2.drew (by omega) (fun x hx => HBd.out x (List.mem_of_mem_drop hx)) (fun j hj => ⟨_, hA (by omega), by rw [add_at, show (P.drop m).getD j 0 = P.getD (m + j) 0 by rw [List.getD_eq_getElem?_getD, List.getD_eq_getElem?_getD, List.getElem?_drop]]; have := hW (m + j) (by omega); rwa [add_at, Nat.zero_add] at this⟩))
            clear hW
            have z1 : (⟨(wordsL (P.take f)).toArray⟩ : ByteArray).size ≤ 200 := by
              have := wordsL_len (P.take f) (fun x hx => (HBd.out x (List.mem_of_mem_take hx)).2)
              rw [List.length_take, HL.out] at this
              show (wordsL (P.take f)).toArray.size ≤ 200
              simp
              omega
            have z2 : (⟨(wordsL (P.drop m)).toArray⟩ : ByteArray).size ≤ 200 := by
              have := wordsL_len (P.drop m) (fun x hx => (HBd.out x (List.mem_of_mem_drop hx)).2)
              rw [List.length_drop, HL.out] at this
              show (wordsL (P.drop m)).toArray.size ≤ 200
              simp
              omega
            generalize (⟨(wordsL (P.take f)).toArray⟩ : ByteArray) = b1 at HT J1 z1
            generalize (⟨(wordsL (P.drop m)).toArray⟩ : ByteArray) = b2 at HT J2 z2
            have zz : (b1 ++ (⟨#[58, 58]⟩ : ByteArray)).size ≤ 202 := by
              rw [ByteArray.size_append]
              have : (⟨#[58, 58]⟩ : ByteArray).size = 2 := rfl
              omega
            have hmw : IntKind.i64.wrap ((f : Int) + (n : Int)) = (m : Int) := by
              rw [i64_small' _ (by omega) (by omega)]
              omega
            have hm0 : (0 : Int) ≤ (m : Int) := by omega
            have hm8i : (m : Int) ≤ 8 := by omega
            have hf0 : (0 : Int) ≤ (f : Int) := by omega
            have hf8i : (f : Int) ≤ 8 := by omega
            have hfc : f ≤ cap := by omega
            have hfci : (f : Int) ≤ (cap : Int) := by omega
            have hmc : m ≤ cap := by omega
            have hmci : (m : Int) ≤ (cap : Int) := by omega
            have hcapi : (8 : Int) ≤ (cap : Int) := by omega
            clear hz hmi
            by_cases hm7 : m < 8
            · have hne : ¬ cap = m := by omega
              go_wp2_with fail
              go_region_with (first
                | (go_at_call_of 66 (Value.slice (some ⟨g, 0, none⟩) f cap); refine J1.out.mono ?_; rintro e w4 ⟨rfl, rfl⟩)
                | (go_at_call 66; refine (J2.out _ _ (fun _ => rfl)).mono ?_; rintro e w5 ⟨rfl, rfl⟩))
              all_goals
                go_wp2_with fail
                go_ret
                refine ⟨?_, ?_⟩
                · exact congrArg (fun s => Ending.returned (.string s)) HT.out
                · exact B1.out.drew
            · have J3 := Aside0.mk (fun (A : Option Addr) (c : Nat) => J2.out A c (fun h => absurd h hm7))
              clear J2
              obtain rfl : m = 8 := by omega
              rw [show 8 - 8 = 0 from rfl] at J3
              clear hm7 hm8i hm0 hm8
              rcases Nat.lt_or_ge 8 cap with hlc | hlc
              · have hne : ¬ cap = 8 := by omega
                go_wp2_with fail
                go_region_with (first
                  | (go_at_call_of 66 (Value.slice (some ⟨g, 0, none⟩) f cap); refine J1.out.mono ?_; rintro e w4 ⟨rfl, rfl⟩)
                  | (go_at_call 66; refine (J3.out _ _).mono ?_; rintro e w5 ⟨rfl, rfl⟩))
                all_goals
                  go_wp2_with fail
                  go_ret
                  refine ⟨?_, ?_⟩
                  · exact congrArg (fun s => Ending.returned (.string s)) HT.out
                  · exact B1.out.drew
              · obtain rfl : cap = 8 := by omega
                clear hcapi hmc hmci hfc hfci hlc hcap
                go_wp2_with fail
                have J4 := Aside0.mk (J3.out (some ⟨g, 0, none⟩) 0)
                clear J3
                go_region_with (first
                  | (go_at_call_of 66 (Value.slice (some ⟨g, 0, none⟩) 0 0); refine J4.out.mono ?_; rintro e w5 ⟨rfl, rfl⟩)
                  | (go_at_call_of 66 (Value.slice (some ⟨g, 0, none⟩) f 8); refine J1.out.mono ?_; rintro e w4 ⟨rfl, rfl⟩))
                all_goals
                  go_wp2_with fail
                  go_ret
                  refine ⟨?_, ?_⟩
                  · exact congrArg (fun s => Ending.returned (.string s)) HT.out
                  · exact B1.out.drew
          · rw [decide_eq_false hz]
            have HZ := Aside0.mk (show ∀ q, q < f + 1 → zrun (P.drop q) < n from fun q hq => by
              rcases Nat.lt_or_ge q f with h | h
              · exact hlow.out q h
              · have : q = f := by omega
                subst this
                omega)
            clear hz
            go_wp2_with fail
            exact ⟨⟨f + 1, by go_num, by have := HM.out; omega, ⟨HZ.out⟩⟩, by simp [intOf]; omega⟩
        · obtain ⟨n1, hn⟩ : ∃ n1 : Nat, n1 + 1 = n := ⟨n - 1, by omega⟩
          have hni : (n : Int) - 1 = (n1 : Int) := by omega
          have HU := Aside0.mk (show ∀ k f, n1 < k → k ≤ 8 → f + k ≤ 8 → zrun (P.drop f) < k from fun k q hk hk8 hqk => by
            rcases Nat.lt_or_ge n k with h | h
            · exact hup.out k q h hk8 hqk
            · have : k = n := by omega
              subst this
              exact hlow.out q (by omega))
          have HN1 := Lib.hid hn
          clear hm hf hn
          go_wp2_with fail
          exact ⟨⟨n1, by rfl, by have := HN1.out; omega, by have := HN1.out; omega, ⟨HU.out⟩⟩, by have := HN1.out; simp [intOf]; omega⟩
    · have HT := Lib.hid (show (⟨(wordsL P).toArray⟩ : ByteArray) = ⟨(textL6 (piecesOf hi lo)).toArray⟩ by
        rw [HPe.out, textL6, if_pos (longF_none P HL.out (fun k f hk hk8 hfk => hup.out k f (by omega) hk8 hfk))])
      go_wp2_with fail
      refine (rjoin5_calls P 8 HL.out.symm _ cap _ (by omega) HBd.out (fun j hj => ⟨_, rfl, HC.out j hj⟩)).mono ?_
      rintro e w2 ⟨rfl, rfl⟩
      go_wp2_with fail
      go_ret
      exact ⟨ret_string HT.out, B1.out⟩
end Go.Proofs.YtfieiigefllekaaGreatDoor
