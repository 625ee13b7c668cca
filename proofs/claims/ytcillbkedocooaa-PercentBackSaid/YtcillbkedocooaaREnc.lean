/- The document's Encode and Text. -/
import Derived.Test.YtcillbkedocooaaRef2
namespace Go.Proofs.Ytcillbkedocooaa
open Go.RowKit Go.Proofs.YtcillbkedocooaaW.PrintWords Go.Proofs.YtcillbkedocooaaW.PrintMore

theorem rnF_length (s : ByteArray) : ∀ f p, (rnF s f p).length ≤ f
  | 0, _ => by simp [rnF]
  | f + 1, p => by
    unfold rnF
    split
    · have := rnF_length s f (p + (Utf8.decode s p).2)
      simp only [List.length_cons]
      omega
    · simp
theorem rn_length (s : ByteArray) : (rn s).length ≤ s.size := rnF_length s _ _
theorem rnF_bd (s : ByteArray) : ∀ f p, ∀ x ∈ rnF s f p, 0 ≤ x ∧ x ≤ 2147483647
  | 0, _, _, h => by simp [rnF] at h
  | f + 1, p, x, h => by
    unfold rnF at h
    split at h
    · rcases List.mem_cons.1 h with rfl | h
      · have := decode_le s p
        omega
      · exact rnF_bd s f _ x h
    · simp at h
theorem rn_bd (s : ByteArray) : ∀ x ∈ rn s, 0 ≤ x ∧ x ≤ 2147483647 := rnF_bd s _ _

theorem extract_one (q : ByteArray) (k : Nat) (h : k < q.size) : q.extract k (k + 1) = ⟨#[q[k]'h]⟩ := by
  apply ByteArray.ext
  rw [ByteArray.data_extract]
  apply Array.ext'
  have h' : k < q.data.toList.length := by simpa using h
  simp [Array.toList_extract, List.drop_eq_getElem_cons h']
  rfl

/-- What k bytes of a code point are written as. -/
def encP (s r : Int) (l : List UInt8) (k : Nat) : List UInt8 := if inSet s r = true then (l.take k).flatMap (fun b => byteL (b.toNat : Int)) else l.take k
theorem encP_length (s r : Int) (l : List UInt8) (k : Nat) : (encP s r l k).length ≤ 3 * l.length := by
  unfold encP
  split
  · rw [bytesL_length, List.length_take]; omega
  · rw [List.length_take]; omega
theorem encP_all (s r : Int) (l : List UInt8) (k : Nat) (h : l.length ≤ k) (hl : l = Lib.encodeRune r) : encP s r l k = encOne s r := by
  unfold encP encOne
  rw [List.take_of_length_le h, hl]

theorem One_ex (r : Int) (h0 : -2147483648 ≤ r) (h1 : r ≤ 2147483647) (w : World) :
    Calls Try.prog 27 #[.int .i32 r] w fun e w' => ∃ q : ByteArray, Aside0 (q.data.toList = Lib.encodeRune r) ∧ e = .returned (.string q) ∧ Below w.heap.size w w' := by
  refine (One_calls r h0 h1 w).mono ?_
  rintro e w' ⟨rfl, hb⟩
  exact ⟨_, ⟨by simp⟩, rfl, hb⟩

set_option maxHeartbeats 2000000 in
set_option maxRecDepth 100000 in
theorem rEncode_calls (s : Int) (hs0 : 0 ≤ s) (hs : s ≤ 255) (t : ByteArray) (w : World) (ht : t.size ≤ 1000000) :
    Calls Try.prog 10 #[.int .i64 s, .string t] w fun e w' => e = .returned (.string (encOf s t)) ∧ Below w.heap.size w w' := by
  go_enter Try.func10, Try.ntmps10
  go_wp2_with fail
  refine (rScalars_calls t _ ht).mono ?_
  rintro e w1 ⟨v, rfl, hv, hb1⟩
  obtain ⟨A, c, rfl, _, hC⟩ := Kd.R_reads hv
  have HC := Lib.hid hC
  have HB1 := Aside0.mk hb1
  have hlen := rn_length t
  obtain ⟨l, hl⟩ : ∃ l, l = rn t := ⟨_, rfl⟩
  rw [← hl] at HC hlen ⊢
  have hbd : ∀ x ∈ l, 0 ≤ x ∧ x ≤ 2147483647 := by rw [hl]; exact rn_bd t
  have HL := Lib.hid hl
  have Hbd := Lib.hid hbd
  obtain ⟨ad, hA⟩ : ∃ ad : Addr, 0 < l.length → A = some ad := by
    by_cases h : 0 < l.length
    · obtain ⟨ad, e⟩ := C_some HC.out h
      exact ⟨ad, fun _ => e⟩
    · exact ⟨⟨0, 0, none⟩, fun h' => absurd h' h⟩
  have HA := Lib.hid hA
  clear hv hC hb1 hl hbd hA
  go_wp2_with fail
  go_loopw [5, 13] (fun o i wr => ∃ (j : Nat), i = .int .i64 j ∧ j ≤ l.length ∧ o = .string ⟨(encL s (l.take j)).toArray⟩ ∧ Aside0 (Below w1.heap.size w1 wr)) (fun _ i _ => l.length - (intOf i).toNat)
  case atStart => exact ⟨0, rfl, by omega, rfl, ⟨Below.refl _ _⟩⟩
  case round =>
    obtain ⟨j, rfl, hj, rfl, HB⟩ := hrel
    have hel := encL_length s (l.take j)
    rw [List.length_take] at hel
    by_cases hlt : j < l.length
    · have hA := HA.out (by omega)
      subst hA
      have hcell := C_int_at (Kd.C_below HC.out HB.out) j hlt
      have hx := Hbd.out _ (List.getElem_mem hlt)
      go_wp2_with fail
      refine (One_ex _ (by omega) (by omega) _).mono ?_
      rintro e w2 ⟨q, hq, rfl, b2⟩
      have HB2 := Aside0.mk (below_then HB.out HB.out.size b2)
      have hqs : q.size ≤ 4 := by have := encodeRune_length (l[j]'hlt); rw [← hq.out] at this; simpa using this
      clear b2 HB hcell
      go_wp2_with fail
      go_loopw [5, 9] (fun o i wi => ∃ (k : Nat), i = .int .i64 k ∧ k ≤ q.size ∧ o = .string ⟨(encL s (l.take j) ++ encP s (l[j]'hlt) q.data.toList k).toArray⟩ ∧ Aside0 (Below w1.heap.size w1 wi)) (fun _ i _ => q.size - (intOf i).toNat)
      case atStart => exact ⟨0, rfl, by omega, by simp [encP], HB2⟩
      case round =>
        obtain ⟨k, rfl, hk, rfl, HB3⟩ := hrel
        have hpl := encP_length s (l[j]'hlt) q.data.toList k
        rw [show q.data.toList.length = q.size by simp] at hpl
        by_cases hlk : k < q.size
        · have hb0 := (q[k]'hlk).toNat_lt
          go_wp2_with fail
          refine (rIn_calls s _ hs0 hs _).mono ?_
          rintro e w3 ⟨rfl, rfl⟩
          cases hin : inSet s (l[j]'hlt)
          · have Hin := Lib.hid hin
            clear hin
            go_wp2_with fail
            refine ⟨⟨k + 1, by go_num, by omega, ?_, HB3⟩, by simp [intOf]; omega⟩
            rw [extract_one q k hlk]
            congr 1
            rw [show (⟨#[q[k]'hlk]⟩ : ByteArray) = ⟨[q[k]'hlk].toArray⟩ from rfl, append_bytes, List.append_assoc]
            congr 3
            rw [encP, encP, if_neg (by rw [Hin.out]; decide), if_neg (by rw [Hin.out]; decide), take_byte q k hlk]
          · have Hin := Lib.hid hin
            clear hin
            go_wp2_with fail
            refine (rByte_calls _ (by omega) (by omega) _).mono ?_
            rintro e w3 ⟨rfl, rfl⟩
            have h3 := byteL_length ((q[k]'hlk).toNat : Int)
            go_wp2_with fail
            refine ⟨⟨k + 1, by go_num, by omega, ?_, HB3⟩, by simp [intOf]; omega⟩
            congr 1
            rw [append_bytes, List.append_assoc]
            congr 3
            rw [encP, encP, if_pos Hin.out, if_pos Hin.out, take_byte q k hlk, List.flatMap_append]
            rfl
        · go_wp2_with fail
          refine ⟨⟨j + 1, by go_num, by omega, ?_, HB3⟩, by simp [intOf]; omega⟩
          congr 3
          rw [encP_all s _ _ k (by simp; omega) hq.out, List.take_succ_eq_append_getElem hlt, encL_snoc]
    · go_wp2_with fail
      go_ret
      refine ⟨ret_string ?_, below_then HB1.out HB1.out.size HB.out⟩
      rw [List.take_of_length_le (by omega), HL.out, encOf]
end Go.Proofs.Ytcillbkedocooaa
