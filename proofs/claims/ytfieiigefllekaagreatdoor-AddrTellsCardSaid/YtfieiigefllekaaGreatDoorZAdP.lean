/- Addresses that a text is: plain Lean. -/
import Derived.Test.YtfieiigefllekaaGreatDoorJK
import Derived.Test.YtfieiigefllekaaGreatDoorZAd1
namespace Go.Proofs.YtfieiigefllekaaGreatDoor
open Go.RowKit Go.Proofs.YtfieiigefllekaaGreatDoorW.PrintWords

theorem docL_bd (l : List UInt8) (xs : List Int) (h : docL l = some xs) : xs.length = 8 ∧ ∀ x ∈ xs, 0 ≤ x ∧ x ≤ 65535 := by
  rw [docL] at h
  split at h
  · split at h
    · cases h
    · rename_i q hq
      split at h
      · rename_i h8
        obtain rfl := Option.some.inj h
        exact ⟨h8, listD_bd _ _ _ hq⟩
      · cases h
  · split at h
    · rename_i p r hp hr
      split at h
      · rename_i h7
        obtain rfl := Option.some.inj h
        refine ⟨by simp; omega, fun x hx => ?_⟩
        rcases List.mem_append.1 hx with hx | hx
        · rcases List.mem_append.1 hx with hx | hx
          · exact listD_bd _ _ _ hp x hx
          · rw [(List.mem_replicate.1 hx).2]
            omega
        · exact listD_bd _ _ _ hr x hx
      · cases h
    · cases h
theorem half4_bd (l : List Int) (hl : l.length = 4) (hb : ∀ x ∈ l, 0 ≤ x ∧ x ≤ 65535) : 0 ≤ half l ∧ half l < 18446744073709551616 := by
  have := half_take l hb 4
  rwa [List.take_of_length_le (by omega)] at this
theorem six_bd (l : List UInt8) : (0 ≤ sixHi l ∧ sixHi l < 18446744073709551616) ∧ 0 ≤ sixLo l ∧ sixLo l < 18446744073709551616 := by
  cases h : sixL l with
  | none =>
    obtain ⟨h1, h2, _⟩ := six_none h
    rw [h1, h2]
    omega
  | some xs =>
    obtain ⟨h1, h2, _⟩ := six_some h
    rw [six_doc] at h
    obtain ⟨h8, hb⟩ := docL_bd l xs h
    rw [h1, h2]
    exact ⟨half4_bd _ (by rw [List.length_take]; omega) fun x hx => hb x (List.mem_of_mem_take hx), half4_bd _ (by rw [List.length_drop]; omega) fun x hx => hb x (List.mem_of_mem_drop hx)⟩
/-- The address that a text is. -/
def adOf (l : List UInt8) : Option (Bool × Int × Int) := if strictOk l = true then some (false, 0, strictN l) else if sixOk l = true then some (true, sixHi l, sixLo l) else none
def adVo : Option (Bool × Int × Int) → Value
  | none => .nilIface
  | some a => adV a
/-- An address as the document's. -/
def refV : Option (Bool × Int × Int) → Value
  | none => .agg #[.bool false, .int .u64 0, .int .u64 0]
  | some a => .agg #[.bool a.1, .int .u64 (adHi a), .int .u64 (adLo a)]
theorem adOf_ok (l : List UInt8) (a : Bool × Int × Int) (h : adOf l = some a) : adOk a := by
  rw [adOf] at h
  split at h
  · obtain rfl := Option.some.inj h
    rcases strict_val l with ⟨_, _, h3⟩ | ⟨n, hn, _, _, h3, _⟩ <;> rw [h3] <;> exact ⟨rfl, by omega, by omega⟩
  · split at h
    · obtain rfl := Option.some.inj h
      exact six_bd l
    · cases h
end Go.Proofs.YtfieiigefllekaaGreatDoor
