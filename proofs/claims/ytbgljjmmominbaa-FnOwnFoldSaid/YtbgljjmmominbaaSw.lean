/- Contracts: two rows of structs that read the same are told to be the same. -/
import Derived.Test.YtbgljjmmominbaaOf
import Derived.Test.YtbgljjmmominbaaSame
namespace Go.Proofs.Ytbgljjmmominbaa
set_option linter.unusedVariables false
open Go.RowKit
set_option maxHeartbeats 1000000 in
theorem swEntries_same (A B : Option Addr) (n c d L M : Nat) (xs : List Ent) (w : World) (hl : xs.length = n) (hn : n ≤ 2000000) (ha : RV w L A (flatE xs)) (hb : RV w M B (flatE xs)) : Calls Try.prog 59 #[.slice A n c, .slice B n d] w fun e w' => e = .returned (.bool true) ∧ ∃ k, w' = w.drewN k := by
  have HL := Lib.hid hl
  have HA := Lib.hid ha
  have HB := Lib.hid hb
  clear hl ha hb
  go_enter Try.func59, Try.ntmps59
  go_wp2_with fail
  go_loopw [5] (fun i wr => ∃ k m : Nat, k ≤ n ∧ i = .int .i64 k ∧ wr = w.drewN m) (fun i _ => n - (intOf i).toNat)
  case atStart => exact ⟨0, 0, by omega, rfl, rfl⟩
  case round =>
    obtain ⟨k, m, hk, rfl, rfl⟩ := hrel
    by_cases hlt : k < n
    · obtain ⟨b, o, rfl, _, _, h1, h2, h3, h4⟩ := HA.out.atE (j := k) (by rw [HL.out]; exact hlt)
      obtain ⟨b2, o2, rfl, _, _, g1, g2, g3, g4⟩ := HB.out.atE (j := k) (by rw [HL.out]; exact hlt)
      generalize xs.getD k e0 = z at *
      have p0 : (0 : Int) ≤ (k : Int) := by omega
      have p1 : (k : Int) < (n : Int) := by omega
      go_wp2_with fail
      go_quiet (fail)
      go_wp2_with fail
      go_roundw
      case rel => exact ⟨k + 1, _, by omega, by go_num, rfl⟩
      case measure => simp [intOf]; omega
    · go_wp2_with fail
      go_ret
      exact ⟨rfl, m, rfl⟩
set_option maxHeartbeats 1000000 in
theorem swRows_same (A B : Option Addr) (n c d L M : Nat) (xs : List Orow) (w : World) (hl : xs.length = n) (hn : n ≤ 2000000) (ha : RV w L A (flatR xs)) (hb : RV w M B (flatR xs)) : Calls Try.prog 68 #[.slice A n c, .slice B n d] w fun e w' => e = .returned (.bool true) ∧ ∃ k, w' = w.drewN k := by
  have HL := Lib.hid hl
  have HA := Lib.hid ha
  have HB := Lib.hid hb
  clear hl ha hb
  go_enter Try.func68, Try.ntmps68
  go_wp2_with fail
  go_loopw [5] (fun i wr => ∃ k m : Nat, k ≤ n ∧ i = .int .i64 k ∧ wr = w.drewN m) (fun i _ => n - (intOf i).toNat)
  case atStart => exact ⟨0, 0, by omega, rfl, rfl⟩
  case round =>
    obtain ⟨k, m, hk, rfl, rfl⟩ := hrel
    by_cases hlt : k < n
    · obtain ⟨b, o, rfl, _, _, h1, h2, h3⟩ := HA.out.atR (j := k) (by rw [HL.out]; exact hlt)
      obtain ⟨b2, o2, rfl, _, _, g1, g2, g3⟩ := HB.out.atR (j := k) (by rw [HL.out]; exact hlt)
      generalize xs.getD k r0 = z at *
      have p0 : (0 : Int) ≤ (k : Int) := by omega
      have p1 : (k : Int) < (n : Int) := by omega
      go_wp2_with fail
      go_quiet (fail)
      go_wp2_with fail
      go_roundw
      case rel => exact ⟨k + 1, _, by omega, by go_num, rfl⟩
      case measure => simp [intOf]; omega
    · go_wp2_with fail
      go_ret
      exact ⟨rfl, m, rfl⟩
end Go.Proofs.Ytbgljjmmominbaa
