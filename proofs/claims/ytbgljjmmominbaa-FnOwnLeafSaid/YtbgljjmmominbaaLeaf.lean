/- Contracts: the leaf of a list of numbers; where a tree is parted. -/
import Derived.Test.YtbgljjmmominbaaHash
namespace Go.Proofs.Ytbgljjmmominbaa
set_option linter.unusedVariables false
open Go.RowKit Pl

theorem take_step (xs : List Int) (k : Nat) (h : k < xs.length) : leafFold (xs.take (k + 1)) = leafStep (leafFold (xs.take k)) (xs.getD k 0) := by
  rw [List.take_succ_eq_append_getElem h, leafFold_snoc]
  simp [List.getD, List.getElem?_eq_getElem h]
theorem tmod_or (z : Int) : (z.tmod 65521 = z % 65521 ∨ z.tmod 65521 = z % 65521 - 65521) ∧ -65521 < z.tmod 65521 ∧ z.tmod 65521 < 65521 := by
  rcases Int.le_total 0 z with h | h
  · rw [Int.tmod_eq_emod_of_nonneg h]; omega
  · have e : z.tmod 65521 = - ((-z) % 65521) := by
      rw [show z.tmod 65521 = (-(-z)).tmod 65521 by rw [Int.neg_neg], Int.neg_tmod, Int.tmod_eq_emod_of_nonneg (by omega)]
    omega
theorem leaf_neg {y z : Int} (h : z.tmod 65521 < 0) : (y * 4099 + (z.tmod 65521 + 65521) + 11) % 65521 = leafStep y z := by
  have := tmod_or z; unfold leafStep; omega
theorem leaf_pos {y z : Int} (h : 0 ≤ z.tmod 65521) : (y * 4099 + z.tmod 65521 + 11) % 65521 = leafStep y z := by
  have := tmod_or z; unfold leafStep; omega
theorem leaf_both {y z : Int} : (y * 4099 + z.tmod 65521 % 65521 + 11) % 65521 = leafStep y z := by
  have h := tmod_or z
  unfold leafStep; omega

set_option maxHeartbeats 400000 in
theorem MixLeaf_any (A : Option Addr) (n c L : Nat) (xs : List Int) (w : World) (hl : xs.length = n) (hr : RI w L A xs) (hn : n ≤ 2000000) : Calls Try.prog 71 #[.slice A n c] w fun e w' => e = .returned (.int .i64 (mixLeafI xs)) ∧ w = w' := by
  subst hl
  go_enter Try.func71, Try.ntmps71
  go_wp2
  go_loop [3, 8] (fun x i => ∃ k : Nat, k ≤ xs.length ∧ i = .int .i64 k ∧ x = .int .i64 (leafFold (xs.take k))) (fun _ i => xs.length - (intOf i).toNat)
  case atStart => exact ⟨0, by omega, rfl, rfl⟩
  case round =>
    obtain ⟨k, hk, rfl, rfl⟩ := hrel
    obtain ⟨hb0, hb1⟩ := leafFold_rng (xs.take k)
    by_cases hlt : k < xs.length
    · obtain ⟨b, o, rfl, _, _, hcell⟩ := hr.at_ hlt
      have hs := Lib.hid (take_step xs k hlt)
      clear hr
      generalize leafFold (xs.take k) = y at *
      generalize hz : xs.getD k 0 = z at *
      clear hz
      obtain ⟨_, t0, t1⟩ := tmod_or z
      go_wp2
      all_goals
        go_round
        case rel => exact ⟨k + 1, by omega, by go_num, by rw [hs.out]; first | rw [leaf_neg ‹_›] | rw [leaf_pos ‹_›]⟩
        case measure => simp [intOf]; omega
    · obtain rfl : k = xs.length := by omega
      clear hr hb0 hb1
      obtain ⟨hb0, hb1⟩ := leafFold_rng xs
      go_wp2
      go_ret
      exact ⟨rfl, rfl⟩

set_option maxHeartbeats 400000 in
theorem sMixLeaf_any (A : Option Addr) (n c L : Nat) (xs : List Int) (w : World) (hl : xs.length = n) (hr : RI w L A xs) (hn : n ≤ 2000000) : Calls Try.prog 70 #[.slice A n c] w fun e w' => e = .returned (.int .i64 (mixLeafI xs)) ∧ w = w' := by
  subst hl
  go_enter Try.func70, Try.ntmps70
  go_wp2
  go_loop [3, 4] (fun x i => ∃ k : Nat, k ≤ xs.length ∧ i = .int .i64 k ∧ x = .int .i64 (leafFold (xs.take k))) (fun _ i => xs.length - (intOf i).toNat)
  case atStart => exact ⟨0, by omega, rfl, rfl⟩
  case round =>
    obtain ⟨k, hk, rfl, rfl⟩ := hrel
    obtain ⟨hb0, hb1⟩ := leafFold_rng (xs.take k)
    by_cases hlt : k < xs.length
    · obtain ⟨b, o, rfl, _, _, hcell⟩ := hr.at_ hlt
      have hs := Lib.hid (take_step xs k hlt)
      clear hr
      generalize leafFold (xs.take k) = y at *
      generalize hz : xs.getD k 0 = z at *
      clear hz
      obtain ⟨_, t0, t1⟩ := tmod_or z
      go_wp2
      go_round
      case rel => exact ⟨k + 1, by omega, by go_num, by rw [hs.out, ← leaf_both]⟩
      case measure => simp [intOf]; omega
    · obtain rfl : k = xs.length := by omega
      clear hr hb0 hb1
      obtain ⟨hb0, hb1⟩ := leafFold_rng xs
      go_wp2
      go_ret
      exact ⟨rfl, rfl⟩


def treSplitI (n : Int) : Int := if 2 ≤ n ∧ n ≤ 40 then splitI n else 0
end Go.Proofs.Ytbgljjmmominbaa
