/- Contracts of the hashing functions (layer 1), program and reference. -/
import Derived.Test.YtjacddjmconfaaaChecked
import Derived.WalkKit
import Derived.Handy
import Derived.Lib.Hide
import Derived.Deep.QuietTactic
import Derived.BigQuiet
import Derived.Test.YtjacddjmconfaaaPlain
import Derived.Test.YtjacddjmconfaaaMem
namespace Go.Proofs.Ytjacddjmconfaaa
set_option linter.unusedVariables false
open Go.RowKit Pl

def inB (n lo hi : Int) : Bool := decide (lo ≤ n ∧ n ≤ hi)
theorem inB_yes {n lo hi : Int} (a : lo ≤ n) (b : n ≤ hi) : inB n lo hi = true := by simp [inB, a, b]
theorem inB_no {n lo hi : Int} (a : ¬ (lo ≤ n ∧ n ≤ hi)) : inB n lo hi = false := by simp only [inB, decide_eq_false_iff_not]; exact a
theorem inB_fst {n lo hi : Int} (a : lo ≤ n) : inB n lo hi = decide (n ≤ hi) := by simp [inB, a]
theorem inB_ge {n lo hi : Int} (a : n ≤ hi) : inB n lo hi = decide (lo ≤ n) := by simp [inB, a]
theorem inB_ok (n : Int) : inB n 0 65520 = okI n := by
  unfold inB okI
  congr 1
  simp only [eq_iff_iff]
  omega

theorem in_any (n lo hi : Int) (w : World) : Calls Try.prog 56 #[.int .i64 n, .int .i64 lo, .int .i64 hi] w fun e w' => e = .returned (.bool (inB n lo hi)) ∧ w = w' := by
  by_cases h1 : lo ≤ n
  · go_enter Try.func56, Try.ntmps56
    go_wp2
    go_ret
    exact ⟨ret_bool (inB_fst h1).symm, rfl⟩
  · rw [inB_no (by omega)]
    have h3 : n < lo := by omega
    clear h1
    go_enter Try.func56, Try.ntmps56
    go_wp2
    go_ret
    exact ⟨rfl, rfl⟩
theorem l1In_any (n lo hi : Int) (w : World) : Calls Try.prog 54 #[.int .i64 n, .int .i64 lo, .int .i64 hi] w fun e w' => e = .returned (.bool (inB n lo hi)) ∧ w = w' := by
  by_cases h1 : lo ≤ n
  · go_enter Try.func54, Try.ntmps54
    go_wp2
    go_ret
    exact ⟨ret_bool (inB_fst h1).symm, rfl⟩
  · rw [inB_no (by omega)]
    have h3 : n < lo := by omega
    clear h1
    go_enter Try.func54, Try.ntmps54
    go_wp2
    go_ret
    exact ⟨rfl, rfl⟩

theorem MixOk_any (n : Int) (w : World) : Calls Try.prog 51 #[.int .i64 n] w fun e w' => e = .returned (.bool (okI n)) ∧ w = w' := by
  rw [← inB_ok]
  go_enter Try.func51, Try.ntmps51
  go_wp2_with (go_at_call 56; refine (in_any _ _ _ _).mono ?_; rintro e w' ⟨rfl, rfl⟩)
  go_ret
  exact ⟨rfl, rfl⟩

theorem sMixOk_any (n : Int) (w : World) : Calls Try.prog 48 #[.int .i64 n] w fun e w' => e = .returned (.bool (okI n)) ∧ w = w' := by
  rw [← inB_ok]
  go_enter Try.func48, Try.ntmps48
  go_wp2_with (go_at_call 54; refine (l1In_any _ _ _ _).mono ?_; rintro e w' ⟨rfl, rfl⟩)
  go_ret
  exact ⟨rfl, rfl⟩

theorem pair_any (a b : Int) (w : World) (a0 : 0 ≤ a) (a1 : a < 65521) (b0 : 0 ≤ b) (b1 : b < 65521) : Calls Try.prog 81 #[.int .i64 a, .int .i64 b] w fun e w' => e = .returned (.int .i64 (pairI a b)) ∧ w = w' := by
  have hm := mul_hi a0 a1 b0 b1
  obtain ⟨m0, m1⟩ := hm
  go_enter Try.func81, Try.ntmps81
  go_wp2
  go_ret
  exact ⟨rfl, rfl⟩

theorem sMixPair_yes (a b : Int) (w : World) (ha : okI a = true) (hb : okI b = true) : Calls Try.prog 80 #[.int .i64 a, .int .i64 b] w fun e w' => e = .returned (.int .i64 (pairI a b)) ∧ w = w' := by
  obtain ⟨a0, a1⟩ := okI_iff.1 ha
  obtain ⟨b0, b1⟩ := okI_iff.1 hb
  obtain ⟨m0, m1⟩ := mul_hi a0 a1 b0 b1
  go_enter Try.func80, Try.ntmps80
  go_wp2_with (first | (go_at_call 48; refine (sMixOk_any _ _).mono ?_; rintro e w' ⟨rfl, rfl⟩))
  go_ret
  exact ⟨ret_int (by unfold pairI; omega), rfl⟩
theorem sMixPair_no (a b : Int) (w : World) (h : ¬ (okI a = true ∧ okI b = true)) : Calls Try.prog 80 #[.int .i64 a, .int .i64 b] w fun e w' => e = .returned (.int .i64 0) ∧ w = w' := by
  have h' : okI a = false ∨ (okI a = true ∧ okI b = false) := by
    cases ha : okI a <;> cases hb : okI b <;> simp_all
  clear h
  rcases h' with ha | ⟨ha, hb⟩
  all_goals
    go_enter Try.func80, Try.ntmps80
    go_wp2_with (go_at_call 48; refine (sMixOk_any _ _).mono ?_; rintro e w' ⟨rfl, rfl⟩)
    go_ret
    exact ⟨rfl, rfl⟩
theorem sMixPair_any (a b : Int) (w : World) : Calls Try.prog 80 #[.int .i64 a, .int .i64 b] w fun e w' => e = .returned (.int .i64 (mixPairI a b)) ∧ w = w' := by
  unfold mixPairI
  by_cases h : okI a = true ∧ okI b = true
  · rw [if_pos h]; exact sMixPair_yes a b w h.1 h.2
  · rw [if_neg h]; exact sMixPair_no a b w h
end Go.Proofs.Ytjacddjmconfaaa
