/- Contracts of the hashing functions (layer 1), program and reference. -/
import Derived.Test.YtbgljjmmominbaaChecked
import Derived.WalkKit
import Derived.Handy
import Derived.Lib.Hide
import Derived.Deep.QuietTactic
import Derived.BigQuiet
import Derived.Test.YtbgljjmmominbaaPlain
import Derived.Test.YtbgljjmmominbaaMem
namespace Go.Proofs.Ytbgljjmmominbaa
set_option linter.unusedVariables false
open Go.RowKit Pl

def inB (n lo hi : Int) : Bool := decide (lo ≤ n ∧ n ≤ hi)
theorem inB_yes {n lo hi : Int} (a : lo ≤ n) (b : n ≤ hi) : inB n lo hi = true := by simp [inB, a, b]
theorem inB_no {n lo hi : Int} (a : ¬ (lo ≤ n ∧ n ≤ hi)) : inB n lo hi = false := by simp only [inB, decide_eq_false_iff_not]; exact a
theorem inB_fst {n lo hi : Int} (a : lo ≤ n) : inB n lo hi = decide (n ≤ hi) := by simp [inB, a]
theorem inB_ge {n lo hi : Int} (a : n ≤ hi) : inB n lo hi = decide (lo ≤ n) := by simp [inB, a]
theorem inB_ok (n : Int) : inB n 0 65520 = okI n := by
  unfold inB okI
  congr 1
  simp only [eq_iff_iff]
  omega

theorem in_any (n lo hi : Int) (w : World) : Calls Try.prog 84 #[.int .i64 n, .int .i64 lo, .int .i64 hi] w fun e w' => e = .returned (.bool (inB n lo hi)) ∧ w = w' := by
  by_cases h1 : lo ≤ n
  · go_enter Try.func84, Try.ntmps84
    go_wp2
    go_ret
    exact ⟨ret_bool (inB_fst h1).symm, rfl⟩
  · rw [inB_no (by omega)]
    have h3 : n < lo := by omega
    clear h1
    go_enter Try.func84, Try.ntmps84
    go_wp2
    go_ret
    exact ⟨rfl, rfl⟩
theorem l1In_any (n lo hi : Int) (w : World) : Calls Try.prog 72 #[.int .i64 n, .int .i64 lo, .int .i64 hi] w fun e w' => e = .returned (.bool (inB n lo hi)) ∧ w = w' := by
  by_cases h1 : lo ≤ n
  · go_enter Try.func72, Try.ntmps72
    go_wp2
    go_ret
    exact ⟨ret_bool (inB_fst h1).symm, rfl⟩
  · rw [inB_no (by omega)]
    have h3 : n < lo := by omega
    clear h1
    go_enter Try.func72, Try.ntmps72
    go_wp2
    go_ret
    exact ⟨rfl, rfl⟩

theorem MixOk_any (n : Int) (w : World) : Calls Try.prog 57 #[.int .i64 n] w fun e w' => e = .returned (.bool (okI n)) ∧ w = w' := by
  rw [← inB_ok]
  go_enter Try.func57, Try.ntmps57
  go_wp2_with (go_at_call 84; refine (in_any _ _ _ _).mono ?_; rintro e w' ⟨rfl, rfl⟩)
  go_ret
  exact ⟨rfl, rfl⟩
