/- Contracts: price caps and entries' kinds (layer 4, numbers alone). -/
import Derived.Test.YtbgljjmmominbaaHash
namespace Go.Proofs.Ytbgljjmmominbaa
set_option linter.unusedVariables false
open Go.RowKit Pl

def capI (f : Int) : Int := if inB f 1 50 = true then f + f / 5 else 0
theorem capI_yes {f : Int} (h : inB f 1 50 = true) : capI f = f + f / 5 := by unfold capI; rw [if_pos h]
theorem capI_no {f : Int} (h : inB f 1 50 = false) : capI f = 0 := by unfold capI; rw [if_neg (by simp [h])]
theorem inB_both {n lo hi : Int} (h : inB n lo hi = true) : lo ≤ n ∧ n ≤ hi := by simpa [inB] using h
theorem isFace_any (n : Int) (w : World) : Calls Try.prog 76 #[.int .i64 n] w fun e w' => e = .returned (.bool (inB n 1 50)) ∧ w = w' := by
  go_enter Try.func76, Try.ntmps76
  go_wp2_with (go_at_call 84; refine (in_any _ _ _ _).mono ?_; rintro e w' ⟨rfl, rfl⟩)
  go_ret
  exact ⟨rfl, rfl⟩
theorem isTicket_any (n : Int) (w : World) : Calls Try.prog 73 #[.int .i64 n] w fun e w' => e = .returned (.bool (inB n 0 7)) ∧ w = w' := by
  go_enter Try.func73, Try.ntmps73
  go_wp2_with (go_at_call 84; refine (in_any _ _ _ _).mono ?_; rintro e w' ⟨rfl, rfl⟩)
  go_ret
  exact ⟨rfl, rfl⟩
theorem isUser_any (n : Int) (w : World) : Calls Try.prog 75 #[.int .i64 n] w fun e w' => e = .returned (.bool (inB n 1 5)) ∧ w = w' := by
  go_enter Try.func75, Try.ntmps75
  go_wp2_with (go_at_call 84; refine (in_any _ _ _ _).mono ?_; rintro e w' ⟨rfl, rfl⟩)
  go_ret
  exact ⟨rfl, rfl⟩
theorem EntCap_any (f : Int) (w : World) : Calls Try.prog 53 #[.int .i64 f] w fun e w' => e = .returned (.int .i64 (capI f)) ∧ w = w' := by
  cases h : inB f 1 50
  · rw [capI_no h]
    go_enter Try.func53, Try.ntmps53
    go_wp2_with (go_at_call 76; refine (isFace_any _ _).mono ?_; rintro e w' ⟨rfl, rfl⟩)
    go_ret
    exact ⟨rfl, rfl⟩
  · rw [capI_yes h]
    obtain ⟨h1, h2⟩ := inB_both h
    go_enter Try.func53, Try.ntmps53
    go_wp2_with (go_at_call 76; refine (isFace_any _ _).mono ?_; rintro e w' ⟨rfl, rfl⟩)
    go_ret
    exact ⟨rfl, rfl⟩
theorem sEntCap_any (f : Int) (w : World) : Calls Try.prog 54 #[.int .i64 f] w fun e w' => e = .returned (.int .i64 (capI f)) ∧ w = w' := by
  cases h : inB f 1 50
  · rw [capI_no h]
    go_enter Try.func54, Try.ntmps54
    go_wp2_with (go_at_call 72; refine (l1In_any _ _ _ _).mono ?_; rintro e w' ⟨rfl, rfl⟩)
    go_ret
    exact ⟨rfl, rfl⟩
  · rw [capI_yes h]
    obtain ⟨h1, h2⟩ := inB_both h
    go_enter Try.func54, Try.ntmps54
    go_wp2_with (go_at_call 72; refine (l1In_any _ _ _ _).mono ?_; rintro e w' ⟨rfl, rfl⟩)
    go_ret
    exact ⟨rfl, rfl⟩
end Go.Proofs.Ytbgljjmmominbaa
