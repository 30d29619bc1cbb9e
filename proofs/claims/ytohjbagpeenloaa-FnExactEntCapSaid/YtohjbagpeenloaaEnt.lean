/- Contracts: price caps and entries' kinds (layer 4, numbers alone). -/
import Derived.Test.YtohjbagpeenloaaHash
namespace Go.Proofs.Ytohjbagpeenloaa
set_option linter.unusedVariables false
open Go.RowKit Pl

def capI (f : Int) : Int := if inB f 1 50 = true then f + f / 5 else 0
theorem capI_yes {f : Int} (h : inB f 1 50 = true) : capI f = f + f / 5 := by unfold capI; rw [if_pos h]
theorem capI_no {f : Int} (h : inB f 1 50 = false) : capI f = 0 := by unfold capI; rw [if_neg (by simp [h])]
theorem inB_both {n lo hi : Int} (h : inB n lo hi = true) : lo ≤ n ∧ n ≤ hi := by simpa [inB] using h
theorem isFace_any (n : Int) (w : World) : Calls Try.prog 24 #[.int .i64 n] w fun e w' => e = .returned (.bool (inB n 1 50)) ∧ w = w' := by
  go_enter Try.func24, Try.ntmps24
  go_wp2_with (go_at_call 23; refine (in_any _ _ _ _).mono ?_; rintro e w' ⟨rfl, rfl⟩)
  go_ret
  exact ⟨rfl, rfl⟩
theorem EntCap_any (f : Int) (w : World) : Calls Try.prog 12 #[.int .i64 f] w fun e w' => e = .returned (.int .i64 (capI f)) ∧ w = w' := by
  cases h : inB f 1 50
  · rw [capI_no h]
    go_enter Try.func12, Try.ntmps12
    go_wp2_with (go_at_call 24; refine (isFace_any _ _).mono ?_; rintro e w' ⟨rfl, rfl⟩)
    go_ret
    exact ⟨rfl, rfl⟩
  · rw [capI_yes h]
    obtain ⟨h1, h2⟩ := inB_both h
    go_enter Try.func12, Try.ntmps12
    go_wp2_with (go_at_call 24; refine (isFace_any _ _).mono ?_; rintro e w' ⟨rfl, rfl⟩)
    go_ret
    exact ⟨rfl, rfl⟩
theorem sEntCap_any (f : Int) (w : World) : Calls Try.prog 11 #[.int .i64 f] w fun e w' => e = .returned (.int .i64 (capI f)) ∧ w = w' := by
  cases h : inB f 1 50
  · rw [capI_no h]
    go_enter Try.func11, Try.ntmps11
    go_wp2_with (go_at_call 22; refine (l1In_any _ _ _ _).mono ?_; rintro e w' ⟨rfl, rfl⟩)
    go_ret
    exact ⟨rfl, rfl⟩
  · rw [capI_yes h]
    obtain ⟨h1, h2⟩ := inB_both h
    go_enter Try.func11, Try.ntmps11
    go_wp2_with (go_at_call 22; refine (l1In_any _ _ _ _).mono ?_; rintro e w' ⟨rfl, rfl⟩)
    go_ret
    exact ⟨rfl, rfl⟩
end Go.Proofs.Ytohjbagpeenloaa
