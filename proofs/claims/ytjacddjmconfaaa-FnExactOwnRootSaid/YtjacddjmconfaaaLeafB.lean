/- Contracts: leaves of entries and rows; whether a proof shows a row. -/
import Derived.Test.YtjacddjmconfaaaEntB
namespace Go.Proofs.Ytjacddjmconfaaa
set_option linter.unusedVariables false
open Go.RowKit Pl
theorem ri_lit4 (w : World) (H : Nat) (a b c d : Int) (hH : w.heap.size = H) : RI (w.alloc (.cells #[.int .i64 a, .int .i64 b, .int .i64 c, .int .i64 d] 3)) 0 (some ⟨H, 0, none⟩) [a, b, c, d] := by
  subst hH
  exact RK.of_own (own_lit w 0 [a, b, c, d] _ (Nat.zero_le _) rfl (by simp))
def ownLeaf (t u f : Int) (b : Bool) : Int := if inB t 0 7 = true then mixLeafI [1000 + t, u, f, if b then 1 else 0] else 0
theorem inB_low {t : Int} (h : inB t 0 7 = true) : 0 ≤ t ∧ t ≤ 7 := inB_both h
theorem OwnLeaf_any (t u f : Int) (b : Bool) (w : World) : Calls Try.prog 68 #[.int .i64 t, .agg #[.int .i64 u, .int .i64 f, .bool b]] w fun e w' => e = .returned (.int .i64 (ownLeaf t u f b)) ∧ Below w.heap.size w w' := by
  cases hT : inB t 0 7
  · have hv : ownLeaf t u f b = 0 := by simp [ownLeaf, hT]
    rw [hv]
    go_enter Try.func68, Try.ntmps68
    go_wp2_with (go_at_call 67; refine (isTicket_any _ _).mono ?_; rintro e w' ⟨rfl, rfl⟩)
    go_ret
    exact ⟨rfl, by go_grown⟩
  · obtain ⟨t0, t7⟩ := inB_low hT
    cases b
    · have hv : ownLeaf t u f false = mixLeafI [1000 + t, u, f, 0] := by simp [ownLeaf, hT]
      rw [hv]
      clear hv
      go_enter Try.func68, Try.ntmps68
      go_wp2_with (first | (go_at_call 67; refine (isTicket_any _ _).mono ?_; rintro e w' ⟨rfl, rfl⟩) | (go_at_call 17; refine Calls.mono (MixLeaf_any _ _ _ 0 [1000 + t, u, f, 0] _ rfl (ri_lit4 _ _ _ _ _ _ (by simp)) (by omega)) ?_; rintro e w' ⟨rfl, rfl⟩))
      go_ret
      exact ⟨rfl, by go_grown⟩
    · have hv : ownLeaf t u f true = mixLeafI [1000 + t, u, f, 1] := by simp [ownLeaf, hT]
      rw [hv]
      clear hv
      go_enter Try.func68, Try.ntmps68
      go_wp2_with (first | (go_at_call 67; refine (isTicket_any _ _).mono ?_; rintro e w' ⟨rfl, rfl⟩) | (go_at_call 17; refine Calls.mono (MixLeaf_any _ _ _ 0 [1000 + t, u, f, 1] _ rfl (ri_lit4 _ _ _ _ _ _ (by simp)) (by omega)) ?_; rintro e w' ⟨rfl, rfl⟩))
      go_ret
      exact ⟨rfl, by go_grown⟩
theorem sOwnLeaf_any (t u f : Int) (b : Bool) (w : World) : Calls Try.prog 66 #[.int .i64 t, .agg #[.int .i64 u, .int .i64 f, .bool b]] w fun e w' => e = .returned (.int .i64 (ownLeaf t u f b)) ∧ Below w.heap.size w w' := by
  cases hT : inB t 0 7
  · have hv : ownLeaf t u f b = 0 := by simp [ownLeaf, hT]
    rw [hv]
    go_enter Try.func66, Try.ntmps66
    go_wp2_with (go_at_call 54; refine (l1In_any _ _ _ _).mono ?_; rintro e w' ⟨rfl, rfl⟩)
    go_ret
    exact ⟨rfl, by go_grown⟩
  · obtain ⟨t0, t7⟩ := inB_low hT
    cases b
    · have hv : ownLeaf t u f false = mixLeafI [1000 + t, u, f, 0] := by simp [ownLeaf, hT]
      rw [hv]
      clear hv
      go_enter Try.func66, Try.ntmps66
      go_wp2_with (first | (go_at_call 54; refine (l1In_any _ _ _ _).mono ?_; rintro e w' ⟨rfl, rfl⟩) | (go_at_call 15; refine Calls.mono (sMixLeaf_any _ _ _ 0 [1000 + t, u, f, 0] _ rfl (ri_lit4 _ _ _ _ _ _ (by simp)) (by omega)) ?_; rintro e w' ⟨rfl, rfl⟩))
      go_ret
      exact ⟨rfl, by go_grown⟩
    · have hv : ownLeaf t u f true = mixLeafI [1000 + t, u, f, 1] := by simp [ownLeaf, hT]
      rw [hv]
      clear hv
      go_enter Try.func66, Try.ntmps66
      go_wp2_with (first | (go_at_call 54; refine (l1In_any _ _ _ _).mono ?_; rintro e w' ⟨rfl, rfl⟩) | (go_at_call 15; refine Calls.mono (sMixLeaf_any _ _ _ 0 [1000 + t, u, f, 1] _ rfl (ri_lit4 _ _ _ _ _ _ (by simp)) (by omega)) ?_; rintro e w' ⟨rfl, rfl⟩))
      go_ret
      exact ⟨rfl, by go_grown⟩
end Go.Proofs.Ytjacddjmconfaaa
