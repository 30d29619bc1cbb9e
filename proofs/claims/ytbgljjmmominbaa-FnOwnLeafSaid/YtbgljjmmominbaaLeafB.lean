/- Contracts: leaves of entries and rows; whether a proof shows a row. -/
import Derived.Test.YtbgljjmmominbaaEntB
namespace Go.Proofs.Ytbgljjmmominbaa
set_option linter.unusedVariables false
open Go.RowKit Pl
theorem ri_lit4 (w : World) (H : Nat) (a b c d : Int) (hH : w.heap.size = H) : RI (w.alloc (.cells #[.int .i64 a, .int .i64 b, .int .i64 c, .int .i64 d] 3)) 0 (some ⟨H, 0, none⟩) [a, b, c, d] := by
  subst hH
  exact RK.of_own (own_lit w 0 [a, b, c, d] _ (Nat.zero_le _) rfl (by simp))
def ownLeaf (t u f : Int) (b : Bool) : Int := if inB t 0 7 = true then mixLeafI [1000 + t, u, f, if b then 1 else 0] else 0
theorem inB_low {t : Int} (h : inB t 0 7 = true) : 0 ≤ t ∧ t ≤ 7 := inB_both h
theorem EntLeaf_any (k t u p : Int) (w : World) : Calls Try.prog 21 #[.agg #[.int .i64 k, .int .i64 t, .int .i64 u, .int .i64 p]] w fun e w' => e = .returned (.int .i64 (mixLeafI [k, t, u, p])) ∧ Below w.heap.size w w' := by
  go_enter Try.func21, Try.ntmps21
  go_wp2_with (go_at_call 71; refine Calls.mono (MixLeaf_any _ _ _ 0 [k, t, u, p] _ rfl (ri_lit4 _ _ _ _ _ _ (by simp)) (by omega)) ?_; rintro e w' ⟨rfl, rfl⟩)
  go_ret
  exact ⟨rfl, by go_grown⟩
theorem OwnLeaf_any (t u f : Int) (b : Bool) (w : World) : Calls Try.prog 24 #[.int .i64 t, .agg #[.int .i64 u, .int .i64 f, .bool b]] w fun e w' => e = .returned (.int .i64 (ownLeaf t u f b)) ∧ Below w.heap.size w w' := by
  cases hT : inB t 0 7
  · have hv : ownLeaf t u f b = 0 := by simp [ownLeaf, hT]
    rw [hv]
    go_enter Try.func24, Try.ntmps24
    go_wp2_with (go_at_call 73; refine (isTicket_any _ _).mono ?_; rintro e w' ⟨rfl, rfl⟩)
    go_ret
    exact ⟨rfl, by go_grown⟩
  · obtain ⟨t0, t7⟩ := inB_low hT
    cases b
    · have hv : ownLeaf t u f false = mixLeafI [1000 + t, u, f, 0] := by simp [ownLeaf, hT]
      rw [hv]
      clear hv
      go_enter Try.func24, Try.ntmps24
      go_wp2_with (first | (go_at_call 73; refine (isTicket_any _ _).mono ?_; rintro e w' ⟨rfl, rfl⟩) | (go_at_call 71; refine Calls.mono (MixLeaf_any _ _ _ 0 [1000 + t, u, f, 0] _ rfl (ri_lit4 _ _ _ _ _ _ (by simp)) (by omega)) ?_; rintro e w' ⟨rfl, rfl⟩))
      go_ret
      exact ⟨rfl, by go_grown⟩
    · have hv : ownLeaf t u f true = mixLeafI [1000 + t, u, f, 1] := by simp [ownLeaf, hT]
      rw [hv]
      clear hv
      go_enter Try.func24, Try.ntmps24
      go_wp2_with (first | (go_at_call 73; refine (isTicket_any _ _).mono ?_; rintro e w' ⟨rfl, rfl⟩) | (go_at_call 71; refine Calls.mono (MixLeaf_any _ _ _ 0 [1000 + t, u, f, 1] _ rfl (ri_lit4 _ _ _ _ _ _ (by simp)) (by omega)) ?_; rintro e w' ⟨rfl, rfl⟩))
      go_ret
      exact ⟨rfl, by go_grown⟩
theorem sEntLeaf_any (k t u p : Int) (w : World) : Calls Try.prog 19 #[.agg #[.int .i64 k, .int .i64 t, .int .i64 u, .int .i64 p]] w fun e w' => e = .returned (.int .i64 (mixLeafI [k, t, u, p])) ∧ Below w.heap.size w w' := by
  go_enter Try.func19, Try.ntmps19
  go_wp2_with (go_at_call 70; refine Calls.mono (sMixLeaf_any _ _ _ 0 [k, t, u, p] _ rfl (ri_lit4 _ _ _ _ _ _ (by simp)) (by omega)) ?_; rintro e w' ⟨rfl, rfl⟩)
  go_ret
  exact ⟨rfl, by go_grown⟩
theorem sOwnLeaf_any (t u f : Int) (b : Bool) (w : World) : Calls Try.prog 22 #[.int .i64 t, .agg #[.int .i64 u, .int .i64 f, .bool b]] w fun e w' => e = .returned (.int .i64 (ownLeaf t u f b)) ∧ Below w.heap.size w w' := by
  cases hT : inB t 0 7
  · have hv : ownLeaf t u f b = 0 := by simp [ownLeaf, hT]
    rw [hv]
    go_enter Try.func22, Try.ntmps22
    go_wp2_with (go_at_call 72; refine (l1In_any _ _ _ _).mono ?_; rintro e w' ⟨rfl, rfl⟩)
    go_ret
    exact ⟨rfl, by go_grown⟩
  · obtain ⟨t0, t7⟩ := inB_low hT
    cases b
    · have hv : ownLeaf t u f false = mixLeafI [1000 + t, u, f, 0] := by simp [ownLeaf, hT]
      rw [hv]
      clear hv
      go_enter Try.func22, Try.ntmps22
      go_wp2_with (first | (go_at_call 72; refine (l1In_any _ _ _ _).mono ?_; rintro e w' ⟨rfl, rfl⟩) | (go_at_call 70; refine Calls.mono (sMixLeaf_any _ _ _ 0 [1000 + t, u, f, 0] _ rfl (ri_lit4 _ _ _ _ _ _ (by simp)) (by omega)) ?_; rintro e w' ⟨rfl, rfl⟩))
      go_ret
      exact ⟨rfl, by go_grown⟩
    · have hv : ownLeaf t u f true = mixLeafI [1000 + t, u, f, 1] := by simp [ownLeaf, hT]
      rw [hv]
      clear hv
      go_enter Try.func22, Try.ntmps22
      go_wp2_with (first | (go_at_call 72; refine (l1In_any _ _ _ _).mono ?_; rintro e w' ⟨rfl, rfl⟩) | (go_at_call 70; refine Calls.mono (sMixLeaf_any _ _ _ 0 [1000 + t, u, f, 1] _ rfl (ri_lit4 _ _ _ _ _ _ (by simp)) (by omega)) ?_; rintro e w' ⟨rfl, rfl⟩))
      go_ret
      exact ⟨rfl, by go_grown⟩
end Go.Proofs.Ytbgljjmmominbaa
