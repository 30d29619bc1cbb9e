/- THE STATEMENT FnExactEntOkSaid: for every input the law returns true and its arguments read as they did; no condition. -/
import Derived.Test.YtjacddjmconfaaaRow
import Derived.Test.YtjacddjmconfaaaWFnExactEntOk
import Derived.Lib.SmallJoins
namespace Go.Proofs.Ytjacddjmconfaaa.fnExactEntOk
open Go.ChangeShapes Go.WideShapes Go.ChangeAt Go.RowKit
open Go.ChangeMaps (open_string shut_string)
set_option linter.unusedVariables false

set_option maxRecDepth 100000 in
theorem lifted (os : Os) (started : os.Started) (H : Type) (enc : TypeId × Value → H) :
    ReturnsInHanded {} Try.checked os 14 .any (Rows.fnExactEntOkSpec.pre6 enc Try.prog Try.f14 Rows.fnExactEntOkRow.domain false) (Rows.fnExactEntOkSpec.post enc Try.prog Try.f14 false true false false) := by
  refine returnsInHanded_of_change (C := Try.checked) own started (by kernel_rfl) Try.func14
    (ChangeSpec.witness6 (enc := enc) (C := Try.checked) false ⟨#[], #[.agg #[.int .i64 0, .int .i64 0, .int .i64 0, .int .i64 0]], []⟩ 8 (by kernel_rfl) (by kernel_rfl) (by kernel_rfl) (by kernel_rfl)) ?_
  intro W base args ds gs before hval0 hW hcnd _
  have hval : ∀ (j : Nat) t v, Try.f14.params[j]? = some t → args[j]? = some v → Value.okWide Try.prog W .any base t v := hval0
  have hW' := hW
  obtain ⟨p, q, hA0, hV, rfl, hfz, hnd⟩ := hW
  have hA : DataW.TrodAll enc Try.prog W 0 (fun _ => true) true Try.f14.params.toList args.toList ds p := hA0
  rw [Try.params14] at hA hval
  obtain ⟨v0, vs0, d0, ds0, p0, q0, hargs, rfl, rfl, h0, r0⟩ := trodAll_cons hA
  obtain ⟨rfl, rfl, rfl⟩ := trodAll_nil r0
  obtain rfl : args = #[v0] := by cases args; simp_all
  obtain ⟨rfl, rfl⟩ := trodVars_none hV
  have k0 := h0
  have lt0 : ∀ x ∈ p0, x.block < W.heap.size := by obtain ⟨m, hm⟩ := k0; exact DataW.trod_lt m _ _ _ hm
  obtain ⟨v0k, v0t, v0u, v0p, y0k, y0t, y0u, y0p, n0, rfl, rfl, rfl, t0k, t0t, t0u, t0p⟩ := Go.Joins.open_agg4 Try.underlying50 (by kernel_rfl) (by kernel_rfl) (hval 0 50 _ rfl rfl) h0
  obtain ⟨a0k, hk0k, _, w0k⟩ := DataW.trod_int (k := .i64) Try.underlying3 t0k
  injection hk0k with hk0k _; subst hk0k
  obtain ⟨a0t, hk0t, _, w0t⟩ := DataW.trod_int (k := .i64) Try.underlying3 t0t
  injection hk0t with hk0t _; subst hk0t
  obtain ⟨a0u, hk0u, _, w0u⟩ := DataW.trod_int (k := .i64) Try.underlying3 t0u
  injection hk0u with hk0u _; subst hk0u
  obtain ⟨a0p, hk0p, _, w0p⟩ := DataW.trod_int (k := .i64) Try.underlying3 t0p
  injection hk0p with hk0p _; subst hk0p
  clear hA0 hval0
  refine (walkFnExactEntOk a0k a0t a0u a0p W ⟨w0k, w0t, w0u, w0p⟩).mono fun e W' ⟨he, bel⟩ => ?_
  subst he
  exact ⟨_, rfl, _, _, _, [], _, [], hW', trodAll_mk1 (shut_bool Try.underlying4 _), (trodAll_cons_mk (Below.trod laidOut (by kernel_rfl) (of_decide_eq_true (by kernel_rfl)) k0 bel lt0) trodAll_mk0), rfl, bel.frame _, fun h => by cases h⟩

theorem over : Rows.fnExactEntOkRow.holds Try.pinned (OpenSpec.ofChange Rows.fnExactEntOkSpec) :=
  OpenClaim.holds_of_wide 14 Try.f14 rfl rfl rfl rfl rfl rfl rfl ⟨rfl, rfl, rfl, rfl, rfl⟩ rfl rfl rfl rfl rfl (by kernel_rfl) Try.func14 (by kernel_rfl)
    (of_decide_eq_true (by kernel_rfl)) (by unfold Func.isWrapper; first | (rw [if_pos (by decide +kernel)]; kernel_rfl) | (rw [if_neg (by decide +kernel)]; exact ⟨rfl, rfl⟩))
    (fun os started H enc _ => lifted os started H enc)

theorem proved : Rows.FnExactEntOkSaid := over
end Go.Proofs.Ytjacddjmconfaaa.fnExactEntOk
