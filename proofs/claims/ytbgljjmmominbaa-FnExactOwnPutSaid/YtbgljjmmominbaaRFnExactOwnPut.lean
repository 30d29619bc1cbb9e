/- THE STATEMENT FnExactOwnPutSaid: for every input the law returns true and its arguments read as they did; no condition. -/
import Derived.Test.YtbgljjmmominbaaRow
import Derived.Test.YtbgljjmmominbaaWFnExactOwnPut
import Derived.Lib.SmallJoins
namespace Go.Proofs.Ytbgljjmmominbaa.fnExactOwnPut
open Go.ChangeShapes Go.WideShapes Go.ChangeAt Go.RowKit
open Go.ChangeMaps (open_string shut_string)
set_option linter.unusedVariables false

set_option maxRecDepth 100000 in
theorem lifted (os : Os) (started : os.Started) (H : Type) (enc : TypeId × Value → H) :
    ReturnsInHanded {} Try.checked os 11 .any (Rows.fnExactOwnPutSpec.pre6 enc Try.prog Try.f11 Rows.fnExactOwnPutRow.domain false) (Rows.fnExactOwnPutSpec.post enc Try.prog Try.f11 false true false false) := by
  refine returnsInHanded_of_change (C := Try.checked) own started (by kernel_rfl) Try.func11
    (ChangeSpec.witness6 (enc := enc) (C := Try.checked) false ⟨#[], #[.slice none 0 0, .agg #[.int .i64 0, .int .i64 0, .int .i64 0, .int .i64 0]], []⟩ 8 (by kernel_rfl) (by kernel_rfl) (by kernel_rfl) (by kernel_rfl)) ?_
  intro W base args ds gs before hval0 hW hcnd _
  have hval : ∀ (j : Nat) t v, Try.f11.params[j]? = some t → args[j]? = some v → Value.okWide Try.prog W .any base t v := hval0
  have hW' := hW
  obtain ⟨p, q, hA0, hV, rfl, hfz, hnd⟩ := hW
  have hA : DataW.TrodAll enc Try.prog W 0 (fun _ => true) true Try.f11.params.toList args.toList ds p := hA0
  rw [Try.params11] at hA hval
  obtain ⟨v0, vs0, d0, ds0, p0, q0, hargs, rfl, rfl, h0, r0⟩ := trodAll_cons hA
  obtain ⟨v1, vs1, d1, ds1, p1, q1, rfl, rfl, rfl, h1, r1⟩ := trodAll_cons r0
  obtain ⟨rfl, rfl, rfl⟩ := trodAll_nil r1
  obtain rfl : args = #[v0, v1] := by cases args; simp_all
  obtain ⟨rfl, rfl⟩ := trodVars_none hV
  obtain ⟨a0, len0, cap0, rfl⟩ := okWide_slice Try.underlying34 (hval 0 34 v0 rfl rfl)
  have k0 := h0
  have lt0 : ∀ x ∈ p0, x.block < W.heap.size := by obtain ⟨m, hm⟩ := k0; exact DataW.trod_lt m _ _ _ hm
  obtain ⟨z0, w0⟩ : ∃ zs, InR W a0 len0 cap0 zs := by
    obtain ⟨fuel, hf⟩ := h0
    exact inR_of (by simp [Value.cells]) hf
  have k1 := h1
  have lt1 : ∀ x ∈ p1, x.block < W.heap.size := by obtain ⟨m, hm⟩ := k1; exact DataW.trod_lt m _ _ _ hm
  obtain ⟨v1k, v1t, v1u, v1p, y1k, y1t, y1u, y1p, n1, rfl, rfl, rfl, t1k, t1t, t1u, t1p⟩ := Go.Joins.open_agg4 Try.underlying23 (by kernel_rfl) (by kernel_rfl) (hval 1 23 _ rfl rfl) h1
  obtain ⟨a1k, hk1k, _, w1k⟩ := DataW.trod_int (k := .i64) Try.underlying3 t1k
  injection hk1k with hk1k _; subst hk1k
  obtain ⟨a1t, hk1t, _, w1t⟩ := DataW.trod_int (k := .i64) Try.underlying3 t1t
  injection hk1t with hk1t _; subst hk1t
  obtain ⟨a1u, hk1u, _, w1u⟩ := DataW.trod_int (k := .i64) Try.underlying3 t1u
  injection hk1u with hk1u _; subst hk1u
  obtain ⟨a1p, hk1p, _, w1p⟩ := DataW.trod_int (k := .i64) Try.underlying3 t1p
  injection hk1p with hk1p _; subst hk1p
  clear hA0 hval0
  refine (walkFnExactOwnPut a0 len0 cap0 z0 a1k a1t a1u a1p W w0 ⟨w1k, w1t, w1u, w1p⟩).mono fun e W' ⟨he, bel⟩ => ?_
  subst he
  exact ⟨_, rfl, _, _, _, [], _, [], hW', trodAll_mk1 (shut_bool Try.underlying4 _), (trodAll_cons_mk (Below.trod laidOut (by kernel_rfl) (of_decide_eq_true (by kernel_rfl)) k0 bel lt0) (trodAll_cons_mk (Below.trod laidOut (by kernel_rfl) (of_decide_eq_true (by kernel_rfl)) k1 bel lt1) trodAll_mk0)), rfl, bel.frame _, fun h => by cases h⟩

theorem over : Rows.fnExactOwnPutRow.holds Try.pinned (OpenSpec.ofChange Rows.fnExactOwnPutSpec) :=
  OpenClaim.holds_of_wide 11 Try.f11 rfl rfl rfl rfl rfl rfl rfl ⟨rfl, rfl, rfl, rfl, rfl⟩ rfl rfl rfl rfl rfl (by kernel_rfl) Try.func11 (by kernel_rfl)
    (of_decide_eq_true (by kernel_rfl)) (by unfold Func.isWrapper; first | (rw [if_pos (by decide +kernel)]; kernel_rfl) | (rw [if_neg (by decide +kernel)]; exact ⟨rfl, rfl⟩))
    (fun os started H enc _ => lifted os started H enc)

theorem proved : Rows.FnExactOwnPutSaid := over
end Go.Proofs.Ytbgljjmmominbaa.fnExactOwnPut
