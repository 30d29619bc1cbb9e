/- What the laws' walks stand on: bytes that came in; swOk; numbers drawn. -/
import Derived.Test.YtbgljjmmominbaaRow
import Derived.Test.YtbgljjmmominbaaDraws
namespace Go.Proofs.Ytbgljjmmominbaa
open Go.RowKit Pl
set_option linter.unusedVariables false

theorem InK.bytes {w : World} {A : Option Addr} {n c : Nat} {xs : List Int} (h : InK .u8 w A n c xs) : Bytes w A n c xs := ⟨h.len, h.cap, h.reads, fun j hj => bounds_u8 (h.wf j hj)⟩
theorem swOk_any (w : World) : Calls Try.prog 55 #[] w fun e w' => e = .returned (.bool true) ∧ w = w' := by
  have h1 : okI 1 = true := by decide
  go_enter Try.func55, Try.ntmps55
  go_wp2_with (go_at_call 57; refine (MixOk_any _ _).mono ?_; rintro e w' ⟨rfl, rfl⟩)
  go_ret
  exact ⟨rfl, rfl⟩
/-- a number between bounds, drawn -/
def NumRes (w : World) (lo hi : Int) (e : Ending) (w' : World) : Prop := ∃ v : Int, e = .returned (.int .i64 v) ∧ lo ≤ v ∧ v ≤ hi ∧ Below w.heap.size w w'
/-- a law's end -/
def True_ (w : World) (e : Ending) (w' : World) : Prop := e = .returned (.bool true) ∧ Below w.heap.size w w'
end Go.Proofs.Ytbgljjmmominbaa
