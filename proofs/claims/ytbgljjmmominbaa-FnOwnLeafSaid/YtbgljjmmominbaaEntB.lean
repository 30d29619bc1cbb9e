/- Contracts: entries and rows, by value. -/
import Derived.Test.YtbgljjmmominbaaEnt
import Derived.Test.YtbgljjmmominbaaLeaf
import Derived.Deep.RegionHeld3
import Derived.Deep.QuietTactic
import Derived.BigQuiet
namespace Go.Proofs.Ytbgljjmmominbaa
set_option linter.unusedVariables false
open Go.RowKit Pl
theorem quiet_same {P : Program} {f : FuncId} {args : Array Value} {w : World} {n : Nat} {v : Value}
    (h : Calls P f args (w.drewN n) fun e w' => e = .returned v ∧ w.drewN n = w') : Calls P f args (w.drewN n) fun e w'' => e = .returned v ∧ ∃ m, w'' = w.drewN m :=
  h.mono fun _ _ ⟨he, hm⟩ => ⟨he, n, hm.symm⟩
theorem kept3 {w w' : World} {x y z : Value} {T : TypeId} (hb : Below (w.alloc (.cells #[x, y, z] T)).heap.size (w.alloc (.cells #[x, y, z] T)) w') :
    w'.cell? ⟨w.heap.size, 0, none⟩ = some x ∧ w'.cell? ⟨w.heap.size, 1, none⟩ = some y ∧ w'.cell? ⟨w.heap.size, 2, none⟩ = some z := by
  have hn := heap_alloc_new w (.cells #[x, y, z] T)
  refine ⟨?_, ?_, ?_⟩
  all_goals
    rw [hb.cell (by simp), cell_of_row _ _ _ _ _ _ hn]; rfl
theorem kept4 {w w' : World} {x y z v : Value} {T : TypeId} (hb : Below (w.alloc (.cells #[x, y, z, v] T)).heap.size (w.alloc (.cells #[x, y, z, v] T)) w') :
    w'.cell? ⟨w.heap.size, 0, none⟩ = some x ∧ w'.cell? ⟨w.heap.size, 1, none⟩ = some y ∧ w'.cell? ⟨w.heap.size, 2, none⟩ = some z ∧ w'.cell? ⟨w.heap.size, 3, none⟩ = some v := by
  have hn := heap_alloc_new w (.cells #[x, y, z, v] T)
  refine ⟨?_, ?_, ?_, ?_⟩
  all_goals
    rw [hb.cell (by simp), cell_of_row _ _ _ _ _ _ hn]; rfl
theorem toEntEntry_any (a b c d : Int) (w : World) : Calls Try.prog 20 #[.agg #[.int .i64 a, .int .i64 b, .int .i64 c, .int .i64 d]] w fun e w' => e = .returned (.agg #[.int .i64 a, .int .i64 b, .int .i64 c, .int .i64 d]) ∧ Below w.heap.size w w' := by
  go_enter Try.func20, Try.ntmps20
  go_wp2_with fail
  go_returns
  exact ⟨rfl, by go_grown⟩
theorem toOwnRow_any (a b : Int) (c : Bool) (w : World) : Calls Try.prog 23 #[.agg #[.int .i64 a, .int .i64 b, .bool c]] w fun e w' => e = .returned (.agg #[.int .i64 a, .int .i64 b, .bool c]) ∧ Below w.heap.size w w' := by
  go_enter Try.func23, Try.ntmps23
  go_wp2_with fail
  go_returns
  exact ⟨rfl, by go_grown⟩
def entOk (k t u p : Int) : Bool := inB t 0 7 && inB u 1 5 && (if k = 1 then inB p 1 50 else if k = 2 then inB p 1 60 else k == 3 && p == 0)
set_option maxHeartbeats 400000 in
theorem EntOk_any (k t u p : Int) (w : World) : Calls Try.prog 78 #[.agg #[.int .i64 k, .int .i64 t, .int .i64 u, .int .i64 p]] w fun e w' => e = .returned (.bool (entOk k t u p)) ∧ Below w.heap.size w w' := by
  have hc : capI 50 = 60 := by decide
  cases hT : inB t 0 7
  · have hv : entOk k t u p = false := by simp [entOk, hT]
    rw [hv]
    go_enter Try.func78, Try.ntmps78
    go_wp2_with (first | (go_at_call 73; refine (isTicket_any _ _).mono ?_; rintro e w' ⟨rfl, rfl⟩) | (go_at_call 75; refine (isUser_any _ _).mono ?_; rintro e w' ⟨rfl, rfl⟩))
    go_ret
    exact ⟨rfl, by go_grown⟩
  · cases hU : inB u 1 5
    · have hv : entOk k t u p = false := by simp [entOk, hT, hU]
      rw [hv]
      go_enter Try.func78, Try.ntmps78
      go_wp2_with (first | (go_at_call 73; refine (isTicket_any _ _).mono ?_; rintro e w' ⟨rfl, rfl⟩) | (go_at_call 75; refine (isUser_any _ _).mono ?_; rintro e w' ⟨rfl, rfl⟩))
      go_ret
      exact ⟨rfl, by go_grown⟩
    · by_cases h1 : k = 1
      · subst h1
        have hv : entOk 1 t u p = inB p 1 50 := by simp [entOk, hT, hU]
        rw [hv]
        go_enter Try.func78, Try.ntmps78
        go_wp2_with (first | (go_at_call 73; refine (isTicket_any _ _).mono ?_; rintro e w' ⟨rfl, rfl⟩) | (go_at_call 75; refine (isUser_any _ _).mono ?_; rintro e w' ⟨rfl, rfl⟩) | (go_at_call 76; refine (isFace_any _ _).mono ?_; rintro e w' ⟨rfl, rfl⟩))
        go_ret
        exact ⟨rfl, by go_grown⟩
      · have e1 : (k == 1) = false := by simpa using h1
        by_cases h2 : k = 2
        · subst h2
          have hv : entOk 2 t u p = inB p 1 (capI 50) := by simp [entOk, hT, hU, hc]
          rw [hv]
          go_enter Try.func78, Try.ntmps78
          go_wp2_with (first | (go_at_call 73; refine (isTicket_any _ _).mono ?_; rintro e w' ⟨rfl, rfl⟩) | (go_at_call 75; refine (isUser_any _ _).mono ?_; rintro e w' ⟨rfl, rfl⟩))
          go_quiet (first | (apply quiet_same; (with_reducible exact EntCap_any _ _)) | (apply quiet_same; (with_reducible exact in_any _ _ _ _)))
          go_wp2_with fail
          go_ret
          exact ⟨rfl, below_drewN (by go_grown) _⟩
        · have e2 : (k == 2) = false := by simpa using h2
          have hv : entOk k t u p = (k == 3 && p == 0) := by simp [entOk, hT, hU, h1, h2]
          rw [hv]
          clear hv h1 h2
          cases e3 : k == 3
          all_goals
            go_enter Try.func78, Try.ntmps78
            go_wp2_with (first | (go_at_call 73; refine (isTicket_any _ _).mono ?_; rintro e w' ⟨rfl, rfl⟩) | (go_at_call 75; refine (isUser_any _ _).mono ?_; rintro e w' ⟨rfl, rfl⟩))
            go_ret
            exact ⟨rfl, by go_grown⟩
set_option maxHeartbeats 400000 in
theorem sEntOk_any (k t u p : Int) (w : World) : Calls Try.prog 63 #[.agg #[.int .i64 k, .int .i64 t, .int .i64 u, .int .i64 p]] w fun e w' => e = .returned (.bool (entOk k t u p)) ∧ Below w.heap.size w w' := by
  have hc : capI 50 = 60 := by decide
  cases hT : inB t 0 7
  · have hv : entOk k t u p = false := by simp [entOk, hT]
    rw [hv]
    go_enter Try.func63, Try.ntmps63
    go_wp2_with (go_at_call 72; refine (l1In_any _ _ _ _).mono ?_; rintro e w' ⟨rfl, rfl⟩)
    go_ret
    exact ⟨rfl, by go_grown⟩
  · cases hU : inB u 1 5
    · have hv : entOk k t u p = false := by simp [entOk, hT, hU]
      rw [hv]
      go_enter Try.func63, Try.ntmps63
      go_wp2_with (go_at_call 72; refine (l1In_any _ _ _ _).mono ?_; rintro e w' ⟨rfl, rfl⟩)
      go_ret
      exact ⟨rfl, by go_grown⟩
    · by_cases h1 : k = 1
      · subst h1
        have hv : entOk 1 t u p = inB p 1 50 := by simp [entOk, hT, hU]
        rw [hv]
        go_enter Try.func63, Try.ntmps63
        go_wp2_with (go_at_call 72; refine (l1In_any _ _ _ _).mono ?_; rintro e w' ⟨rfl, rfl⟩)
        go_ret
        exact ⟨rfl, by go_grown⟩
      · have e1 : (k == 1) = false := by simpa using h1
        by_cases h2 : k = 2
        · subst h2
          have hv : entOk 2 t u p = inB p 1 (capI 50) := by simp [entOk, hT, hU, hc]
          rw [hv]
          go_enter Try.func63, Try.ntmps63
          go_wp2_with (go_at_call 72; refine (l1In_any _ _ _ _).mono ?_; rintro e w' ⟨rfl, rfl⟩)
          go_quiet (first | (apply quiet_same; (with_reducible exact sEntCap_any _ _)) | (apply quiet_same; (with_reducible exact l1In_any _ _ _ _)))
          go_wp2_with fail
          go_ret
          exact ⟨rfl, below_drewN (by go_grown) _⟩
        · have e2 : (k == 2) = false := by simpa using h2
          have hv : entOk k t u p = (k == 3 && p == 0) := by simp [entOk, hT, hU, h1, h2]
          rw [hv]
          clear hv h1 h2
          cases e3 : k == 3
          all_goals
            go_enter Try.func63, Try.ntmps63
            go_wp2_with (go_at_call 72; refine (l1In_any _ _ _ _).mono ?_; rintro e w' ⟨rfl, rfl⟩)
            go_ret
            exact ⟨rfl, by go_grown⟩
end Go.Proofs.Ytbgljjmmominbaa
