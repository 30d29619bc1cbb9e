/- Contracts: whether a proof shows how a ticket stands. -/
import Derived.Test.YtjacddjmconfaaaLeafB
import Derived.Test.YtjacddjmconfaaaUp
namespace Go.Proofs.Ytjacddjmconfaaa
set_option linter.unusedVariables false
open Go.RowKit Pl
def ownCheck (r t u f : Int) (b : Bool) (p : List Int) : Bool := inB t 0 7 && ((treUp 8 t (ownLeaf t u f b) p).2 && (treUp 8 t (ownLeaf t u f b) p).1 == r)
theorem OwnCheck_any (A : Option Addr) (r t u f : Int) (b : Bool) (m c L : Nat) (p : List Int) (w : World) (hl : p.length = m) (hc : m ≤ c) (hm2 : m ≤ 2000000) (hr : RI w L A p) :
    Calls Try.prog 39 #[.int .i64 r, .int .i64 t, .agg #[.int .i64 u, .int .i64 f, .bool b], .slice A m c] w fun e w' => e = .returned (.bool (ownCheck r t u f b p)) ∧ Below w.heap.size w w' := by
  have HL := Lib.hid hl
  have HR := Lib.hid hr
  clear hl hr
  cases hT : inB t 0 7
  · have hv : ownCheck r t u f b p = false := by simp [ownCheck, hT]
    rw [hv]
    go_enter Try.func39, Try.ntmps39
    go_wp2_with (go_at_call 67; refine (isTicket_any _ _).mono ?_; rintro e w' ⟨rfl, rfl⟩)
    go_ret
    exact ⟨rfl, by go_grown⟩
  · have hv : ownCheck r t u f b p = ((treUp 8 t (ownLeaf t u f b) p).2 && (treUp 8 t (ownLeaf t u f b) p).1 == r) := by simp [ownCheck, hT]
    rw [hv]
    clear hv
    go_enter Try.func39, Try.ntmps39
    go_wp2_with (go_at_call 67; refine (isTicket_any _ _).mono ?_; rintro e w' ⟨rfl, rfl⟩)
    refine (OwnLeaf_any _ _ _ _ _).mono ?_
    rintro e w2 ⟨rfl, hb⟩
    have HR2 := Lib.hid ((HR.out.alloc _).below hb)
    have HB := Lib.hid (((Below.refl _ _).alloc (Nat.le_refl _) _).trans (hb.mono (by simp)))
    clear hb
    go_wp2_with fail
    refine (TreCheck_any _ _ _ _ _ _ _ _ p _ HL.out hc hm2 HR2.out).mono ?_
    rintro e w3 ⟨rfl, rfl⟩
    go_wp2_with fail
    go_ret
    exact ⟨rfl, HB.out⟩
theorem sOwnCheck_any (A : Option Addr) (r t u f : Int) (b : Bool) (m c L : Nat) (p : List Int) (w : World) (hl : p.length = m) (hc : m ≤ c) (hm2 : m ≤ 2000000) (hr : RI w L A p) :
    Calls Try.prog 37 #[.int .i64 r, .int .i64 t, .agg #[.int .i64 u, .int .i64 f, .bool b], .slice A m c] w fun e w' => e = .returned (.bool (ownCheck r t u f b p)) ∧ Below w.heap.size w w' := by
  have HL := Lib.hid hl
  have HR := Lib.hid hr
  clear hl hr
  cases hT : inB t 0 7
  · have hv : ownCheck r t u f b p = false := by simp [ownCheck, hT]
    rw [hv]
    go_enter Try.func37, Try.ntmps37
    go_wp2_with (go_at_call 54; refine (l1In_any _ _ _ _).mono ?_; rintro e w' ⟨rfl, rfl⟩)
    go_ret
    exact ⟨rfl, by go_grown⟩
  · have hv : ownCheck r t u f b p = ((treUp 8 t (ownLeaf t u f b) p).2 && (treUp 8 t (ownLeaf t u f b) p).1 == r) := by simp [ownCheck, hT]
    rw [hv]
    clear hv
    go_enter Try.func37, Try.ntmps37
    go_wp2_with (go_at_call 54; refine (l1In_any _ _ _ _).mono ?_; rintro e w' ⟨rfl, rfl⟩)
    refine (sOwnLeaf_any _ _ _ _ _).mono ?_
    rintro e w2 ⟨rfl, hb⟩
    have HR2 := Lib.hid ((HR.out.alloc _).below hb)
    have HB := Lib.hid (((Below.refl _ _).alloc (Nat.le_refl _) _).trans (hb.mono (by simp)))
    clear hb
    go_wp2_with fail
    refine (sTreCheck_any _ _ _ _ _ _ _ _ p _ HL.out hc hm2 HR2.out).mono ?_
    rintro e w3 ⟨rfl, rfl⟩
    go_wp2_with fail
    go_ret
    exact ⟨rfl, HB.out⟩
end Go.Proofs.Ytjacddjmconfaaa
