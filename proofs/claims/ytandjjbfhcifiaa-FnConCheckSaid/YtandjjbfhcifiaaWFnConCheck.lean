/- The walk of FnConCheck. -/
import Derived.Test.YtandjjbfhcifiaaDrawsC
namespace Go.Proofs.Ytandjjbfhcifiaa
set_option linter.unusedVariables false
open Go.RowKit Pl
theorem con_bounds {m old n r : Int} {p : List Int} (h : conCheck m old n r p = true) : 1 ≤ m ∧ m ≤ n ∧ n ≤ 40 ∧ 0 ≤ r ∧ r < 65521 := by
  obtain ⟨⟨h1, h2, h3, h4, h5⟩, _⟩ := con_true h
  have a := inB_iff.1 h1
  have b := inB_iff.1 h2
  have c := okI_iff.1 h4
  omega
theorem below_at {w a b : World} (h : Below w.heap.size w a) (k : Below a.heap.size a b) : Below w.heap.size w b := h.trans (k.mono h.size)

set_option maxHeartbeats 2000000 in
theorem walkFnConCheck (a0 : Option Addr) (len0 cap0 : Nat) (z0 : List Int) (w : World) (w0 : InK .u8 w a0 len0 cap0 z0) : Calls Try.prog 14 #[.slice a0 len0 cap0] w (True_ w) := by
  have hlen : len0 ≤ 9223372036854775807 := by have := w0.cap; have := w0.top; unfold maxLen at this; omega
  by_cases hbig : len0 ≤ 1048576
  · have HB := Lib.hid w0.bytes
    clear w0
    go_enter Try.func14, Try.ntmps14
    go_wp2_with fail
    refine (DrawConCheck_any _ _ _ _ _ HB.out (by omega)).mono ?_
    rintro e w1 ⟨m, old, n, r, A, q, c, p, rfl, hp, hq, hc, hr, hb⟩
    have HP := Lib.hid hp
    have HR := Lib.hid hr
    have HBe := Lib.hid hb
    clear hp hr hb
    cases hcc : conCheck m old n r p
    · have HC := Lib.hid hcc
      clear hcc
      go_wp2_with fail
      refine (ConCheck_any _ _ _ _ _ _ _ _ p _ HP.out hc (by omega) HR.out).mono ?_
      rw [HC.out]
      rintro e w2 ⟨rfl, hb2⟩
      have R2 := Lib.hid (HR.out.below hb2)
      have B2 := Lib.hid (below_at HBe.out hb2)
      clear hb2
      go_wp2_with fail
      refine (sConCheck_any _ _ _ _ _ _ _ _ p _ HP.out hc (by omega) R2.out).mono ?_
      rw [HC.out]
      rintro e w3 ⟨rfl, d3, rfl⟩
      have B3 := Lib.hid (below_drewN B2.out d3)
      go_wp2_with (go_at_call 22; refine (swOk_any _).mono ?_; rintro e w' ⟨rfl, rfl⟩)
      go_ret
      exact ⟨rfl, B3.out⟩
    · obtain ⟨m1, m2, n40, r0, r1⟩ := con_bounds hcc
      have HC := Lib.hid hcc
      have HD := Lib.hid (con_root hcc (s := (r + 1) % 65521) (by omega))
      by_cases hmn : m = n
      · subst hmn
        obtain ⟨rfl, rfl⟩ := con_same hcc
        obtain rfl : q = 0 := HP.out.symm
        clear hcc
        go_wp2_with fail
        refine (ConCheck_any _ _ _ _ _ _ _ _ [] _ HP.out hc (by omega) HR.out).mono ?_
        rw [HC.out]
        rintro e w2 ⟨rfl, hb2⟩
        have R2 := Lib.hid (HR.out.below hb2)
        have B2 := Lib.hid (below_at HBe.out hb2)
        clear hb2
        go_wp2_with fail
        refine (sConCheck_any _ _ _ _ _ _ _ _ [] _ HP.out hc (by omega) R2.out).mono ?_
        rw [HC.out]
        rintro e w3 ⟨rfl, d3, rfl⟩
        have R3 := Lib.hid (R2.out.drewN d3)
        have B3 := Lib.hid (below_drewN B2.out d3)
        go_wp2_with fail
        refine (ConCheck_any _ _ _ _ _ _ _ _ [] _ HP.out hc (by omega) R3.out).mono ?_
        rw [HD.out]
        rintro e w4 ⟨rfl, hb4⟩
        have B4 := Lib.hid (below_at B3.out hb4)
        clear hb4
        go_wp2_with fail
        go_ret
        exact ⟨rfl, B4.out⟩
      · have hlt : m < n := by omega
        clear hcc hmn
        go_wp2_with fail
        refine (ConCheck_any _ _ _ _ _ _ _ _ p _ HP.out hc (by omega) HR.out).mono ?_
        rw [HC.out]
        rintro e w2 ⟨rfl, hb2⟩
        have R2 := Lib.hid (HR.out.below hb2)
        have B2 := Lib.hid (below_at HBe.out hb2)
        clear hb2
        go_wp2_with fail
        refine (sConCheck_any _ _ _ _ _ _ _ _ p _ HP.out hc (by omega) R2.out).mono ?_
        rw [HC.out]
        rintro e w3 ⟨rfl, d3, rfl⟩
        have R3 := Lib.hid (R2.out.drewN d3)
        have B3 := Lib.hid (below_drewN B2.out d3)
        go_wp2_with fail
        refine (ConCheck_any _ _ _ _ _ _ _ _ p _ HP.out hc (by omega) R3.out).mono ?_
        rw [HD.out]
        rintro e w4 ⟨rfl, hb4⟩
        have B4 := Lib.hid (below_at B3.out hb4)
        clear hb4
        go_wp2_with fail
        go_ret
        exact ⟨rfl, B4.out⟩
  · have hb : 1048576 < len0 := by omega
    clear w0 hbig
    go_enter Try.func14, Try.ntmps14
    go_wp2_with fail
    go_ret
    exact ⟨rfl, Below.refl _ _⟩
end Go.Proofs.Ytandjjbfhcifiaa
