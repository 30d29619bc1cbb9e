/- The walk of FnExactConProof. -/
import Derived.Test.YtjacddjmconfaaaEx
import Derived.Test.YtjacddjmconfaaaGrow
namespace Go.Proofs.Ytjacddjmconfaaa
set_option linter.unusedVariables false
open Go.RowKit Pl
theorem conProof_few (xs : List Int) (m : Int) : (conProof xs m).length ≤ 100 := by
  by_cases h : okL xs = true ∧ inB m 1 (xs.length : Int) = true
  · obtain ⟨h1, h2⟩ := h
    have h3 := inB_iff.1 h2
    obtain ⟨k, rfl⟩ := Int.eq_ofNat_of_zero_le (show 0 ≤ m by omega)
    rw [conProof_yes h1 h2]
    have := grow_len xs k true (by omega) (by omega)
    have := okL_len h1
    omega
  · rw [conProof_no h]; simp
set_option maxHeartbeats 2000000 in
theorem walkFnExactConProof (a0 : Option Addr) (len0 cap0 : Nat) (z0 : List Int) (a1 : Int) (w : World) (w0 : InK .i64 w a0 len0 cap0 z0) (w1 : (Lit.int .i64 a1).wf = true) : Calls Try.prog 10 #[.slice a0 len0 cap0, .int .i64 a1] w (True_ w) := by
  have hlen : len0 ≤ 9223372036854775807 := by have := w0.cap; have := w0.top; unfold maxLen at this; omega
  have hfew : Hid ((conProof z0 a1).length ≤ 100) := Lib.hid (conProof_few z0 a1)
  by_cases hbig : len0 ≤ 1048576
  · have HI := Lib.hid w0
    clear w0
    go_enter Try.func10, Try.ntmps10
    go_wp2_with fail
    refine (copy_any _ _ _ _ _ _ HI.out (Below.refl _ _) (by omega)).mono ?_
    rintro e w1 ⟨A1, c1, rfl, hc1⟩
    have C1 := Lib.hid hc1
    have B1 := Lib.hid hc1.below
    clear hc1
    go_wp2_with fail
    refine (sConProof_any _ _ _ _ _ z0 _ HI.out.len C1.out.cap (by omega) C1.out.reads).mono ?_
    rintro e w2 ⟨A2, n2, c2, rfl, hn2, ho2, hb2⟩
    have N2 := Lib.hid hn2
    have R2 := Lib.hid (RK.of_own ho2)
    have B2 := Lib.hid (below_on B1.out (Nat.le_refl _) hb2)
    clear hn2 ho2 hb2
    go_wp2_with fail
    refine (copy_any _ _ _ _ _ _ HI.out B2.out (by omega)).mono ?_
    rintro e w3 ⟨A3, c3, rfl, hc3⟩
    have C3 := Lib.hid hc3
    have D3 := Lib.hid hc3.below
    have B3 := Lib.hid (below_on B2.out (Nat.le_refl _) hc3.below)
    clear hc3
    go_wp2_with fail
    refine (ConProof_any _ _ _ _ _ z0 _ HI.out.len C3.out.cap (by omega) C3.out.reads).mono ?_
    rintro e w4 ⟨A4, n4, c4, rfl, hn4, ho4, hb4⟩
    obtain rfl : n2 = n4 := N2.out.symm.trans hn4
    have O4 := Lib.hid ho4
    have R4 := Lib.hid (RK.of_own ho4)
    have E4 := Lib.hid hb4
    have D4 := Lib.hid (below_on D3.out (Nat.le_refl _) hb4)
    have B4 := Lib.hid (below_on B3.out (Nat.le_refl _) hb4)
    have hn : n2 ≤ 100 := by have := hfew.out; have := N2.out; omega
    clear hn4 ho4 hb4
    go_wp2_with fail
    refine (eqIntS_same _ _ _ _ _ _ _ (conProof z0 a1) _ N2.out (by omega) R4.out (R2.out.below D4.out)).mono ?_
    rintro e w5 ⟨rfl, d5, rfl⟩
    have B5 := Lib.hid (below_drewN B4.out d5)
    have D5 := Lib.hid (below_drewN D4.out d5)
    go_wp2_with fail
    refine (copy_any _ _ _ _ _ _ HI.out B5.out (by omega)).mono ?_
    rintro e w6 ⟨A6, c6, rfl, hc6⟩
    have C6 := Lib.hid hc6
    have R3 := Lib.hid (((C3.out.reads.below E4.out).drewN d5).below hc6.below)
    have O6 := Lib.hid (own_over (own_over O4.out (below_drewN (Below.refl _ _) d5)) hc6.below)
    have P6 := Lib.hid (own_over (own_over (own_over C3.out.own E4.out) (below_drewN (Below.refl _ _) d5)) hc6.below)
    have D6 := Lib.hid (below_on D5.out (Nat.le_refl _) hc6.below)
    have B6 := Lib.hid (below_on B5.out (Nat.le_refl _) hc6.below)
    clear hc6
    go_wp2_with fail
    refine (eqIntS_same _ _ _ _ _ _ _ z0 _ HI.out.len (by omega) R3.out C6.out.reads).mono ?_
    rintro e w7 ⟨rfl, d7, rfl⟩
    have O7 := Lib.hid (own_over O6.out (below_drewN (Below.refl _ _) d7))
    have P7 := Lib.hid (own_over P6.out (below_drewN (Below.refl _ _) d7))
    have D7 := Lib.hid (below_drewN D6.out d7)
    have B7 := Lib.hid (below_drewN B6.out d7)
    clear R3 O6 P6 R4
    go_wp2_with fail
    refine (markIntS_any _ _ _ _ _ 1 _ P7.out (by omega) (by omega) (by omega)).mono ?_
    rintro e w8 ⟨rfl, ho8, hb8, hg8⟩
    have O8 := Lib.hid (World.ownsRow.kept O7.out hg8 (by
      cases h1 : (Value.slice A4 n2 c4).ownBlock with
      | none => exact .inl rfl
      | some k1 =>
        right
        cases h2 : (Value.slice A3 len0 c3).ownBlock with
        | none => simp
        | some k2 =>
          have := World.ownsRow.lt O4.out k1 h1
          have := World.ownsRow.lt C3.out.own k2 h2
          simp; omega))
    have D8 := Lib.hid (D7.out.trans hb8)
    have B8 := Lib.hid (B7.out.trans (hb8.mono B2.out.size))
    clear ho8 hb8 hg8
    go_wp2_with fail
    refine (eqIntS_same _ _ _ _ _ _ _ (conProof z0 a1) _ N2.out (by omega) (RK.of_own O8.out) (R2.out.below D8.out)).mono ?_
    rintro e w9 ⟨rfl, d9, rfl⟩
    have O9 := Lib.hid (own_over O8.out (below_drewN (Below.refl _ _) d9))
    have D9 := Lib.hid (below_drewN D8.out d9)
    have B9 := Lib.hid (below_drewN B8.out d9)
    clear O8 O7
    go_wp2_with fail
    refine (markIntS_any _ _ _ _ _ 1 _ O9.out (by omega) (by omega) (by omega)).mono ?_
    rintro e w10 ⟨rfl, ho10, hb10, hg10⟩
    have O10 := Lib.hid ho10
    have D10 := Lib.hid (D9.out.trans (hb10.mono (by have := C3.out.below.size; omega)))
    have B10 := Lib.hid (B9.out.trans (hb10.mono B3.out.size))
    clear ho10 hb10 hg10
    go_wp2_with fail
    refine (heldIntS_any _ _ _ _ 1 _ (RK.of_own O10.out) (by omega) (by omega) (by omega)).mono ?_
    rintro e w11 ⟨rfl, rfl⟩
    go_wp2_with fail
    refine (copy_any _ _ _ _ _ _ HI.out B10.out (by omega)).mono ?_
    rintro e w12 ⟨A12, c12, rfl, hc12⟩
    have C12 := Lib.hid hc12
    have O12 := Lib.hid (own_over O10.out hc12.below)
    have D12 := Lib.hid (below_on D10.out (Nat.le_refl _) hc12.below)
    have B12 := Lib.hid (below_on B10.out (Nat.le_refl _) hc12.below)
    clear hc12
    go_wp2_with fail
    refine (ConProof_any _ _ _ _ _ z0 _ HI.out.len C12.out.cap (by omega) C12.out.reads).mono ?_
    rintro e w13 ⟨A13, n13, c13, rfl, hn13, ho13, hb13⟩
    obtain rfl : n2 = n13 := N2.out.symm.trans hn13
    have R13 := Lib.hid (RK.of_own ho13)
    have O13 := Lib.hid (own_over O12.out hb13)
    have D13 := Lib.hid (below_on D12.out (Nat.le_refl _) hb13)
    have B13 := Lib.hid (below_on B12.out (Nat.le_refl _) hb13)
    clear hn13 ho13 hb13
    go_wp2_with fail
    refine (eqIntS_same _ _ _ _ _ _ _ (conProof z0 a1) _ N2.out (by omega) R13.out (R2.out.below D13.out)).mono ?_
    rintro e w14 ⟨rfl, d14, rfl⟩
    have O14 := Lib.hid (own_over O13.out (below_drewN (Below.refl _ _) d14))
    have B14 := Lib.hid (below_drewN B13.out d14)
    go_wp2_with fail
    refine (heldIntS_any _ _ _ _ 1 _ (RK.of_own O14.out) (by omega) (by omega) (by omega)).mono ?_
    rintro e w15 ⟨rfl, rfl⟩
    go_wp2_with fail
    go_ret
    exact ⟨rfl, B14.out⟩
  · have hb : 1048576 < len0 := by omega
    clear w0 hbig
    go_enter Try.func10, Try.ntmps10
    go_wp2_with fail
    go_ret
    exact ⟨rfl, Below.refl _ _⟩
end Go.Proofs.Ytjacddjmconfaaa
