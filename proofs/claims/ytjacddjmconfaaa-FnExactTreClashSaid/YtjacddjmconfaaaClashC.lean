/- Contracts: a clash found, program and reference, for all arguments. -/
import Derived.Test.YtjacddjmconfaaaClashB
namespace Go.Proofs.Ytjacddjmconfaaa
set_option linter.unusedVariables false
open Go.RowKit Pl

theorem guard_i {xs : List Int} {i leaf : Int} {p : List Int} (h : ((treUp xs.length i leaf p).2 && (treUp xs.length i leaf p).1 == treeRoot xs) = true) : 1 ≤ xs.length ∧ xs.length ≤ 40 ∧ 0 ≤ i ∧ i < xs.length := by
  rw [Bool.and_eq_true] at h
  obtain ⟨a1, a2, a3, a4, _⟩ := treUp_true h.1
  omega
set_option maxHeartbeats 4000000 in
theorem TreClash_any (A A2 : Option Addr) (n c m c2 L : Nat) (xs p : List Int) (i leaf : Int) (w : World) (hl : xs.length = n) (hc : n ≤ c) (hn : n ≤ 2000000) (hr : RI w L A xs) (hpl : p.length = m) (hpc : m ≤ c2) (hm : m ≤ 2000000) (hpr : RI w L A2 p) :
    Calls Try.prog 36 #[.slice A n c, .int .i64 i, .int .i64 leaf, .slice A2 m c2] w (OwnRes w (treClash xs i leaf p)) := by
  have HL := Lib.hid hl
  have HR := Lib.hid hr
  have HP := Lib.hid hpl
  have HPR := Lib.hid hpr
  rcases guardC xs i leaf p with g1 | ⟨g1, g2⟩ | ⟨g1, g2, g3⟩ | h
  · rw [treClash_no (fun h => by rw [h.1] at g1; cases g1)]
    have G1 := Lib.hid g1
    clear g1 hl hr hpl hpr
    go_enter Try.func36, Try.ntmps36
    go_wp2_with (go_at_call 20; refine (TreOk_any _ _ _ _ xs _ HL.out HR.out hn).mono ?_; rw [G1.out]; rintro e w' ⟨rfl, rfl⟩)
    go_ret
    exact nil_res0 w
  · rw [treClash_no (fun h => by rw [h.2.1] at g2; cases g2)]
    have G1 := Lib.hid g1
    rw [hl] at g2
    have G2 := Lib.hid g2
    clear g1 g2 hl hr hpl hpr
    go_enter Try.func36, Try.ntmps36
    go_wp2_with (first
          | (go_at_call 20; refine (TreOk_any _ _ _ _ xs _ HL.out HR.out hn).mono ?_; rw [G1.out]; rintro e w' ⟨rfl, rfl⟩)
          | (go_at_call 22; refine (TreRoot_any _ _ _ _ xs _ HL.out hc HR.out hn).mono ?_; rintro e w' ⟨rfl, d0, rfl⟩)
          | (go_at_call 28; refine (TreCheck_any _ _ _ _ _ _ _ _ p _ HP.out hpc hm (HPR.out.drewN _)).mono ?_; rw [G2.out]; rintro e w' ⟨rfl, rfl⟩))
    go_ret
    exact nil_res w _
  · obtain ⟨q1, q2, q3, q4⟩ := guard_i g2
    obtain ⟨j, rfl⟩ := Int.eq_ofNat_of_zero_le q3
    rw [treClash_no (fun h => by rw [h.2.2] at g3; cases g3)]
    rw [Int.toNat_natCast] at g3
    have hj : j < n := by omega
    have hn40 : n ≤ 40 := by omega
    obtain ⟨b, o, rfl, _, hbs, hcell⟩ := hr.at_ (j := j) (by omega)
    have hI : inB (j : Int) 0 ((n : Int) - 1) = true := inB_mk (by omega) (by omega)
    have G1 := Lib.hid g1
    rw [hl] at g2
    have G2 := Lib.hid g2
    generalize xs.getD j 0 = z at *
    clear g1 g2 hl hr hpl hpr q1 q2 q3 q4
    go_enter Try.func36, Try.ntmps36
    go_wp2_with (first
          | (go_at_call 20; refine (TreOk_any _ _ _ _ xs _ HL.out HR.out hn).mono ?_; rw [G1.out]; rintro e w' ⟨rfl, rfl⟩)
          | (go_at_call 22; refine (TreRoot_any _ _ _ _ xs _ HL.out hc HR.out hn).mono ?_; rintro e w' ⟨rfl, d0, rfl⟩)
          | (go_at_call 28; refine (TreCheck_any _ _ _ _ _ _ _ _ p _ HP.out hpc hm (HPR.out.drewN _)).mono ?_; rw [G2.out]; rintro e w' ⟨rfl, rfl⟩))
    go_ret
    exact nil_res w _
  · exact TreClash_yes A A2 n c m c2 L xs p i leaf w hl hc hr hpl hpc hpr hm h
set_option maxHeartbeats 4000000 in
theorem sTreClash_any (A A2 : Option Addr) (n c m c2 L : Nat) (xs p : List Int) (i leaf : Int) (w : World) (hl : xs.length = n) (hc : n ≤ c) (hn : n ≤ 2000000) (hr : RI w L A xs) (hpl : p.length = m) (hpc : m ≤ c2) (hm : m ≤ 2000000) (hpr : RI w L A2 p) :
    Calls Try.prog 35 #[.slice A n c, .int .i64 i, .int .i64 leaf, .slice A2 m c2] w (OwnRes w (treClash xs i leaf p)) := by
  have HL := Lib.hid hl
  have HR := Lib.hid hr
  have HP := Lib.hid hpl
  have HPR := Lib.hid hpr
  rcases guardC xs i leaf p with g1 | ⟨g1, g2⟩ | ⟨g1, g2, g3⟩ | h
  · rw [treClash_no (fun h => by rw [h.1] at g1; cases g1)]
    have G1 := Lib.hid g1
    clear g1 hl hr hpl hpr
    go_enter Try.func35, Try.ntmps35
    go_wp2_with (go_at_call 19; refine (sTreOk_any _ _ _ _ xs _ HL.out HR.out hn).mono ?_; rw [G1.out]; rintro e w' ⟨rfl, rfl⟩)
    go_ret
    exact empty_res0 w
  · rw [treClash_no (fun h => by rw [h.2.1] at g2; cases g2)]
    have G1 := Lib.hid g1
    rw [hl] at g2
    have G2 := Lib.hid g2
    clear g1 g2 hl hr hpl hpr
    cases hI : inB i 0 ((n : Int) - 1)
    · go_enter Try.func35, Try.ntmps35
      go_wp2_with (first
            | (go_at_call 19; refine (sTreOk_any _ _ _ _ xs _ HL.out HR.out hn).mono ?_; rw [G1.out]; rintro e w' ⟨rfl, rfl⟩)
            | (go_at_call 21; refine (sTreRoot_any _ _ _ _ xs _ HL.out hc HR.out hn).mono ?_; rintro e w' ⟨rfl, d0, rfl⟩)
            | (go_at_call 54; refine (l1In_any _ _ _ _).mono ?_; rintro e w' ⟨rfl, rfl⟩)
            | (go_at_call 27; refine (sTreCheck_any _ _ _ _ _ _ _ _ p _ HP.out hpc hm (HPR.out.drewN _)).mono ?_; rw [G2.out]; rintro e w' ⟨rfl, rfl⟩))
      go_ret
      exact empty_res0 w
    · go_enter Try.func35, Try.ntmps35
      go_wp2_with (first
            | (go_at_call 19; refine (sTreOk_any _ _ _ _ xs _ HL.out HR.out hn).mono ?_; rw [G1.out]; rintro e w' ⟨rfl, rfl⟩)
            | (go_at_call 21; refine (sTreRoot_any _ _ _ _ xs _ HL.out hc HR.out hn).mono ?_; rintro e w' ⟨rfl, d0, rfl⟩)
            | (go_at_call 54; refine (l1In_any _ _ _ _).mono ?_; rintro e w' ⟨rfl, rfl⟩)
            | (go_at_call 27; refine (sTreCheck_any _ _ _ _ _ _ _ _ p _ HP.out hpc hm (HPR.out.drewN _)).mono ?_; rw [G2.out]; rintro e w' ⟨rfl, rfl⟩))
      go_ret
      exact empty_res w _
  · obtain ⟨q1, q2, q3, q4⟩ := guard_i g2
    obtain ⟨j, rfl⟩ := Int.eq_ofNat_of_zero_le q3
    rw [treClash_no (fun h => by rw [h.2.2] at g3; cases g3)]
    rw [Int.toNat_natCast] at g3
    have hj : j < n := by omega
    have hn40 : n ≤ 40 := by omega
    obtain ⟨b, o, rfl, _, hbs, hcell⟩ := hr.at_ (j := j) (by omega)
    have hI : inB (j : Int) 0 ((n : Int) - 1) = true := inB_mk (by omega) (by omega)
    have G1 := Lib.hid g1
    rw [hl] at g2
    have G2 := Lib.hid g2
    generalize xs.getD j 0 = z at *
    clear g1 g2 hl hr hpl hpr q1 q2 q3 q4
    go_enter Try.func35, Try.ntmps35
    go_wp2_with (first
          | (go_at_call 19; refine (sTreOk_any _ _ _ _ xs _ HL.out HR.out hn).mono ?_; rw [G1.out]; rintro e w' ⟨rfl, rfl⟩)
          | (go_at_call 21; refine (sTreRoot_any _ _ _ _ xs _ HL.out hc HR.out hn).mono ?_; rintro e w' ⟨rfl, d0, rfl⟩)
          | (go_at_call 54; refine (l1In_any _ _ _ _).mono ?_; rintro e w' ⟨rfl, rfl⟩)
          | (go_at_call 27; refine (sTreCheck_any _ _ _ _ _ _ _ _ p _ HP.out hpc hm (HPR.out.drewN _)).mono ?_; rw [G2.out]; rintro e w' ⟨rfl, rfl⟩))
    go_ret
    exact empty_res w _
  · have S := Lib.hid (seek_of hl hc hr hpl hpc hpr hm h)
    obtain ⟨g1, g2, g3⟩ := h
    obtain ⟨q1, q2, q3, q4⟩ := guard_i g2
    have HLf := Lib.hid (clashG_true ⟨g1, g2, g3⟩).2.2.2.2.1
    obtain ⟨j, rfl⟩ := Int.eq_ofNat_of_zero_le q3
    rw [Int.toNat_natCast] at g3
    have hj : j < n := by omega
    have hn40 : n ≤ 40 := by omega
    obtain ⟨b, o, rfl, _, hbs, hcell⟩ := hr.at_ (j := j) (by omega)
    have hI : inB (j : Int) 0 ((n : Int) - 1) = true := inB_mk (by omega) (by omega)
    have G1 := Lib.hid g1
    rw [hl] at g2
    have G2 := Lib.hid g2
    generalize treClash xs (j : Int) leaf p = CL at *
    generalize xs.getD j 0 = z at *
    clear g1 g2 hl hr hpl hpr q1 q2 q3 q4
    go_enter Try.func35, Try.ntmps35
    go_wp2_with (first
      | (go_at_call 19; refine (sTreOk_any _ _ _ _ xs _ HL.out HR.out hn).mono ?_; rw [G1.out]; rintro e w' ⟨rfl, rfl⟩)
      | (go_at_call 21; refine (sTreRoot_any _ _ _ _ xs _ HL.out hc HR.out hn).mono ?_; rintro e w' ⟨rfl, d0, rfl⟩)
      | (go_at_call 54; refine (l1In_any _ _ _ _).mono ?_; rintro e w' ⟨rfl, rfl⟩)
      | (go_at_call 27; refine (sTreCheck_any _ _ _ _ _ _ _ _ p _ HP.out hpc hm (HPR.out.drewN _)).mono ?_; rw [G2.out]; rintro e w' ⟨rfl, rfl⟩)
      | (go_at_call 64; refine Calls.mono (l2Clash_any n _ _ n c m c2 L xs p (j : Int) leaf CL _ (Nat.le_refl _) HLf.out (S.out.drewN _)) ?_; rintro e w9 h9; have R9 := Lib.hid (res_behind h9); obtain ⟨A9, n9, c9, rfl, hl9, ho9, hb9⟩ := h9; clear hl9 ho9 hb9))
    go_ret
    exact R9.out
end Go.Proofs.Ytjacddjmconfaaa
