/- The walk of FnOwnOf. -/
import Derived.Test.YtbgljjmmominbaaRowsD
import Derived.Test.YtbgljjmmominbaaSw
import Derived.Test.YtbgljjmmominbaaCount
namespace Go.Proofs.Ytbgljjmmominbaa
set_option linter.unusedVariables false
open Go.RowKit Pl
theorem ofP_mem (rs : List Orow) (who : Int) (k : Nat) : ∀ x ∈ ofP rs who k, ∃ m : Nat, x = (m : Int) ∧ m < k ∧ (rs.getD m r0).u = who := by
  induction k with
  | zero => intro x hx; simp [ofP] at hx
  | succ k ih =>
    intro x hx
    cases hu : (rs.getD k r0).u == who
    · rw [ofP_no rs who k hu] at hx
      obtain ⟨m, e, hm, h⟩ := ih x hx
      exact ⟨m, e, by omega, h⟩
    · rw [ofP_yes rs who k hu] at hx
      rcases List.mem_append.1 hx with hx | hx
      · obtain ⟨m, e, hm, h⟩ := ih x hx
        exact ⟨m, e, by omega, h⟩
      · rw [List.mem_singleton.1 hx]
        exact ⟨k, rfl, by omega, by simpa using hu⟩
theorem ofP_rise (rs : List Orow) (who : Int) (k : Nat) : (ofP rs who k).Pairwise (· < ·) := by
  induction k with
  | zero => simp [ofP]
  | succ k ih =>
    cases hu : (rs.getD k r0).u == who
    · rw [ofP_no rs who k hu]; exact ih
    · rw [ofP_yes rs who k hu, List.pairwise_append]
      refine ⟨ih, by simp, fun a ha b hb => ?_⟩
      obtain ⟨m, rfl, hm, _⟩ := ofP_mem rs who k a ha
      rw [List.mem_singleton.1 hb]; omega
/-- how many the first j have, among the first k tickets -/
def cntO (rs : List Orow) (k : Nat) : Nat → Nat
  | 0 => 0
  | j + 1 => cntO rs k j + (ofP rs (j : Int) k).length
theorem cntO_zero (rs : List Orow) (j : Nat) : cntO rs 0 j = 0 := by
  induction j with
  | zero => rfl
  | succ j ih => simp [cntO, ih, ofP]
theorem cntO_succ (rs : List Orow) (k j : Nat) : cntO rs (k + 1) j = cntO rs k j + if 0 ≤ (rs.getD k r0).u ∧ (rs.getD k r0).u < (j : Int) then 1 else 0 := by
  induction j with
  | zero => simp only [cntO]; rw [if_neg (by omega)]
  | succ j ih =>
    simp only [cntO, ih]
    by_cases h : (rs.getD k r0).u = (j : Int)
    · rw [ofP_yes rs _ k (by simpa using h), if_neg (by omega), if_pos (by omega)]
      simp; omega
    · rw [ofP_no rs _ k (by simpa using h)]
      by_cases h2 : 0 ≤ (rs.getD k r0).u ∧ (rs.getD k r0).u < (j : Int)
      · rw [if_pos h2, if_pos (by omega)]; omega
      · rw [if_neg h2, if_neg (by omega)]; omega
theorem cntO_all (rs : List Orow) (k : Nat) (h : ∀ m, m < k → 0 ≤ (rs.getD m r0).u ∧ (rs.getD m r0).u < 6) : cntO rs k 6 = k := by
  induction k with
  | zero => exact cntO_zero rs 6
  | succ k ih => rw [cntO_succ, ih (fun m hm => h m (by omega)), if_pos (by have := h k (by omega); exact ⟨this.1, by omega⟩)]
theorem rowOk_u {r : Orow} (h : rowOk r = true) : 0 ≤ r.u ∧ r.u < 6 := by
  unfold rowOk at h
  simp only [Bool.or_eq_true, Bool.and_eq_true] at h
  rcases h with ⟨⟨h, _⟩, _⟩ | ⟨h, _⟩
  · have : r.u = 0 := by simpa using h
    omega
  · have := inB_both h; omega
theorem cntO_ok {rs : List Orow} (h : rowsOk rs = true) : cntO rs rs.length 6 = 8 := by
  rw [cntO_all rs rs.length (fun m hm => rowOk_u (rowsOk_at h hm)), rowsOk_len8 h]
theorem cntO_le (rs : List Orow) (k j : Nat) : cntO rs k j ≤ j * k := by
  induction j with
  | zero => simp [cntO]
  | succ j ih =>
    have := ofP_len rs (j : Int) k
    rw [cntO, Nat.add_mul]; omega
/-- the i-th of the tickets that somebody has -/
theorem of_at {rs : List Orow} {who : Int} {i : Nat} (hi : i < (ownOf rs who).length) : ∃ m : Nat, (ownOf rs who).getD i 0 = (m : Int) ∧ m < rs.length ∧ (rs.getD m r0).u = who := by
  have e : (ownOf rs who).getD i 0 = (ownOf rs who)[i] := by simp [List.getD, hi]
  rw [e]
  exact ofP_mem rs who rs.length _ (List.getElem_mem hi)
theorem of_rise {rs : List Orow} {who : Int} {i : Nat} (h0 : 0 < i) (hi : i < (ownOf rs who).length) : (ownOf rs who).getD (i - 1) 0 < (ownOf rs who).getD i 0 := by
  have h1 : i - 1 < (ownOf rs who).length := by omega
  have e : (ownOf rs who).getD i 0 = (ownOf rs who)[i] := by simp [List.getD, hi]
  have e1 : (ownOf rs who).getD (i - 1) 0 = (ownOf rs who)[i - 1] := by simp [List.getD, h1]
  rw [e, e1]
  exact List.pairwise_iff_getElem.1 (ofP_rise rs who rs.length) (i - 1) i h1 hi (by omega)
set_option maxHeartbeats 4000000 in
theorem walkFnOwnOf (a0 : Option Addr) (len0 cap0 : Nat) (z0 : List Int) (w : World) (w0 : InK .u8 w a0 len0 cap0 z0) : Calls Try.prog 16 #[.slice a0 len0 cap0] w (True_ w) := by
  have hlen : len0 ≤ 9223372036854775807 := by have := w0.cap; have := w0.top; unfold maxLen at this; omega
  by_cases hbig : len0 ≤ 1048576
  · have HB := Lib.hid w0.bytes
    clear w0
    go_enter Try.func16, Try.ntmps16
    go_wp2_with fail
    refine (DrawOwnOf_any _ _ _ _ _ HB.out (by omega)).mono ?_
    rintro e w1 ⟨A, n, c, rs, who, rfl, hw0, hw6, L⟩
    have HLen := Lib.hid L.len
    have HR1 := Lib.hid L.reads
    have B1 := Lib.hid L.below
    have hn := L.few
    clear L HB
    go_wp2_with fail
    refine (OwnOf_any _ _ _ _ rs who _ HLen.out HR1.out (by omega)).mono ?_
    rintro e w2 ⟨A2, n2, c2, rfl, hl2, ho2, hb2⟩
    have HL2 := Lib.hid hl2
    have hn2 : n2 ≤ 8 := by have := ofP_len rs who rs.length; have := HLen.out; have h5 : (ofP rs who rs.length).length = n2 := hl2; omega
    have HX2 := Lib.hid (RK.of_own ho2)
    have HR2 := Lib.hid (HR1.out.below hb2)
    have B2 := Lib.hid (below_at B1.out hb2)
    clear hl2 ho2 hb2 HR1 B1
    go_wp2_with fail
    refine (sOwnOf_any _ _ _ _ rs who _ HLen.out HR2.out (by omega)).mono ?_
    rintro e w3 ⟨A3, n3, c3, rfl, hl3, ho3, hb3⟩
    obtain rfl : n3 = n2 := by rw [← hl3]; exact HL2.out
    have HX3 := Lib.hid (HX2.out.below hb3)
    have HR3 := Lib.hid (HR2.out.below hb3)
    have B3 := Lib.hid (below_at B2.out hb3)
    have HY3 := Lib.hid (RK.of_own ho3)
    clear hl3 ho3 hb3 HX2 HR2 B2
    go_wp2_with fail
    refine (swInts_same _ _ _ _ _ _ _ _ _ HL2.out (by omega) HX3.out HY3.out).mono ?_
    rintro e w4 ⟨rfl, m4, rfl⟩
    have HX4 := Lib.hid (show RI (w3.drewN m4) _ A2 _ from HX3.out)
    have HR4 := Lib.hid (show RV (w3.drewN m4) _ A _ from HR3.out)
    have B4 := Lib.hid (below_drewN B3.out m4)
    clear HX3 HR3 B3 HY3
    generalize w3.drewN m4 = w4 at *
    go_wp2_with fail
    refine (OwnCount_any _ _ _ _ rs who _ HLen.out HR4.out (by omega)).mono ?_
    rintro e w5 ⟨rfl, hb5⟩
    have HX5 := Lib.hid (HX4.out.below hb5)
    have HR5 := Lib.hid (HR4.out.below hb5)
    have B5 := Lib.hid (below_at B4.out hb5)
    clear hb5 HX4 HR4 B4
    rw [HL2.out]
    go_wp2_with fail
    refine (sOwnCount_any _ _ _ _ rs who _ HLen.out HR5.out (by omega)).mono ?_
    rw [HL2.out]
    rintro e w6 ⟨rfl, hb6⟩
    have HX := Lib.hid (HX5.out.below hb6)
    have HR := Lib.hid (HR5.out.below hb6)
    have B := Lib.hid (below_at B5.out hb6)
    clear hb6 HX5 HR5 B5
    go_wp2_with fail
    go_loopw [6, 7] (fun s i wr => ∃ j : Nat, j ≤ 6 ∧ i = .int .i64 (j : Int) ∧ s = .int .i64 ((cntO rs n j : Nat) : Int) ∧ Below w6.heap.size w6 wr) (fun _ i _ => 6 - (intOf i).toNat)
    case atStart => exact ⟨0, by omega, rfl, rfl, Below.refl _ _⟩
    case round =>
      obtain ⟨j, hj, rfl, rfl, hb⟩ := hrel
      have BB := Lib.hid hb
      clear hb
      have hcl : cntO rs n j ≤ 1000 := by
        have h1 := cntO_le rs n j
        have h3 : j * n ≤ 6 * n := Nat.mul_le_mul_right _ hj
        omega
      by_cases hlt : j < 6
      · have hab := ofP_len rs (j : Int) n
        have hst := Lib.hid (show cntO rs n (j + 1) = cntO rs n j + (ofP rs (j : Int) n).length from rfl)
        have heq := Lib.hid (show ownOf rs (j : Int) = ofP rs (j : Int) n by unfold ownOf; rw [HLen.out])
        generalize cntO rs n j = C at *
        go_wp2_with (go_at_call 40; refine (OwnOf_any _ _ _ _ rs (j : Int) _ HLen.out (HR.out.below BB.out) (by omega)).mono ?_; rw [heq.out]; rintro e w7 ⟨A7, n7, c7, rfl, hl7, ho7, hb7⟩; have BB7 := Lib.hid (below_at BB.out hb7); have hl7' := Lib.hid hl7; rw [hl7] at hab; clear ho7 hb7 hl7)
        go_roundw
        case rel => exact ⟨j + 1, by omega, by go_num, by rw [hst.out, hl7'.out]; go_num, BB7.out⟩
        case measure => simp [intOf]; omega
      · obtain rfl : j = 6 := by omega
        clear hlt hj
        rw [show ((6 : Nat) : Int) = 6 from rfl]
        have B7 := Lib.hid (below_at B.out BB.out)
        have HX7 := Lib.hid (HX.out.below BB.out)
        have HR7 := Lib.hid (HR.out.below BB.out)
        clear HX HR B BB
        have hfin := Lib.hid (show rowsOk rs = true → cntO rs n 6 = 8 from fun h => by rw [← HLen.out]; exact cntO_ok h)
        generalize cntO rs n 6 = C at *
        go_wp2_with fail
        go_loopw [8] (fun i w' => ∃ k m : Nat, k ≤ n3 ∧ i = .int .i64 (k : Int) ∧ w' = wr.drewN m) (fun i _ => n3 - (intOf i).toNat)
        case atStart => exact ⟨0, 0, by omega, rfl, rfl⟩
        case round =>
          obtain ⟨k, m, hk, rfl, rfl⟩ := hrel
          by_cases hlt : k < n3
          · obtain ⟨x, hx, hxn, hxu⟩ := of_at (rs := rs) (who := who) (i := k) (by rw [HL2.out]; exact hlt)
            obtain ⟨b2, o2, rfl, _, _, g1⟩ := HX7.out.at_ (j := k) (by rw [HL2.out]; exact hlt)
            rw [hx] at g1
            obtain ⟨b, o, rfl, _, _, h1, _, _⟩ := HR7.out.atR (j := x) hxn
            rw [hxu] at h1
            rw [HLen.out] at hxn
            clear hxu
            have p0 : (0 : Int) ≤ (k : Int) := by omega
            have p1 : (k : Int) < (n3 : Int) := by omega
            have p2 : (0 : Int) ≤ (x : Int) := by omega
            have p3 : (x : Int) < (n : Int) := by omega
            by_cases hk0 : k = 0
            · have q1 : decide ((0 : Int) < (k : Int)) = false := by simp; omega
              have q2 : decide (0 < k) = false := by simp; omega
              clear hx hk0
              go_wp2_with fail
              go_quiet (fail)
              go_wp2_with fail
              go_roundw
              case rel => exact ⟨k + 1, _, by omega, by go_num, rfl⟩
              case measure => simp [intOf]; omega
            · have hk1 : 0 < k := by omega
              obtain ⟨b3, o3, e, _, _, g0⟩ := HX7.out.at_ (j := k - 1) (by rw [HL2.out]; omega)
              injection e with e
              injection e with e1 e2
              subst e1 e2
              have hrise := of_rise (rs := rs) (who := who) (i := k) hk1 (by rw [HL2.out]; exact hlt)
              rw [hx] at hrise
              clear hx hk0
              generalize (ownOf rs who).getD (k - 1) 0 = y at *
              have y1 : IntKind.i64.wrap ((k : Int) - 1) = (k : Int) - 1 := IntWalk.i64_in _ (by omega)
              have y2 : (0 : Int) ≤ (k : Int) - 1 := by omega
              have y3 : (1 : Int) ≤ (k : Int) := by omega
              have y4 : (k : Int) - 1 < (n3 : Int) := by omega
              have y5 : ((k : Int) - 1).toNat = k - 1 := by omega
              have y6 : (0 : Int) < (k : Int) := by omega
              go_wp2_with fail
              go_quiet (fail)
              clear y1 y2 y4 y5
              go_wp2_with fail
              go_roundw
              case rel => exact ⟨k + 1, _, by omega, by go_num, rfl⟩
              case measure => simp [intOf]; omega
          · obtain rfl : k = n3 := by omega
            clear hlt hk
            have HR7d := Lib.hid (show RV (wr.drewN m) _ A _ from HR7.out)
            have B7d := Lib.hid (below_drewN B7.out m)
            clear HR7 B7
            cases hok : rowsOk rs
            · have HO := Lib.hid hok
              clear hok hfin
              go_wp2_with (first
                | (go_at_call 28; refine (OwnCount_any _ _ _ _ rs who _ HLen.out HR7d.out (by omega)).mono ?_; rw [HL2.out]; rintro e w8 ⟨rfl, hb8⟩; have HR8 := Lib.hid (HR7d.out.below hb8); have B8 := Lib.hid (below_at B7d.out hb8); clear hb8)
                | (go_at_call 30; refine (sOwnOk_any _ _ _ _ rs _ HLen.out HR8.out (by omega)).mono ?_; rw [HO.out]; rintro e w9 ⟨rfl, hb9⟩; have B9 := Lib.hid (below_at B8.out hb9); clear hb9)
                | (go_at_call 55; refine (swOk_any _).mono ?_; rintro e w' ⟨rfl, rfl⟩))
              go_ret
              exact ⟨rfl, B9.out⟩
            · have HO := Lib.hid hok
              obtain rfl : C = 8 := hfin.out hok
              clear hok hfin
              go_wp2_with (first
                | (go_at_call 28; refine (OwnCount_any _ _ _ _ rs who _ HLen.out HR7d.out (by omega)).mono ?_; rw [HL2.out]; rintro e w8 ⟨rfl, hb8⟩; have HR8 := Lib.hid (HR7d.out.below hb8); have B8 := Lib.hid (below_at B7d.out hb8); clear hb8)
                | (go_at_call 30; refine (sOwnOk_any _ _ _ _ rs _ HLen.out HR8.out (by omega)).mono ?_; rw [HO.out]; rintro e w9 ⟨rfl, hb9⟩; have B9 := Lib.hid (below_at B8.out hb9); clear hb9)
                | (go_at_call 55; refine (swOk_any _).mono ?_; rintro e w' ⟨rfl, rfl⟩))
              go_ret
              exact ⟨rfl, B9.out⟩
  · have hb : 1048576 < len0 := by omega
    clear w0 hbig
    go_enter Try.func16, Try.ntmps16
    go_wp2_with fail
    go_ret
    exact ⟨rfl, Below.refl _ _⟩
end Go.Proofs.Ytbgljjmmominbaa
