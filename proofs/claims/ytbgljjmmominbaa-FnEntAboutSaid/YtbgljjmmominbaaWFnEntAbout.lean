/- The walk of FnEntAbout. -/
import Derived.Test.YtbgljjmmominbaaDrawF
import Derived.Test.YtbgljjmmominbaaSw
namespace Go.Proofs.Ytbgljjmmominbaa
set_option linter.unusedVariables false
open Go.RowKit Pl
/-- how many are about the first j tickets -/
def cntA (es : List Ent) : Nat → Nat
  | 0 => 0
  | j + 1 => cntA es j + (aboutE es (j : Int)).length
def isT (e : Ent) : Bool := decide (0 ≤ e.t) && decide (e.t < 8)
def okA (es : List Ent) (k : Nat) : Nat := ((es.take k).filter isT).length
theorem cntA_nil (j : Nat) : cntA [] j = 0 := by
  induction j with
  | zero => rfl
  | succ j ih => simp [cntA, ih, aboutE]
theorem cntA_cons (x : Ent) (xs : List Ent) (j : Nat) : cntA (x :: xs) j = cntA xs j + if 0 ≤ x.t ∧ x.t < (j : Int) then 1 else 0 := by
  induction j with
  | zero => simp only [cntA]; rw [if_neg (by omega)]
  | succ j ih =>
    simp only [cntA, ih, aboutE, List.filter_cons]
    by_cases h : x.t = (j : Int)
    · have e : (x.t == (j : Int)) = true := by simpa using h
      rw [if_pos e, if_neg (by omega), if_pos (by omega)]
      simp; omega
    · have e : (x.t == (j : Int)) = false := by simpa using h
      simp only [e, Bool.false_eq_true, if_false]
      by_cases h2 : 0 ≤ x.t ∧ x.t < (j : Int)
      · rw [if_pos h2, if_pos (by omega)]; omega
      · rw [if_neg h2, if_neg (by omega)]; omega
theorem cntA_all (es : List Ent) : cntA es 8 = (es.filter isT).length := by
  induction es with
  | nil => rw [cntA_nil]; rfl
  | cons x xs ih =>
    rw [cntA_cons, ih, List.filter_cons]
    by_cases h : 0 ≤ x.t ∧ x.t < 8
    · rw [if_pos (by simpa using h), if_pos (by simp [isT]; exact h)]; simp
    · have e : isT x = false := by simp [isT]; omega
      rw [if_neg (by simpa using h), e]; simp
theorem okA_all (es : List Ent) (n : Nat) (h : es.length = n) : okA es n = cntA es 8 := by
  unfold okA; rw [List.take_of_length_le (by omega), cntA_all]
theorem okA_le (es : List Ent) (k : Nat) : okA es k ≤ k := by
  unfold okA
  exact Nat.le_trans (List.length_filter_le _ _) (by simp; omega)
theorem okA_step (es : List Ent) (k : Nat) (h : k < es.length) : okA es (k + 1) = okA es k + if 0 ≤ (es.getD k e0).t ∧ (es.getD k e0).t < 8 then 1 else 0 := by
  unfold okA
  rw [List.take_succ_eq_append_getElem h, List.filter_append, List.length_append, getD_get es e0 h]
  congr 1
  by_cases hc : 0 ≤ es[k].t ∧ es[k].t < 8
  · rw [if_pos hc]; simp [isT, hc]
  · rw [if_neg hc]
    have e : isT es[k] = false := by simp [isT]; omega
    simp [e]
theorem about_le (es : List Ent) (t : Int) : (aboutE es t).length ≤ es.length := List.length_filter_le _ _
theorem about_again (es : List Ent) (t : Int) : aboutE (aboutE es t) t = aboutE es t := by unfold aboutE; rw [List.filter_filter]; simp
theorem cntA_le (es : List Ent) (j : Nat) : cntA es j ≤ j * es.length := by
  induction j with
  | zero => simp [cntA]
  | succ j ih =>
    have := about_le es (j : Int)
    rw [cntA, Nat.add_mul]; omega
set_option maxHeartbeats 4000000 in
theorem walkFnEntAbout (a0 : Option Addr) (len0 cap0 : Nat) (z0 : List Int) (w : World) (w0 : InK .u8 w a0 len0 cap0 z0) : Calls Try.prog 14 #[.slice a0 len0 cap0] w (True_ w) := by
  have hlen : len0 ≤ 9223372036854775807 := by have := w0.cap; have := w0.top; unfold maxLen at this; omega
  by_cases hbig : len0 ≤ 1048576
  · have HB := Lib.hid w0.bytes
    clear w0
    go_enter Try.func14, Try.ntmps14
    go_wp2_with fail
    refine (DrawEntAbout_any _ _ _ _ _ HB.out (by omega)).mono ?_
    rintro e w1 ⟨A, n, c, es, t, rfl, ht0, ht8, L⟩
    have HLen := Lib.hid L.len
    have HR1 := Lib.hid L.reads
    have B1 := Lib.hid L.below
    have hn := L.few
    clear L HB
    go_wp2_with fail
    refine (EntAbout_any _ _ _ _ es t _ HLen.out HR1.out (by omega)).mono ?_
    rintro e w2 ⟨A2, n2, c2, rfl, hl2, ho2, hb2⟩
    have HL2 := Lib.hid hl2
    have hn2 : n2 ≤ 100 := by have := about_le es t; have := HLen.out; omega
    have HX2 := Lib.hid (RV.of_own ho2)
    have HR2 := Lib.hid (HR1.out.below hb2)
    have B2 := Lib.hid (below_at B1.out hb2)
    clear hl2 ho2 hb2 HR1 B1
    go_wp2_with fail
    refine (sEntAbout_any _ _ _ _ es t _ HLen.out HR2.out (by omega)).mono ?_
    rintro e w3 ⟨A3, n3, c3, rfl, hl3, ho3, hb3⟩
    obtain rfl : n3 = n2 := by rw [← hl3]; exact HL2.out
    have HX3 := Lib.hid (HX2.out.below hb3)
    have HR3 := Lib.hid (HR2.out.below hb3)
    have B3 := Lib.hid (below_at B2.out hb3)
    have HY3 := Lib.hid (RV.of_own ho3)
    clear hl3 ho3 hb3 HX2 HR2 B2
    go_wp2_with fail
    refine (swEntries_same _ _ _ _ _ _ _ _ _ HL2.out (by omega) HX3.out HY3.out).mono ?_
    rintro e w4 ⟨rfl, m4, rfl⟩
    have HX := Lib.hid (show RV (w3.drewN m4) _ A2 _ from HX3.out)
    have HR := Lib.hid (show RV (w3.drewN m4) _ A _ from HR3.out)
    have B := Lib.hid (below_drewN B3.out m4)
    clear HX3 HR3 B3 HY3
    generalize w3.drewN m4 = w4 at *
    go_wp2_with fail
    go_loopw [6, 7] (fun s i wr => ∃ j : Nat, j ≤ 8 ∧ i = .int .i64 (j : Int) ∧ s = .int .i64 ((cntA es j : Nat) : Int) ∧ Below w4.heap.size w4 wr) (fun _ i _ => 8 - (intOf i).toNat)
    case atStart => exact ⟨0, by omega, rfl, rfl, Below.refl _ _⟩
    case round =>
      obtain ⟨j, hj, rfl, rfl, hb⟩ := hrel
      have BB := Lib.hid hb
      clear hb
      have hcl : cntA es j ≤ 1000 := by
        have h1 := cntA_le es j
        have h2 := HLen.out
        have h3 : j * es.length ≤ 8 * es.length := Nat.mul_le_mul_right _ hj
        omega
      by_cases hlt : j < 8
      · have hab := about_le es (j : Int)
        rw [HLen.out] at hab
        have hst := Lib.hid (show cntA es (j + 1) = cntA es j + (aboutE es (j : Int)).length from rfl)
        generalize cntA es j = C at *
        go_wp2_with (go_at_call 35; refine (EntAbout_any _ _ _ _ es (j : Int) _ HLen.out (HR.out.below BB.out) (by omega)).mono ?_; rintro e w5 ⟨A5, n5, c5, rfl, hl5, ho5, hb5⟩; have BB5 := Lib.hid (below_at BB.out hb5); have hl5' := Lib.hid hl5; rw [hl5] at hab; clear ho5 hb5 hl5)
        go_roundw
        case rel => exact ⟨j + 1, by omega, by go_num, by rw [hst.out, hl5'.out]; go_num, BB5.out⟩
        case measure => simp [intOf]; omega
      · obtain rfl : j = 8 := by omega
        clear hlt hj
        have B5 := Lib.hid (below_at B.out BB.out)
        have HX5 := Lib.hid (HX.out.below BB.out)
        have HR5 := Lib.hid (HR.out.below BB.out)
        clear HX HR B BB
        have hfin := Lib.hid (okA_all es n HLen.out)
        generalize cntA es 8 = C at *
        go_wp2_with fail
        go_loop [8, 9] (fun s i => ∃ k : Nat, k ≤ n ∧ i = .int .i64 (k : Int) ∧ s = .int .i64 ((okA es k : Nat) : Int)) (fun _ i => n - (intOf i).toNat)
        case atStart => exact ⟨0, by omega, rfl, rfl⟩
        case round =>
          obtain ⟨k, hk, rfl, rfl⟩ := hrel
          have hokl := okA_le es k
          by_cases hlt : k < n
          · obtain ⟨b, o, rfl, _, _, h1, h2, h3, h4⟩ := HR5.out.atE (j := k) (by rw [HLen.out]; exact hlt)
            have hst := Lib.hid (okA_step es k (by rw [HLen.out]; exact hlt))
            generalize okA es k = D at *
            generalize es.getD k e0 = z at *
            by_cases hz0 : 0 ≤ z.t
            · by_cases hz8 : z.t < 8
              · go_wp2_with fail
                go_round
                case rel => exact ⟨k + 1, by omega, by go_num, by rw [hst.out, if_pos ⟨hz0, hz8⟩]; go_num⟩
                case measure => simp [intOf]; omega
              · go_wp2_with fail
                go_round
                case rel => exact ⟨k + 1, by omega, by go_num, by rw [hst.out, if_neg (by omega)]; go_num⟩
                case measure => simp [intOf]; omega
            · go_wp2_with fail
              go_round
              case rel => exact ⟨k + 1, by omega, by go_num, by rw [hst.out, if_neg (by omega)]; go_num⟩
              case measure => simp [intOf]; omega
          · obtain rfl : k = n := by omega
            rw [hfin.out] at *
            have hag := Lib.hid (about_again es t)
            go_wp2_with (go_at_call 35; refine (EntAbout_any _ _ _ _ (aboutE es t) t _ HL2.out HX5.out (by omega)).mono ?_; rw [hag.out]; rintro e w6 ⟨A6, n6, c6, rfl, hl6, ho6, hb6⟩; obtain rfl : n6 = n3 := (by rw [← hl6]; exact HL2.out); have B6 := Lib.hid (below_at B5.out hb6); have HX6 := Lib.hid (HX5.out.below hb6); have HY6 := Lib.hid (RV.of_own ho6); clear ho6 hb6 hl6)
            refine Calls.mono (swEntries_same _ _ _ _ _ _ _ _ _ HL2.out (by omega) HY6.out HX6.out) ?_
            rintro e w7 ⟨rfl, m7, rfl⟩
            go_wp2_with (go_at_call 55; refine (swOk_any _).mono ?_; rintro e w' ⟨rfl, rfl⟩)
            go_ret
            exact ⟨rfl, below_drewN B6.out _⟩
  · have hb : 1048576 < len0 := by omega
    clear w0 hbig
    go_enter Try.func14, Try.ntmps14
    go_wp2_with fail
    go_ret
    exact ⟨rfl, Below.refl _ _⟩
end Go.Proofs.Ytbgljjmmominbaa
