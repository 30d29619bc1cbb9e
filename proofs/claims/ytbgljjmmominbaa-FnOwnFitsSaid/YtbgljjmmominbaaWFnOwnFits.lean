/- The walk of FnOwnFits. -/
import Derived.Test.YtbgljjmmominbaaNext
import Derived.Test.YtbgljjmmominbaaPlainF
namespace Go.Proofs.Ytbgljjmmominbaa
set_option linter.unusedVariables false
open Go.RowKit Pl
theorem fits_rows {rs : List Orow} {e : Ent} (h : rowsOk rs = false) : ownFits rs e = false := by unfold ownFits; rw [h]; rfl
theorem fits_ent {rs : List Orow} {k t u p : Int} (h : entOk k t u p = false) : ownFits rs ⟨k, t, u, p⟩ = false := by
  unfold ownFits okE; rw [h]; simp
theorem fits_both {rs : List Orow} {k u p : Int} {t : Nat} (h : rowsOk rs = true) (h2 : entOk k (t : Int) u p = true) : ownFits rs ⟨k, (t : Int), u, p⟩ = fits1 (rs.getD t r0) ⟨k, (t : Int), u, p⟩ := by
  unfold ownFits okE; rw [h, h2]; simp
theorem ent_kind {k t u p : Int} (h : entOk k t u p = true) : k = 1 ∨ k = 2 ∨ k = 3 := by
  unfold entOk at h
  rw [Bool.and_eq_true] at h
  by_cases h1 : k = 1
  · exact .inl h1
  · by_cases h2 : k = 2
    · exact .inr (.inl h2)
    · rw [if_neg h1, if_neg h2] at h
      simp at h
      exact .inr (.inr h.2.1)
theorem Box.below' {H : Nat} {w w' : World} {k t u p : Int} (h : EBox H w k t u p) (hb : Below w.heap.size w w') : EBox H w' k t u p := h.below hb
set_option maxHeartbeats 8000000 in
theorem walkFnOwnFits (a0 : Option Addr) (len0 cap0 : Nat) (z0 : List Int) (w : World) (w0 : InK .u8 w a0 len0 cap0 z0) : Calls Try.prog 18 #[.slice a0 len0 cap0] w (True_ w) := by
  have hlen : len0 ≤ 9223372036854775807 := by have := w0.cap; have := w0.top; unfold maxLen at this; omega
  by_cases hbig : len0 ≤ 1048576
  · have HB := Lib.hid w0.bytes
    clear w0
    go_enter Try.func18, Try.ntmps18
    go_wp2_with fail
    refine (DrawOwnFits_any _ _ _ _ _ HB.out (by omega)).mono ?_
    rintro e w1 ⟨A, n, c, rs, k, t, u, p, rfl, L⟩
    have HLen := Lib.hid L.len
    have hn := L.few
    have EB1 := Lib.hid (EBox.new w1 k t u p)
    have HR1 := Lib.hid (L.reads.alloc (.cells #[.int .i64 k, .int .i64 t, .int .i64 u, .int .i64 p] 25))
    have B1 := Lib.hid (L.below.alloc L.below.size (.cells #[.int .i64 k, .int .i64 t, .int .i64 u, .int .i64 p] 25))
    clear L HB
    obtain ⟨V, hV⟩ : ∃ V, ownFits rs ⟨k, t, u, p⟩ = V := ⟨_, rfl⟩
    have HV := Lib.hid hV
    clear hV
    go_wp2_with fail
    refine (OwnFits_any _ _ _ _ rs k t u p _ HLen.out HR1.out (by omega)).mono ?_
    rw [HV.out]
    rintro e w2 ⟨rfl, hb2⟩
    have EB2 := Lib.hid (EB1.out.below hb2)
    have HR2 := Lib.hid (HR1.out.below hb2)
    have B2 := Lib.hid (below_at B1.out hb2)
    clear hb2 EB1 HR1 B1
    generalize w1.heap.size = H at *
    obtain ⟨c0, c1, c2, c3⟩ := EB2.out.cells
    go_wp2_with fail
    refine (sOwnFits_any _ _ _ _ rs k t u p _ HLen.out HR2.out (by omega)).mono ?_
    rw [HV.out]
    rintro e w3 ⟨rfl, hb3⟩
    have EB3 := Lib.hid (EB2.out.below hb3)
    have HR3 := Lib.hid (HR2.out.below hb3)
    have B3 := Lib.hid (below_at B2.out hb3)
    clear hb3 EB2 HR2 B2 c0 c1 c2 c3
    go_wp2_with fail
    refine (OwnOk_any _ _ _ _ rs _ HLen.out HR3.out (by omega)).mono ?_
    rintro e w4 ⟨rfl, hb4⟩
    have EB4 := Lib.hid (EB3.out.below hb4)
    have HR4 := Lib.hid (HR3.out.below hb4)
    have B4 := Lib.hid (below_at B3.out hb4)
    clear hb4 EB3 HR3 B3
    go_wp2_with fail
    refine (sOwnOk_any _ _ _ _ rs _ HLen.out HR4.out (by omega)).mono ?_
    rintro e w5 ⟨rfl, hb5⟩
    have EB5 := Lib.hid (EB4.out.below hb5)
    have HR5 := Lib.hid (HR4.out.below hb5)
    have B5 := Lib.hid (below_at B4.out hb5)
    clear hb5 EB4 HR4 B4
    go_wp2_with fail
    refine (sOwnOk_any _ _ _ _ rs _ HLen.out HR5.out (by omega)).mono ?_
    rintro e w6 ⟨rfl, hb6⟩
    have EB6 := Lib.hid (EB5.out.below hb6)
    have HR6 := Lib.hid (HR5.out.below hb6)
    have B6 := Lib.hid (below_at B5.out hb6)
    clear hb6 EB5 HR5 B5
    obtain ⟨O, hO⟩ : ∃ O, rowsOk rs = O := ⟨_, rfl⟩
    rw [hO]
    have HO := Lib.hid hO
    clear hO
    obtain ⟨c0, c1, c2, c3⟩ := EB6.out.cells
    cases O
    · obtain rfl : V = false := by rw [← HV.out]; exact fits_rows HO.out
      go_wp2_with (go_at_call 55; refine (swOk_any _).mono ?_; rintro e w' ⟨rfl, rfl⟩)
      go_ret
      exact ⟨rfl, B6.out⟩
    · go_wp2_with fail
      refine (sEntOk_any _ _ _ _ _).mono ?_
      rintro e w7 ⟨rfl, hb7⟩
      have EB7 := Lib.hid (EB6.out.below hb7)
      have HR7 := Lib.hid (HR6.out.below hb7)
      have B7 := Lib.hid (below_at B6.out hb7)
      clear hb7 EB6 HR6 B6 c0 c1 c2 c3
      obtain ⟨E, hE⟩ : ∃ E, entOk k t u p = E := ⟨_, rfl⟩
      rw [hE]
      have HE := Lib.hid hE
      clear hE
      cases E
      · obtain rfl : V = false := by rw [← HV.out]; exact fits_ent HE.out
        go_wp2_with (go_at_call 55; refine (swOk_any _).mono ?_; rintro e w' ⟨rfl, rfl⟩)
        go_ret
        exact ⟨rfl, B7.out⟩
      · obtain ⟨ht0, ht7⟩ := ent_ticket HE.out
        obtain ⟨tn, rfl⟩ := Int.eq_ofNat_of_zero_le ht0
        have hl8 := Lib.hid (rowsOk_len8 HO.out)
        have hn8 : n = 8 := by rw [← HLen.out]; exact hl8.out
        subst hn8
        have htn : tn < 8 := by omega
        obtain ⟨b, o, rfl, _, hbs, h1, h2, h3⟩ := HR7.out.atR (j := tn) (by rw [HLen.out]; exact htn)
        have HF := Lib.hid ((fits_both HO.out HE.out).symm.trans HV.out)
        generalize rs.getD tn r0 = r at *
        obtain ⟨ru, rf, rb⟩ := r
        have p0 : (0 : Int) ≤ (tn : Int) := by omega
        have p1 : (tn : Int) < (8 : Nat) := by omega
        have p2 : (tn : Int) < 8 := by omega
        obtain ⟨c0, c1, c2, c3⟩ := EB7.out.cells
        have J8 := Lib.hid (RBox.new w7 ru rf rb)
        have EB8 := Lib.hid (EB7.out.alloc (.cells #[.int .i64 ru, .int .i64 rf, .bool rb] 31))
        have B8 := Lib.hid (B7.out.alloc B7.out.size (.cells #[.int .i64 ru, .int .i64 rf, .bool rb] 31))
        clear EB7 HR7 B7 HV
        go_upto_region 10 with fail
        clear c0 c1 c2 c3 h1 h2 h3
        generalize w7.heap.size = J at *
        generalize w7.alloc (.cells #[.int .i64 ru, .int .i64 rf, .bool rb] 31) = w8 at *
        obtain ⟨j0, j1, j2⟩ := J8.out.cells
        obtain ⟨c0, c1, c2, c3⟩ := EB8.out.cells
        clear J8 EB8 p0 p1 p2
        have hk := ent_kind HE.out
        clear HE HO HLen hl8
        rcases hk with rfl | rfl | rfl
        · have hv : (ru == 0) = V := HF.out
          subst hv
          cases hu : ru == 0
          · go_upto_region 11 with fail
            go_quiet ((apply quiet_same; (with_reducible exact EntCap_any _ _)))
            go_wp2_with (go_at_call 55; refine (swOk_any _).mono ?_; rintro e w' ⟨rfl, rfl⟩)
            all_goals
              go_ret
              exact ⟨rfl, below_drewN B8.out _⟩
          · go_upto_region 11 with fail
            go_quiet ((apply quiet_same; (with_reducible exact EntCap_any _ _)))
            go_wp2_with (go_at_call 55; refine (swOk_any _).mono ?_; rintro e w' ⟨rfl, rfl⟩)
            all_goals
              go_ret
              exact ⟨rfl, below_drewN B8.out _⟩
        · have hv : ((ru != 0) && ((ru != u) && ((!rb) && decide (p ≤ capI rf)))) = V := HF.out
          clear HF
          by_cases hu0 : ru = 0
          · subst hu0
            obtain rfl : V = false := by rw [← hv]; rfl
            clear hv
            go_upto_region 11 with fail
            go_quiet ((apply quiet_same; (with_reducible exact EntCap_any _ _)))
            go_wp2_with (go_at_call 55; refine (swOk_any _).mono ?_; rintro e w' ⟨rfl, rfl⟩)
            all_goals
              go_ret
              exact ⟨rfl, below_drewN B8.out _⟩
          · have g1 : (ru == 0) = false := by simpa using hu0
            have g2 : (ru != 0) = true := by simpa using hu0
            rw [g2] at hv
            clear hu0
            by_cases hu1 : ru = u
            · subst hu1
              obtain rfl : V = false := by rw [← hv]; simp
              clear hv
              go_upto_region 11 with fail
              go_quiet ((apply quiet_same; (with_reducible exact EntCap_any _ _)))
              go_wp2_with (go_at_call 55; refine (swOk_any _).mono ?_; rintro e w' ⟨rfl, rfl⟩)
              all_goals
                go_ret
                exact ⟨rfl, below_drewN B8.out _⟩
            · have g3 : (ru == u) = false := by simpa using hu1
              have g4 : (ru != u) = true := by simpa using hu1
              rw [g4] at hv
              clear hu1
              cases rb
              · have hv2 : decide (p ≤ capI rf) = V := hv
                clear hv
                subst hv2
                go_upto_region 11 with fail
                go_quiet ((apply quiet_same; (with_reducible exact EntCap_any _ _)))
                go_wp2_with (go_at_call 55; refine (swOk_any _).mono ?_; rintro e w' ⟨rfl, rfl⟩)
                all_goals
                  go_ret
                  exact ⟨rfl, below_drewN B8.out _⟩
              · obtain rfl : V = false := hv.symm
                clear hv
                go_upto_region 11 with fail
                go_quiet ((apply quiet_same; (with_reducible exact EntCap_any _ _)))
                go_wp2_with (go_at_call 55; refine (swOk_any _).mono ?_; rintro e w' ⟨rfl, rfl⟩)
                all_goals
                  go_ret
                  exact ⟨rfl, below_drewN B8.out _⟩
        · have hv : ((ru == u) && (!rb)) = V := HF.out
          cases hu : ru == u
          · rw [hu] at hv
            subst hv
            go_upto_region 11 with fail
            go_quiet ((apply quiet_same; (with_reducible exact EntCap_any _ _)))
            go_wp2_with (go_at_call 55; refine (swOk_any _).mono ?_; rintro e w' ⟨rfl, rfl⟩)
            all_goals
              go_ret
              exact ⟨rfl, below_drewN B8.out _⟩
          · rw [hu] at hv
            cases rb
            · subst hv
              go_upto_region 11 with fail
              go_quiet ((apply quiet_same; (with_reducible exact EntCap_any _ _)))
              go_wp2_with (go_at_call 55; refine (swOk_any _).mono ?_; rintro e w' ⟨rfl, rfl⟩)
              all_goals
                go_ret
                exact ⟨rfl, below_drewN B8.out _⟩
            · subst hv
              go_upto_region 11 with fail
              go_quiet ((apply quiet_same; (with_reducible exact EntCap_any _ _)))
              go_wp2_with (go_at_call 55; refine (swOk_any _).mono ?_; rintro e w' ⟨rfl, rfl⟩)
              all_goals
                go_ret
                exact ⟨rfl, below_drewN B8.out _⟩
  · have hb : 1048576 < len0 := by omega
    clear w0 hbig
    go_enter Try.func18, Try.ntmps18
    go_wp2_with fail
    go_ret
    exact ⟨rfl, Below.refl _ _⟩
end Go.Proofs.Ytbgljjmmominbaa

