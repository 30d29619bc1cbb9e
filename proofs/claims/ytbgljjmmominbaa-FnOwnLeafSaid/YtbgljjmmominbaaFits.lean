/- Contracts: whether an entry may follow. -/
import Derived.Test.YtbgljjmmominbaaRowsOk
namespace Go.Proofs.Ytbgljjmmominbaa
set_option linter.unusedVariables false
open Go.RowKit Pl
/-- how a ticket stands lets an entry follow -/
def fits1 (r : Orow) (e : Ent) : Bool := if e.k = 1 then r.u == 0 else if e.k = 2 then ((r.u != 0) && ((r.u != e.u) && ((!r.b) && decide (e.p ≤ capI r.f)))) else ((r.u == e.u) && (!r.b))
theorem fits1_two (r : Orow) (t eu p : Int) : fits1 r ⟨2, t, eu, p⟩ = ((r.u != 0) && ((r.u != eu) && ((!r.b) && decide (p ≤ capI r.f)))) := rfl
theorem two_boxes (w : World) (x y : Obj) : Below w.heap.size w ((w.alloc x).alloc y) := ((Below.refl _ w).alloc (Nat.le_refl _) x).alloc (by simp) y
def okE (e : Ent) : Bool := entOk e.k e.t e.u e.p
def ownFits (rs : List Orow) (e : Ent) : Bool := rowsOk rs && (okE e && fits1 (rs.getD e.t.toNat r0) e)
theorem okE_t {e : Ent} (h : okE e = true) : 0 ≤ e.t ∧ e.t ≤ 7 := by
  unfold okE entOk at h
  rw [Bool.and_eq_true, Bool.and_eq_true] at h
  exact inB_both h.1.1
set_option maxHeartbeats 4000000 in
theorem fits_any (A : Option Addr) (n c L : Nat) (rs : List Orow) (k eu p : Int) (t : Nat) (w : World) (hl : rs.length = n) (hr : RV w L A (flatR rs)) (hn : n ≤ 1500000) (ht : t < n) :
    Calls Try.prog 79 #[.slice A n c, .agg #[.int .i64 k, .int .i64 (t : Int), .int .i64 eu, .int .i64 p]] w fun e w' => e = .returned (.bool (fits1 (rs.getD t r0) ⟨k, (t : Int), eu, p⟩)) ∧ Below w.heap.size w w' := by
  obtain ⟨b, o, rfl, _, hbs, h1, h2, h3⟩ := hr.atR (j := t) (by rw [hl]; exact ht)
  have htn : (t : Int) < (n : Int) := by omega
  clear hl hr
  generalize rs.getD t r0 = r at *
  obtain ⟨u, f, bb⟩ := r
  by_cases k1 : k = 1
  · subst k1
    have hv : fits1 ⟨u, f, bb⟩ ⟨1, (t : Int), eu, p⟩ = (u == 0) := rfl
    rw [hv]
    go_enter Try.func79, Try.ntmps79
    go_wp2_with fail
    go_ret
    first | exact ⟨rfl, two_boxes _ _ _⟩ | exact ⟨rfl, below_drewN (two_boxes _ _ _) _⟩
  have k1f : (k == 1) = false := by simpa using k1
  by_cases k2 : k = 2
  · subst k2
    cases hu : u == 0
    · have hun : (u != 0) = true := by simp only [bne, hu]; rfl
      cases he : u == eu
      · have hen : (u != eu) = true := by simp only [bne, he]; rfl
        cases bb
        · have hv : fits1 ⟨u, f, false⟩ ⟨2, (t : Int), eu, p⟩ = decide (p ≤ capI f) := by rw [fits1_two, hun, hen]; rfl
          rw [hv]
          go_enter Try.func79, Try.ntmps79
          go_wp2_with fail
          go_quiet (first | (go_at_call 53; apply quiet_same; (with_reducible exact EntCap_any _ _)))
          go_wp2_with fail
          go_ret
          first | exact ⟨rfl, two_boxes _ _ _⟩ | exact ⟨rfl, below_drewN (two_boxes _ _ _) _⟩
        · have hv : fits1 ⟨u, f, true⟩ ⟨2, (t : Int), eu, p⟩ = false := by rw [fits1_two, hun, hen]; rfl
          rw [hv]
          go_enter Try.func79, Try.ntmps79
          go_wp2_with fail
          go_quiet (first | (go_at_call 53; apply quiet_same; (with_reducible exact EntCap_any _ _)))
          go_wp2_with fail
          go_ret
          first | exact ⟨rfl, two_boxes _ _ _⟩ | exact ⟨rfl, below_drewN (two_boxes _ _ _) _⟩
      · have hen : (u != eu) = false := by simp only [bne, he]; rfl
        have hv : fits1 ⟨u, f, bb⟩ ⟨2, (t : Int), eu, p⟩ = false := by rw [fits1_two, hun, hen]; rfl
        rw [hv]
        cases bb
        all_goals
          go_enter Try.func79, Try.ntmps79
          go_wp2_with fail
          go_quiet (first | (go_at_call 53; apply quiet_same; (with_reducible exact EntCap_any _ _)))
          go_wp2_with fail
          go_ret
          first | exact ⟨rfl, two_boxes _ _ _⟩ | exact ⟨rfl, below_drewN (two_boxes _ _ _) _⟩
    · have hun : (u != 0) = false := by simp only [bne, hu]; rfl
      have hv : fits1 ⟨u, f, bb⟩ ⟨2, (t : Int), eu, p⟩ = false := by rw [fits1_two, hun]; rfl
      rw [hv]
      go_enter Try.func79, Try.ntmps79
      go_wp2_with fail
      go_quiet (first | (go_at_call 53; apply quiet_same; (with_reducible exact EntCap_any _ _)))
      go_wp2_with fail
      go_ret
      first | exact ⟨rfl, two_boxes _ _ _⟩ | exact ⟨rfl, below_drewN (two_boxes _ _ _) _⟩
  have k2f : (k == 2) = false := by simpa using k2
  have hv : fits1 ⟨u, f, bb⟩ ⟨k, (t : Int), eu, p⟩ = ((u == eu) && !bb) := by simp only [fits1]; rw [if_neg k1, if_neg k2]
  rw [hv]
  clear k1 k2 hv
  cases he : u == eu
  all_goals
    cases bb
    all_goals
      go_enter Try.func79, Try.ntmps79
      go_wp2_with fail
      go_ret
      first | exact ⟨rfl, two_boxes _ _ _⟩ | exact ⟨rfl, below_drewN (two_boxes _ _ _) _⟩
set_option maxHeartbeats 1000000 in
theorem OwnFits_any (A : Option Addr) (n c L : Nat) (rs : List Orow) (k t eu p : Int) (w : World) (hl : rs.length = n) (hr : RV w L A (flatR rs)) (hn : n ≤ 1500000) :
    Calls Try.prog 48 #[.slice A n c, .agg #[.int .i64 k, .int .i64 t, .int .i64 eu, .int .i64 p]] w fun e w' => e = .returned (.bool (ownFits rs ⟨k, t, eu, p⟩)) ∧ Below w.heap.size w w' := by
  have HL := Lib.hid hl
  have HR := Lib.hid hr
  clear hl hr
  cases hR : rowsOk rs
  · have hv : ownFits rs ⟨k, t, eu, p⟩ = false := by simp [ownFits, hR]
    rw [hv]
    go_enter Try.func48, Try.ntmps48
    go_wp2_with fail
    refine (OwnOk_any _ _ _ _ rs _ HL.out (HR.out.alloc _) hn).mono ?_
    rw [hR]
    rintro e w2 ⟨rfl, hb2⟩
    have B2 := Lib.hid (((Below.refl _ w).alloc (Nat.le_refl _) _).trans (hb2.mono (by simp)))
    clear hb2
    go_wp2_with fail
    go_ret
    exact ⟨rfl, B2.out⟩
  · cases hE : entOk k t eu p
    · have hv : ownFits rs ⟨k, t, eu, p⟩ = false := by simp [ownFits, hR, okE, hE]
      rw [hv]
      go_enter Try.func48, Try.ntmps48
      go_wp2_with fail
      refine (OwnOk_any _ _ _ _ rs _ HL.out (HR.out.alloc _) hn).mono ?_
      rw [hR]
      rintro e w2 ⟨rfl, hb2⟩
      obtain ⟨x1, x2, x3, x4⟩ := kept4 hb2
      have B2 := Lib.hid (((Below.refl _ w).alloc (Nat.le_refl _) _).trans (hb2.mono (by simp)))
      clear hb2
      go_wp2_with fail
      refine (EntOk_any _ _ _ _ _).mono ?_
      rw [hE]
      rintro e w3 ⟨rfl, hb3⟩
      have B3 := Lib.hid (below_at B2.out hb3)
      clear hb3
      go_wp2_with fail
      go_ret
      exact ⟨rfl, B3.out⟩
    · have ht := okE_t (e := ⟨k, t, eu, p⟩) hE
      simp only at ht
      obtain ⟨t0, t7⟩ := ht
      obtain ⟨j, rfl⟩ := Int.eq_ofNat_of_zero_le t0
      have h8 : n = 8 := by
        have := HL.out
        unfold rowsOk at hR
        simp at hR
        omega
      have hv : ownFits rs ⟨k, j, eu, p⟩ = fits1 (rs.getD j r0) ⟨k, j, eu, p⟩ := by simp [ownFits, hR, okE, hE]
      rw [hv]
      have hj : j < n := by omega
      clear hv h8
      go_enter Try.func48, Try.ntmps48
      go_wp2_with fail
      refine (OwnOk_any _ _ _ _ rs _ HL.out (HR.out.alloc _) hn).mono ?_
      rw [hR]
      rintro e w2 ⟨rfl, hb2⟩
      obtain ⟨x1, x2, x3, x4⟩ := kept4 hb2
      have hs2 := hb2.size
      have R2 := Lib.hid ((HR.out.alloc _).below hb2)
      have B2 := Lib.hid (((Below.refl _ w).alloc (Nat.le_refl _) _).trans (hb2.mono (by simp)))
      clear hb2
      go_wp2_with fail
      refine (EntOk_any _ _ _ _ _).mono ?_
      rw [hE]
      rintro e w3 ⟨rfl, hb3⟩
      have hlt : w.heap.size < w2.heap.size := by simp at hs2; omega
      have y1 := (hb3.cell (p := ⟨w.heap.size, 0, none⟩) hlt).trans x1
      have y2 := (hb3.cell (p := ⟨w.heap.size, 1, none⟩) hlt).trans x2
      have y3 := (hb3.cell (p := ⟨w.heap.size, 2, none⟩) hlt).trans x3
      have y4 := (hb3.cell (p := ⟨w.heap.size, 3, none⟩) hlt).trans x4
      have B3 := Lib.hid (below_at B2.out hb3)
      have R3 := Lib.hid (R2.out.below hb3)
      clear hb3 x1 x2 x3 x4
      go_wp2_with fail
      refine (fits_any _ _ _ _ rs _ _ _ _ _ HL.out R3.out hn hj).mono ?_
      rintro e w4 ⟨rfl, hb4⟩
      have B4 := Lib.hid (below_at B3.out hb4)
      clear hb4
      go_wp2_with fail
      go_ret
      exact ⟨rfl, B4.out⟩
set_option maxHeartbeats 8000000 in
theorem sOwnFits_any (A : Option Addr) (n c L : Nat) (rs : List Orow) (k t eu p : Int) (w : World) (hl : rs.length = n) (hr : RV w L A (flatR rs)) (hn : n ≤ 1500000) :
    Calls Try.prog 47 #[.slice A n c, .agg #[.int .i64 k, .int .i64 t, .int .i64 eu, .int .i64 p]] w fun e w' => e = .returned (.bool (ownFits rs ⟨k, t, eu, p⟩)) ∧ Below w.heap.size w w' := by
  have HL := Lib.hid hl
  have HR := Lib.hid hr
  clear hl hr
  cases hR : rowsOk rs
  · have hv : ownFits rs ⟨k, t, eu, p⟩ = false := by simp [ownFits, hR]
    rw [hv]
    go_enter Try.func47, Try.ntmps47
    go_wp2_with fail
    refine (sOwnOk_any _ _ _ _ rs _ HL.out (HR.out.alloc _) hn).mono ?_
    rw [hR]
    rintro e w2 ⟨rfl, hb2⟩
    have B2 := Lib.hid (((Below.refl _ w).alloc (Nat.le_refl _) _).trans (hb2.mono (by simp)))
    clear hb2
    go_wp2_with fail
    go_ret
    exact ⟨rfl, B2.out⟩
  · cases hE : entOk k t eu p
    · have hv : ownFits rs ⟨k, t, eu, p⟩ = false := by simp [ownFits, hR, okE, hE]
      rw [hv]
      go_enter Try.func47, Try.ntmps47
      go_wp2_with fail
      refine (sOwnOk_any _ _ _ _ rs _ HL.out (HR.out.alloc _) hn).mono ?_
      rw [hR]
      rintro e w2 ⟨rfl, hb2⟩
      obtain ⟨x1, x2, x3, x4⟩ := kept4 hb2
      have B2 := Lib.hid (((Below.refl _ w).alloc (Nat.le_refl _) _).trans (hb2.mono (by simp)))
      clear hb2
      go_wp2_with fail
      refine (sEntOk_any _ _ _ _ _).mono ?_
      rw [hE]
      rintro e w3 ⟨rfl, hb3⟩
      have B3 := Lib.hid (below_at B2.out hb3)
      clear hb3
      go_wp2_with fail
      go_ret
      exact ⟨rfl, B3.out⟩
    · have ht := okE_t (e := ⟨k, t, eu, p⟩) hE
      simp only at ht
      obtain ⟨t0, t7⟩ := ht
      obtain ⟨j, rfl⟩ := Int.eq_ofNat_of_zero_le t0
      have h8 : n = 8 := by
        have := HL.out
        unfold rowsOk at hR
        simp at hR
        omega
      have hv : ownFits rs ⟨k, j, eu, p⟩ = fits1 (rs.getD j r0) ⟨k, j, eu, p⟩ := by simp [ownFits, hR, okE, hE]
      rw [hv]
      have hj : j < n := by omega
      have hjn : (j : Int) < (n : Int) := by omega
      obtain ⟨b, o, rfl, _, hbs, g1, g2, g3⟩ := HR.out.atR (j := j) (by rw [HL.out]; exact hj)
      clear hv h8
      obtain ⟨r, hr⟩ : ∃ r, r = rs.getD j r0 := ⟨_, rfl⟩
      rw [← hr] at g1 g2 g3 ⊢
      obtain ⟨u, f, bb⟩ := r
      have G1 := Lib.hid g1
      have G2 := Lib.hid g2
      have G3 := Lib.hid g3
      clear g1 g2 g3 hr
      by_cases k1 : k = 1
      · subst k1
        have hv : fits1 ⟨u, f, bb⟩ ⟨1, (j : Int), eu, p⟩ = (u == 0) := rfl
        rw [hv]
        go_enter Try.func47, Try.ntmps47
        go_wp2_with fail
        refine (sOwnOk_any _ _ _ _ rs _ HL.out (HR.out.alloc _) hn).mono ?_
        rw [hR]
        rintro e w2 ⟨rfl, hb2⟩
        obtain ⟨x1, x2, x3, x4⟩ := kept4 hb2
        have hs2 := hb2.size
        have c1 := ((HR.out.alloc _).below hb2)
        have B2 := Lib.hid (((Below.refl _ w).alloc (Nat.le_refl _) _).trans (hb2.mono (by simp)))
        have z1 := (hb2.cell (p := ⟨b, o + j * 3, none⟩) (by simp; omega)).trans ((World.cell?_alloc_lt _ _ _ hbs).trans G1.out)
        have z2 := (hb2.cell (p := ⟨b, o + j * 3 + 1, none⟩) (by simp; omega)).trans ((World.cell?_alloc_lt _ _ _ hbs).trans G2.out)
        have z3 := (hb2.cell (p := ⟨b, o + j * 3 + 2, none⟩) (by simp; omega)).trans ((World.cell?_alloc_lt _ _ _ hbs).trans G3.out)
        clear hb2 c1
        go_wp2_with fail
        refine (sEntOk_any _ _ _ _ _).mono ?_
        rw [hE]
        rintro e w3 ⟨rfl, hb3⟩
        have hlt : w.heap.size < w2.heap.size := by simp at hs2; omega
        have hb2s : b < w2.heap.size := by omega
        have y1 := (hb3.cell (p := ⟨w.heap.size, 0, none⟩) hlt).trans x1
        have y2 := (hb3.cell (p := ⟨w.heap.size, 1, none⟩) hlt).trans x2
        have y3 := (hb3.cell (p := ⟨w.heap.size, 2, none⟩) hlt).trans x3
        have y4 := (hb3.cell (p := ⟨w.heap.size, 3, none⟩) hlt).trans x4
        have v1 := (hb3.cell (p := ⟨b, o + j * 3, none⟩) hb2s).trans z1
        have v2 := (hb3.cell (p := ⟨b, o + j * 3 + 1, none⟩) hb2s).trans z2
        have v3 := (hb3.cell (p := ⟨b, o + j * 3 + 2, none⟩) hb2s).trans z3
        have B3 := Lib.hid (below_at B2.out hb3)
        have hs3 := hb3.size
        have hlt3 : w.heap.size < w3.heap.size := by omega
        clear hb3 x1 x2 x3 x4 z1 z2 z3
        go_wp2_with fail
        go_ret
        first | exact ⟨rfl, B3.out.alloc B3.out.size _⟩ | exact ⟨rfl, below_drewN (B3.out.alloc B3.out.size _) _⟩
      have k1f : (k == 1) = false := by simpa using k1
      by_cases k2 : k = 2
      · subst k2
        cases hu : u == 0
        · have hun : (u != 0) = true := by simp only [bne, hu]; rfl
          cases he : u == eu
          · have hen : (u != eu) = true := by simp only [bne, he]; rfl
            cases bb
            · have hv : fits1 ⟨u, f, false⟩ ⟨2, (j : Int), eu, p⟩ = decide (p ≤ capI f) := by rw [fits1_two, hun, hen]; rfl
              rw [hv]
              go_enter Try.func47, Try.ntmps47
              go_wp2_with fail
              refine (sOwnOk_any _ _ _ _ rs _ HL.out (HR.out.alloc _) hn).mono ?_
              rw [hR]
              rintro e w2 ⟨rfl, hb2⟩
              obtain ⟨x1, x2, x3, x4⟩ := kept4 hb2
              have hs2 := hb2.size
              have c1 := ((HR.out.alloc _).below hb2)
              have B2 := Lib.hid (((Below.refl _ w).alloc (Nat.le_refl _) _).trans (hb2.mono (by simp)))
              have z1 := (hb2.cell (p := ⟨b, o + j * 3, none⟩) (by simp; omega)).trans ((World.cell?_alloc_lt _ _ _ hbs).trans G1.out)
              have z2 := (hb2.cell (p := ⟨b, o + j * 3 + 1, none⟩) (by simp; omega)).trans ((World.cell?_alloc_lt _ _ _ hbs).trans G2.out)
              have z3 := (hb2.cell (p := ⟨b, o + j * 3 + 2, none⟩) (by simp; omega)).trans ((World.cell?_alloc_lt _ _ _ hbs).trans G3.out)
              clear hb2 c1
              go_wp2_with fail
              refine (sEntOk_any _ _ _ _ _).mono ?_
              rw [hE]
              rintro e w3 ⟨rfl, hb3⟩
              have hlt : w.heap.size < w2.heap.size := by simp at hs2; omega
              have hb2s : b < w2.heap.size := by omega
              have y1 := (hb3.cell (p := ⟨w.heap.size, 0, none⟩) hlt).trans x1
              have y2 := (hb3.cell (p := ⟨w.heap.size, 1, none⟩) hlt).trans x2
              have y3 := (hb3.cell (p := ⟨w.heap.size, 2, none⟩) hlt).trans x3
              have y4 := (hb3.cell (p := ⟨w.heap.size, 3, none⟩) hlt).trans x4
              have v1 := (hb3.cell (p := ⟨b, o + j * 3, none⟩) hb2s).trans z1
              have v2 := (hb3.cell (p := ⟨b, o + j * 3 + 1, none⟩) hb2s).trans z2
              have v3 := (hb3.cell (p := ⟨b, o + j * 3 + 2, none⟩) hb2s).trans z3
              have B3 := Lib.hid (below_at B2.out hb3)
              have hs3 := hb3.size
              have hlt3 : w.heap.size < w3.heap.size := by omega
              clear hb3 x1 x2 x3 x4 z1 z2 z3
              go_wp2_with fail
              go_quiet (first | (go_at_call 54; apply quiet_same; (with_reducible exact sEntCap_any _ _)))
              go_wp2_with fail
              go_ret
              first | exact ⟨rfl, B3.out.alloc B3.out.size _⟩ | exact ⟨rfl, below_drewN (B3.out.alloc B3.out.size _) _⟩
            · have hv : fits1 ⟨u, f, true⟩ ⟨2, (j : Int), eu, p⟩ = false := by rw [fits1_two, hun, hen]; rfl
              rw [hv]
              go_enter Try.func47, Try.ntmps47
              go_wp2_with fail
              refine (sOwnOk_any _ _ _ _ rs _ HL.out (HR.out.alloc _) hn).mono ?_
              rw [hR]
              rintro e w2 ⟨rfl, hb2⟩
              obtain ⟨x1, x2, x3, x4⟩ := kept4 hb2
              have hs2 := hb2.size
              have c1 := ((HR.out.alloc _).below hb2)
              have B2 := Lib.hid (((Below.refl _ w).alloc (Nat.le_refl _) _).trans (hb2.mono (by simp)))
              have z1 := (hb2.cell (p := ⟨b, o + j * 3, none⟩) (by simp; omega)).trans ((World.cell?_alloc_lt _ _ _ hbs).trans G1.out)
              have z2 := (hb2.cell (p := ⟨b, o + j * 3 + 1, none⟩) (by simp; omega)).trans ((World.cell?_alloc_lt _ _ _ hbs).trans G2.out)
              have z3 := (hb2.cell (p := ⟨b, o + j * 3 + 2, none⟩) (by simp; omega)).trans ((World.cell?_alloc_lt _ _ _ hbs).trans G3.out)
              clear hb2 c1
              go_wp2_with fail
              refine (sEntOk_any _ _ _ _ _).mono ?_
              rw [hE]
              rintro e w3 ⟨rfl, hb3⟩
              have hlt : w.heap.size < w2.heap.size := by simp at hs2; omega
              have hb2s : b < w2.heap.size := by omega
              have y1 := (hb3.cell (p := ⟨w.heap.size, 0, none⟩) hlt).trans x1
              have y2 := (hb3.cell (p := ⟨w.heap.size, 1, none⟩) hlt).trans x2
              have y3 := (hb3.cell (p := ⟨w.heap.size, 2, none⟩) hlt).trans x3
              have y4 := (hb3.cell (p := ⟨w.heap.size, 3, none⟩) hlt).trans x4
              have v1 := (hb3.cell (p := ⟨b, o + j * 3, none⟩) hb2s).trans z1
              have v2 := (hb3.cell (p := ⟨b, o + j * 3 + 1, none⟩) hb2s).trans z2
              have v3 := (hb3.cell (p := ⟨b, o + j * 3 + 2, none⟩) hb2s).trans z3
              have B3 := Lib.hid (below_at B2.out hb3)
              have hs3 := hb3.size
              have hlt3 : w.heap.size < w3.heap.size := by omega
              clear hb3 x1 x2 x3 x4 z1 z2 z3
              go_wp2_with fail
              go_quiet (first | (go_at_call 54; apply quiet_same; (with_reducible exact sEntCap_any _ _)))
              go_wp2_with fail
              go_ret
              first | exact ⟨rfl, B3.out.alloc B3.out.size _⟩ | exact ⟨rfl, below_drewN (B3.out.alloc B3.out.size _) _⟩
          · have hen : (u != eu) = false := by simp only [bne, he]; rfl
            have hv : fits1 ⟨u, f, bb⟩ ⟨2, (j : Int), eu, p⟩ = false := by rw [fits1_two, hun, hen]; rfl
            rw [hv]
            cases bb
            all_goals
              go_enter Try.func47, Try.ntmps47
              go_wp2_with fail
              refine (sOwnOk_any _ _ _ _ rs _ HL.out (HR.out.alloc _) hn).mono ?_
              rw [hR]
              rintro e w2 ⟨rfl, hb2⟩
              obtain ⟨x1, x2, x3, x4⟩ := kept4 hb2
              have hs2 := hb2.size
              have c1 := ((HR.out.alloc _).below hb2)
              have B2 := Lib.hid (((Below.refl _ w).alloc (Nat.le_refl _) _).trans (hb2.mono (by simp)))
              have z1 := (hb2.cell (p := ⟨b, o + j * 3, none⟩) (by simp; omega)).trans ((World.cell?_alloc_lt _ _ _ hbs).trans G1.out)
              have z2 := (hb2.cell (p := ⟨b, o + j * 3 + 1, none⟩) (by simp; omega)).trans ((World.cell?_alloc_lt _ _ _ hbs).trans G2.out)
              have z3 := (hb2.cell (p := ⟨b, o + j * 3 + 2, none⟩) (by simp; omega)).trans ((World.cell?_alloc_lt _ _ _ hbs).trans G3.out)
              clear hb2 c1
              go_wp2_with fail
              refine (sEntOk_any _ _ _ _ _).mono ?_
              rw [hE]
              rintro e w3 ⟨rfl, hb3⟩
              have hlt : w.heap.size < w2.heap.size := by simp at hs2; omega
              have hb2s : b < w2.heap.size := by omega
              have y1 := (hb3.cell (p := ⟨w.heap.size, 0, none⟩) hlt).trans x1
              have y2 := (hb3.cell (p := ⟨w.heap.size, 1, none⟩) hlt).trans x2
              have y3 := (hb3.cell (p := ⟨w.heap.size, 2, none⟩) hlt).trans x3
              have y4 := (hb3.cell (p := ⟨w.heap.size, 3, none⟩) hlt).trans x4
              have v1 := (hb3.cell (p := ⟨b, o + j * 3, none⟩) hb2s).trans z1
              have v2 := (hb3.cell (p := ⟨b, o + j * 3 + 1, none⟩) hb2s).trans z2
              have v3 := (hb3.cell (p := ⟨b, o + j * 3 + 2, none⟩) hb2s).trans z3
              have B3 := Lib.hid (below_at B2.out hb3)
              have hs3 := hb3.size
              have hlt3 : w.heap.size < w3.heap.size := by omega
              clear hb3 x1 x2 x3 x4 z1 z2 z3
              go_wp2_with fail
              go_quiet (first | (go_at_call 54; apply quiet_same; (with_reducible exact sEntCap_any _ _)))
              go_wp2_with fail
              go_ret
              first | exact ⟨rfl, B3.out.alloc B3.out.size _⟩ | exact ⟨rfl, below_drewN (B3.out.alloc B3.out.size _) _⟩
        · have hun : (u != 0) = false := by simp only [bne, hu]; rfl
          have hv : fits1 ⟨u, f, bb⟩ ⟨2, (j : Int), eu, p⟩ = false := by rw [fits1_two, hun]; rfl
          rw [hv]
          go_enter Try.func47, Try.ntmps47
          go_wp2_with fail
          refine (sOwnOk_any _ _ _ _ rs _ HL.out (HR.out.alloc _) hn).mono ?_
          rw [hR]
          rintro e w2 ⟨rfl, hb2⟩
          obtain ⟨x1, x2, x3, x4⟩ := kept4 hb2
          have hs2 := hb2.size
          have c1 := ((HR.out.alloc _).below hb2)
          have B2 := Lib.hid (((Below.refl _ w).alloc (Nat.le_refl _) _).trans (hb2.mono (by simp)))
          have z1 := (hb2.cell (p := ⟨b, o + j * 3, none⟩) (by simp; omega)).trans ((World.cell?_alloc_lt _ _ _ hbs).trans G1.out)
          have z2 := (hb2.cell (p := ⟨b, o + j * 3 + 1, none⟩) (by simp; omega)).trans ((World.cell?_alloc_lt _ _ _ hbs).trans G2.out)
          have z3 := (hb2.cell (p := ⟨b, o + j * 3 + 2, none⟩) (by simp; omega)).trans ((World.cell?_alloc_lt _ _ _ hbs).trans G3.out)
          clear hb2 c1
          go_wp2_with fail
          refine (sEntOk_any _ _ _ _ _).mono ?_
          rw [hE]
          rintro e w3 ⟨rfl, hb3⟩
          have hlt : w.heap.size < w2.heap.size := by simp at hs2; omega
          have hb2s : b < w2.heap.size := by omega
          have y1 := (hb3.cell (p := ⟨w.heap.size, 0, none⟩) hlt).trans x1
          have y2 := (hb3.cell (p := ⟨w.heap.size, 1, none⟩) hlt).trans x2
          have y3 := (hb3.cell (p := ⟨w.heap.size, 2, none⟩) hlt).trans x3
          have y4 := (hb3.cell (p := ⟨w.heap.size, 3, none⟩) hlt).trans x4
          have v1 := (hb3.cell (p := ⟨b, o + j * 3, none⟩) hb2s).trans z1
          have v2 := (hb3.cell (p := ⟨b, o + j * 3 + 1, none⟩) hb2s).trans z2
          have v3 := (hb3.cell (p := ⟨b, o + j * 3 + 2, none⟩) hb2s).trans z3
          have B3 := Lib.hid (below_at B2.out hb3)
          have hs3 := hb3.size
          have hlt3 : w.heap.size < w3.heap.size := by omega
          clear hb3 x1 x2 x3 x4 z1 z2 z3
          go_wp2_with fail
          go_quiet (first | (go_at_call 54; apply quiet_same; (with_reducible exact sEntCap_any _ _)))
          go_wp2_with fail
          go_ret
          first | exact ⟨rfl, B3.out.alloc B3.out.size _⟩ | exact ⟨rfl, below_drewN (B3.out.alloc B3.out.size _) _⟩
      have k2f : (k == 2) = false := by simpa using k2
      have hv : fits1 ⟨u, f, bb⟩ ⟨k, (j : Int), eu, p⟩ = ((u == eu) && !bb) := by simp only [fits1]; rw [if_neg k1, if_neg k2]
      rw [hv]
      clear k1 k2 hv
      cases he : u == eu
      all_goals
        cases bb
        all_goals
          go_enter Try.func47, Try.ntmps47
          go_wp2_with fail
          refine (sOwnOk_any _ _ _ _ rs _ HL.out (HR.out.alloc _) hn).mono ?_
          rw [hR]
          rintro e w2 ⟨rfl, hb2⟩
          obtain ⟨x1, x2, x3, x4⟩ := kept4 hb2
          have hs2 := hb2.size
          have c1 := ((HR.out.alloc _).below hb2)
          have B2 := Lib.hid (((Below.refl _ w).alloc (Nat.le_refl _) _).trans (hb2.mono (by simp)))
          have z1 := (hb2.cell (p := ⟨b, o + j * 3, none⟩) (by simp; omega)).trans ((World.cell?_alloc_lt _ _ _ hbs).trans G1.out)
          have z2 := (hb2.cell (p := ⟨b, o + j * 3 + 1, none⟩) (by simp; omega)).trans ((World.cell?_alloc_lt _ _ _ hbs).trans G2.out)
          have z3 := (hb2.cell (p := ⟨b, o + j * 3 + 2, none⟩) (by simp; omega)).trans ((World.cell?_alloc_lt _ _ _ hbs).trans G3.out)
          clear hb2 c1
          go_wp2_with fail
          refine (sEntOk_any _ _ _ _ _).mono ?_
          rw [hE]
          rintro e w3 ⟨rfl, hb3⟩
          have hlt : w.heap.size < w2.heap.size := by simp at hs2; omega
          have hb2s : b < w2.heap.size := by omega
          have y1 := (hb3.cell (p := ⟨w.heap.size, 0, none⟩) hlt).trans x1
          have y2 := (hb3.cell (p := ⟨w.heap.size, 1, none⟩) hlt).trans x2
          have y3 := (hb3.cell (p := ⟨w.heap.size, 2, none⟩) hlt).trans x3
          have y4 := (hb3.cell (p := ⟨w.heap.size, 3, none⟩) hlt).trans x4
          have v1 := (hb3.cell (p := ⟨b, o + j * 3, none⟩) hb2s).trans z1
          have v2 := (hb3.cell (p := ⟨b, o + j * 3 + 1, none⟩) hb2s).trans z2
          have v3 := (hb3.cell (p := ⟨b, o + j * 3 + 2, none⟩) hb2s).trans z3
          have B3 := Lib.hid (below_at B2.out hb3)
          have hs3 := hb3.size
          have hlt3 : w.heap.size < w3.heap.size := by omega
          clear hb3 x1 x2 x3 x4 z1 z2 z3
          go_wp2_with fail
          go_ret
          first | exact ⟨rfl, B3.out.alloc B3.out.size _⟩ | exact ⟨rfl, below_drewN (B3.out.alloc B3.out.size _) _⟩
end Go.Proofs.Ytbgljjmmominbaa
