/- The walk of FnEntLeaf. -/
import Derived.Test.YtbgljjmmominbaaDrawF
import Derived.Test.YtbgljjmmominbaaSw
import Derived.Deep.RegionLaw
import Derived.Test.YtbgljjmmominbaaPlainC
namespace Go.Proofs.Ytbgljjmmominbaa
set_option linter.unusedVariables false
open Go.RowKit Pl
/-- an entry that is ok costs less than 77 -/
theorem ok_price {k t u p : Int} (h : entOk k t u p = true) : 0 ≤ p ∧ p ≤ 60 := by
  unfold entOk at h
  simp only [Bool.and_eq_true] at h
  obtain ⟨_, h⟩ := h
  split at h
  · have := inB_both h; omega
  · split at h
    · have := inB_both h; omega
    · simp at h; omega
theorem leaf_price {k t u p : Int} (h : entOk k t u p = true) : (mixLeafI [k, t, u, 77] != mixLeafI [k, t, u, p]) = true := by
  have hp := ok_price h
  have h2 := mixLeaf_last (l := [k, t, u, p]) (m := 77) (by simp) (by simp; omega)
  simpa using h2
theorem Bytes.below {w w' : World} {A : Option Addr} {n c : Nat} {bs : List Int} (h : Bytes w A n c bs) (hb : Below w.heap.size w w') : Bytes w' A n c bs := ⟨h.len, h.cap, h.reads.below hb, h.rng⟩
theorem below_drewN1' {w w' : World} {B : Nat} (h : Below B w w') : Below B w w'.drew := ⟨h.os, h.tape, h.output, h.size, h.block⟩
set_option maxHeartbeats 4000000 in
theorem walkFnEntLeaf (a0 : Option Addr) (len0 cap0 : Nat) (z0 : List Int) (a1 : Option Addr) (len1 cap1 : Nat) (z1 : List Int) (w : World) (w0 : InK .u8 w a0 len0 cap0 z0) (w1 : InK .u8 w a1 len1 cap1 z1) : Calls Try.prog 15 #[.slice a0 len0 cap0, .slice a1 len1 cap1] w (True_ w) := by
  have hlen0 : len0 ≤ 9223372036854775807 := by have := w0.cap; have := w0.top; unfold maxLen at this; omega
  have hlen1 : len1 ≤ 9223372036854775807 := by have := w1.cap; have := w1.top; unfold maxLen at this; omega
  by_cases hbig0 : len0 ≤ 1048576
  · by_cases hbig1 : len1 ≤ 1048576
    · have HB0 := Lib.hid w0.bytes
      have HB1 := Lib.hid w1.bytes
      clear w0 w1
      go_enter Try.func15, Try.ntmps15
      go_wp2_with fail
      refine (DrawEntLeaf_any _ _ _ _ _ HB0.out (by omega)).mono ?_
      rintro e w2 ⟨k, t, u, p, rfl, hb2⟩
      have EB2 := Lib.hid (EBox.new w2 k t u p)
      have B2 := Lib.hid (hb2.alloc hb2.size (.cells #[.int .i64 k, .int .i64 t, .int .i64 u, .int .i64 p] 25))
      have HB2 := Lib.hid ((HB1.out.below hb2).alloc (.cells #[.int .i64 k, .int .i64 t, .int .i64 u, .int .i64 p] 25))
      clear hb2 HB0 HB1
      go_wp2_with fail
      refine (DrawEntLeaves_any _ _ _ _ _ HB2.out (by omega)).mono ?_
      rintro e w3 ⟨A, n, c, es, rfl, L⟩
      have HLen := Lib.hid L.len
      have HR3 := Lib.hid L.reads
      have hn := L.few
      have EB3 := Lib.hid (EB2.out.below L.below)
      have B3 := Lib.hid (below_at B2.out L.below)
      clear L EB2 B2 HB2
      go_wp2_with fail
      refine (EntLeaves_any _ _ _ _ es _ HLen.out HR3.out (by omega)).mono ?_
      rintro e w4 ⟨A4, n4, c4, rfl, hl4, ho4, hb4⟩
      obtain rfl : n4 = n := by rw [← hl4, List.length_map]; exact HLen.out
      have HL4 := Lib.hid hl4
      have HX4 := Lib.hid (RK.of_own ho4)
      have HR4 := Lib.hid (HR3.out.below hb4)
      have EB4 := Lib.hid (EB3.out.below hb4)
      have B4 := Lib.hid (below_at B3.out hb4)
      clear hl4 ho4 hb4 HR3 EB3 B3
      obtain ⟨c0, c1, c2, c3⟩ := EB4.out.cells
      have tok1 : True := trivial
      go_wp2_with fail
      go_region_held3 (fun w' => w'.cell? ⟨w2.heap.size, 0, none⟩ = some (.int .i64 k) ∧ w'.cell? ⟨w2.heap.size, 1, none⟩ = some (.int .i64 t) ∧ w'.cell? ⟨w2.heap.size, 2, none⟩ = some (.int .i64 u) ∧ w'.cell? ⟨w2.heap.size, 3, none⟩ = some (.int .i64 p))
        (first | exact ⟨c0, c1, c2, c3⟩ | exact EB5.out.cells | exact EB6.out.cells | exact EB7.out.cells | exact EB8.out.cells)
        (first
        | (go_at_call 21; refine Calls.mono (EntLeaf_any _ _ _ _ _) ?_; rintro e w5 ⟨rfl, hb5⟩; have EB5 := Lib.hid (EB4.out.drew.below hb5); have B5 := Lib.hid (below_at (below_drewN1' B4.out) hb5); have HX5 := Lib.hid (HX4.out.drew.below hb5); have HR5 := Lib.hid (HR4.out.drew.below hb5); clear hb5)
        | (go_at_call 19; refine Calls.mono (sEntLeaf_any _ _ _ _ _) ?_; rintro e w6 ⟨rfl, hb6⟩; have EB6 := Lib.hid (EB5.out.below hb6); have B6 := Lib.hid (below_at B5.out hb6); have HX6 := Lib.hid (HX5.out.below hb6); have HR6 := Lib.hid (HR5.out.below hb6); clear hb6)
        | (go_at_call 45; refine Calls.mono (sEntLeaves_any _ _ _ _ es _ HLen.out HR6.out (by omega)) ?_; rintro e w7 ⟨A7, n7, c7, rfl, hl7, ho7, hb7⟩; have HX7 := Lib.hid (HX6.out.below hb7); have HY7 := Lib.hid (RK.of_own ho7); obtain rfl : n7 = n4 := (by rw [← hl7]; exact HL4.out); have EB7 := Lib.hid (EB6.out.below hb7); have B7 := Lib.hid (below_at B6.out hb7); have HR7 := Lib.hid (HR6.out.below hb7); clear hl7 ho7 hb7)
        | (go_at_call 62; refine Calls.mono (swInts_same _ _ _ _ _ _ _ _ _ HL4.out (by omega) HX7.out HY7.out) ?_; rintro e w8 ⟨rfl, m8, rfl⟩; have EB8 := Lib.hid (EB7.out.drewN m8); have B8 := Lib.hid (below_drewN B7.out m8); have HR8 := Lib.hid (HR7.out.drewN m8); have HX8 := Lib.hid (HX7.out.drewN m8)))
      clear EB4 EB5 EB6 EB7 B4 B5 B6 B7 HX4 HX5 HX6 HX7 HR4 HR5 HR6 HR7 HY7 c0 c1 c2 c3
      rename_i hHeld
      clear hHeld
      generalize w7.drewN m8 = w8 at *
      go_upto_region 8 with fail
      go_wp2_with fail
      go_loopw [8] (fun i wr => ∃ j : Nat, j ≤ n7 ∧ i = .int .i64 (j : Int) ∧ Below w8.heap.size w8 wr) (fun i _ => n7 - (intOf i).toNat)
      case atStart => exact ⟨0, by omega, rfl, Below.refl _ _⟩
      case round =>
        obtain ⟨j, hj, rfl, hb⟩ := hrel
        have BB := Lib.hid hb
        clear hb
        by_cases hlt : j < n7
        · obtain ⟨b, o, rfl, _, hbl, h1, h2, h3, h4⟩ := (HR8.out.below BB.out).atE (j := j) (by rw [HLen.out]; exact hlt)
          obtain ⟨b2, o2, rfl, _, hbl2, g1⟩ := (HX8.out.below BB.out).at_ (j := j) (by rw [HL4.out]; exact hlt)
          have hv : (es.map leafE).getD j 0 = mixLeafI [(es.getD j e0).k, (es.getD j e0).t, (es.getD j e0).u, (es.getD j e0).p] := by
            have h5 : j < es.length := by rw [HLen.out]; exact hlt
            rw [getD_get es e0 h5]; simp [List.getD, h5, leafE]
          rw [hv] at g1
          clear hv
          generalize es.getD j e0 = z at *
          have p0 : (0 : Int) ≤ (j : Int) := by omega
          have p1 : (j : Int) < (n7 : Int) := by omega
          go_wp2_with fail
          go_region_held3 (fun w' => w'.cell? ⟨b, o + j * 4, none⟩ = some (.int .i64 z.k) ∧ w'.cell? ⟨b, o + j * 4 + 1, none⟩ = some (.int .i64 z.t) ∧ w'.cell? ⟨b, o + j * 4 + 2, none⟩ = some (.int .i64 z.u) ∧ w'.cell? ⟨b, o + j * 4 + 3, none⟩ = some (.int .i64 z.p) ∧ w'.cell? ⟨b2, o2 + j, none⟩ = some (.int .i64 (mixLeafI [z.k, z.t, z.u, z.p])))
            (first | exact ⟨h1, h2, h3, h4, g1⟩ | exact Q9.out)
            (first
            | (go_at_call 21; refine Calls.mono (EntLeaf_any _ _ _ _ _) ?_; rintro e w9 ⟨rfl, hb9⟩; have B9 := Lib.hid (below_at (below_drewN1' BB.out) hb9); have Q9 := Lib.hid (show w9.cell? ⟨b, o + j * 4, none⟩ = some (.int .i64 z.k) ∧ w9.cell? ⟨b, o + j * 4 + 1, none⟩ = some (.int .i64 z.t) ∧ w9.cell? ⟨b, o + j * 4 + 2, none⟩ = some (.int .i64 z.u) ∧ w9.cell? ⟨b, o + j * 4 + 3, none⟩ = some (.int .i64 z.p) ∧ w9.cell? ⟨b2, o2 + j, none⟩ = some (.int .i64 (mixLeafI [z.k, z.t, z.u, z.p])) from ⟨(hb9.cell (p := ⟨b, o + j * 4, none⟩) hbl).trans h1, (hb9.cell (p := ⟨b, o + j * 4 + 1, none⟩) hbl).trans h2, (hb9.cell (p := ⟨b, o + j * 4 + 2, none⟩) hbl).trans h3, (hb9.cell (p := ⟨b, o + j * 4 + 3, none⟩) hbl).trans h4, (hb9.cell (p := ⟨b2, o2 + j, none⟩) hbl2).trans g1⟩); clear hb9))
          go_wp2_with fail
          go_roundw
          case rel => exact ⟨j + 1, by omega, by go_num, B9.out⟩
          case measure => simp [intOf]; omega
        · clear hj
          have EB9 := Lib.hid (EB8.out.below BB.out)
          have B9 := Lib.hid (below_at B8.out BB.out)
          clear EB8 B8 BB HX8 HR8
          obtain ⟨c0, c1, c2, c3⟩ := EB9.out.cells
          have EX := Lib.hid (EBox.new wr k t u p)
          have EE := Lib.hid (EB9.out.alloc (.cells #[.int .i64 k, .int .i64 t, .int .i64 u, .int .i64 p] 25))
          have BA := Lib.hid (B9.out.alloc B9.out.size (.cells #[.int .i64 k, .int .i64 t, .int .i64 u, .int .i64 p] 25))
          have hne : w2.heap.size ≠ wr.heap.size := by have := EB9.out.lt; omega
          have hsz : w.heap.size ≤ wr.heap.size := B9.out.size
          clear B9 EB9
          go_upto_region 14 with fail
          clear c0 c1 c2 c3 hlt
          generalize wr.heap.size = X at *
          generalize wr.alloc (.cells #[.int .i64 k, .int .i64 t, .int .i64 u, .int .i64 p] 25) = wa at *
          obtain ⟨x0, x1, x2, x3⟩ := EX.out.cells
          obtain ⟨f0, f1, f2, f3⟩ := EX.out.free
          have EX2 := Lib.hid (EX.out.set3 77)
          have EE2 := Lib.hid (EE.out.far (a := ⟨X, 3, none⟩) (by exact hne.symm) (.int .i64 77))
          have BX := Lib.hid (BA.out.setCell (p := ⟨X, 3, none⟩) hsz (.int .i64 77))
          clear EX EE BA hne hsz
          go_upto_region 15 with fail
          clear x0 x1 x2 x3 f0 f1 f2 f3
          generalize wa.setCell ⟨X, 3, none⟩ (.int .i64 77) = wb at *
          obtain ⟨c0, c1, c2, c3⟩ := EE2.out.cells
          obtain ⟨x0, x1, x2, x3⟩ := EX2.out.cells
          have hok : okI (mixLeafI [k, t, u, p]) = true := mixLeaf_ok _
          have tok1 : True := trivial
          have tok2 : True := trivial
          have tok3 : True := trivial
          cases hE : entOk k t u p
          · have HE := Lib.hid hE
            clear hE
            go_region_law (first
              | (go_simp; go_at_call 21; refine Calls.mono (EntLeaf_any _ _ _ _ _) ?_; rintro e w9 ⟨rfl, hb9⟩; have EE3 := Lib.hid (EE2.out.drew.below hb9); have BX3 := Lib.hid (below_at (below_drewN1' BX.out) hb9); obtain ⟨d0, d1, d2, d3⟩ := EE3.out.cells; clear hb9)
              | (go_simp; go_at_call 57; refine Calls.mono (MixOk_any _ _) ?_; rw [hok]; rintro e w' ⟨rfl, rfl⟩)
              | (go_simp; go_at_call 63; refine Calls.mono (sEntOk_any _ _ _ _ _) ?_; rw [HE.out]; rintro e w10 ⟨rfl, hb10⟩; have BX4 := Lib.hid (below_at BX3.out hb10); clear hb10))
            all_goals
              go_wp2_with fail
              go_ret
              exact ⟨rfl, BX4.out⟩
          · have HE := Lib.hid hE
            clear hE
            go_region_held3 (fun w' => (w'.cell? ⟨w2.heap.size, 0, none⟩ = some (.int .i64 k) ∧ w'.cell? ⟨w2.heap.size, 1, none⟩ = some (.int .i64 t) ∧ w'.cell? ⟨w2.heap.size, 2, none⟩ = some (.int .i64 u) ∧ w'.cell? ⟨w2.heap.size, 3, none⟩ = some (.int .i64 p)) ∧ (w'.cell? ⟨X, 0, none⟩ = some (.int .i64 k) ∧ w'.cell? ⟨X, 1, none⟩ = some (.int .i64 t) ∧ w'.cell? ⟨X, 2, none⟩ = some (.int .i64 u) ∧ w'.cell? ⟨X, 3, none⟩ = some (.int .i64 77)))
              (first | exact ⟨⟨c0, c1, c2, c3⟩, x0, x1, x2, x3⟩ | exact ⟨EE3.out.cells, EX3.out.cells⟩ | exact ⟨EE4.out.cells, EX4.out.cells⟩ | exact ⟨EE5.out.cells, EX5.out.cells⟩ | exact ⟨EE6.out.cells, EX6.out.cells⟩)
              (first
              | (go_at_call 21; have _t := tok1; refine Calls.mono (EntLeaf_any _ _ _ _ _) ?_; rintro e w9 ⟨rfl, hb9⟩; have EE3 := Lib.hid (EE2.out.drew.below hb9); have EX3 := Lib.hid (EX2.out.drew.below hb9); have BX3 := Lib.hid (below_at (below_drewN1' BX.out) hb9); clear hb9 tok1)
              | (go_at_call 57; refine Calls.mono (MixOk_any _ _) ?_; rw [hok]; rintro e w' ⟨rfl, rfl⟩)
              | (go_at_call 63; refine Calls.mono (sEntOk_any _ _ _ _ _) ?_; rw [HE.out]; rintro e w10 ⟨rfl, hb10⟩; have EE4 := Lib.hid (EE3.out.below hb10); have EX4 := Lib.hid (EX3.out.below hb10); have BX4 := Lib.hid (below_at BX3.out hb10); clear hb10)
              | (go_at_call 21; have _t := tok2; refine Calls.mono (EntLeaf_any _ _ _ _ _) ?_; rintro e w11 ⟨rfl, hb11⟩; have EE5 := Lib.hid (EE4.out.below hb11); have EX5 := Lib.hid (EX4.out.below hb11); have BX5 := Lib.hid (below_at BX4.out hb11); clear hb11 tok2)
              | (go_at_call 21; have _t := tok3; refine Calls.mono (EntLeaf_any _ _ _ _ _) ?_; rintro e w12 ⟨rfl, hb12⟩; have EE6 := Lib.hid (EE5.out.below hb12); have EX6 := Lib.hid (EX5.out.below hb12); have BX6 := Lib.hid (below_at BX5.out hb12); clear hb12 tok3))
            go_wp2_with fail
            go_ret
            exact ⟨ret_bool (leaf_price HE.out), BX6.out⟩
    · have hb : 1048576 < len1 := by omega
      clear w0 w1 hbig1
      go_enter Try.func15, Try.ntmps15
      go_wp2_with fail
      go_ret
      exact ⟨rfl, Below.refl _ _⟩
  · have hb : 1048576 < len0 := by omega
    clear w0 w1 hbig0
    go_enter Try.func15, Try.ntmps15
    go_wp2_with fail
    go_ret
    exact ⟨rfl, Below.refl _ _⟩
end Go.Proofs.Ytbgljjmmominbaa
