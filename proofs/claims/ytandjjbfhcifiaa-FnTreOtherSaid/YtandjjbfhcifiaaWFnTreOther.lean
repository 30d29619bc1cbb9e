/- The walk of FnTreOther. -/
import Derived.Test.YtandjjbfhcifiaaLaw
import Derived.Test.YtandjjbfhcifiaaPlainD
import Derived.Test.YtandjjbfhcifiaaSame
namespace Go.Proofs.Ytandjjbfhcifiaa
set_option linter.unusedVariables false
open Go.RowKit Pl
theorem own_over {w w' : World} {base n c : Nat} {A : Option Addr} {ys : List Int} (h : OwnI w base A n c ys) (hb : Below w.heap.size w w') : OwnI w' base A n c ys := by
  refine ⟨h.1, ?_⟩
  rcases h.2 with h1 | ⟨g, cap, cur, hv, hB, hg, hr⟩
  · exact .inl h1
  · refine .inr ⟨g, cap, cur, hv, hB, ?_, hr⟩
    rw [hb.block g (by
      rcases Nat.lt_or_ge g w.heap.size with hlt | hge
      · exact hlt
      · rw [Array.getElem?_eq_none hge] at hg; cases hg)]
    exact hg
theorem below_on {B : Nat} {a b c : World} (h : Below B a b) (hB : B ≤ a.heap.size) (k : Below b.heap.size b c) : Below B a c := h.trans (k.mono (Nat.le_trans hB h.size))

set_option maxHeartbeats 4000000 in
theorem walkFnTreOther (a0 : Option Addr) (len0 cap0 : Nat) (z0 : List Int) (w : World) (w0 : InK .u8 w a0 len0 cap0 z0) : Calls Try.prog 12 #[.slice a0 len0 cap0] w (True_ w) := by
  have hlen : len0 ≤ 9223372036854775807 := by have := w0.cap; have := w0.top; unfold maxLen at this; omega
  by_cases hbig : len0 ≤ 1048576
  · have HB := Lib.hid w0.bytes
    clear w0
    go_enter Try.func12, Try.ntmps12
    go_wp2_with fail
    refine (DrawTreProof_any _ _ _ _ _ HB.out (by omega)).mono ?_
    rintro e w1 ⟨A, n, c, xs, i, rfl, i0, i1, L⟩
    have HL := Lib.hid L
    have hn := L.few
    have hnc := L.cap
    have HLen := Lib.hid L.len
    have HR := Lib.hid L.reads
    clear L
    go_wp2_with fail
    refine (TreProof_any _ _ _ _ _ xs _ HLen.out hnc (by omega) HR.out).mono ?_
    rintro e w2 ⟨A1, n1, c1, rfl, hn1, own1, hb1⟩
    have HP1 := Lib.hid (RK.of_own own1)
    have HB1 := Lib.hid hb1
    have HC1 := Lib.hid (own_cap own1)
    clear own1 hb1
    go_wp2_with fail
    refine (sTreProof_any _ _ _ _ _ xs _ HLen.out hnc (by omega) (HR.out.below HB1.out)).mono ?_
    rintro e w3 ⟨A2, n2, c2, rfl, hn2, own2, hb2⟩
    obtain rfl : n1 = n2 := hn1.symm.trans hn2
    have HP2 := Lib.hid (RK.of_own own2)
    have HB2 := Lib.hid hb2
    have HN := Lib.hid hn1
    have HRx := Lib.hid ((HR.out.below HB1.out).below HB2.out)
    have HPx := Lib.hid (HP1.out.below HB2.out)
    have HBx := Lib.hid ((HL.out.below.trans (HB1.out.mono HL.out.below.size)).trans (HB2.out.mono (by have := HL.out.below.size; have := HB1.out.size; omega)))
    have hp6 : n1 ≤ 6 := by
      rw [← hn1]
      by_cases hg : okL xs = true ∧ inB i 0 ((xs.length : Int) - 1) = true
      · rw [treProof_yes hg.1 hg.2]; exact (incl_ok xs hg.1 i.toNat).2.2
      · rw [treProof_no hg]; simp
    clear own2 hb2 hn1 hn2 HP1
    go_wp2_with fail
    refine (swInts_same _ _ _ _ _ _ _ (treProof xs i) _ HN.out (by omega) HPx.out HP2.out).mono ?_
    rintro e w4 ⟨rfl, k4, rfl⟩
    by_cases hbad : okL xs = false ∨ i < 0 ∨ (xs.length : Int) ≤ i
    · have hp0 : n1 = 0 := by rw [← HN.out, proof_none hbad]; rfl
      subst hp0
      rw [HLen.out] at hbad
      have hbad' : okL xs = false ∨ (okL xs = true ∧ i < 0) ∨ (okL xs = true ∧ 0 ≤ i ∧ (n : Int) ≤ i) := by
        cases hx : okL xs
        · exact .inl rfl
        · simp only [hx] at hbad
          right
          by_cases h1 : i < 0
          · exact .inl ⟨rfl, h1⟩
          · exact .inr ⟨rfl, by omega, by simp at hbad; omega⟩
      clear hbad
      rcases hbad' with h1 | ⟨h1, h2⟩ | ⟨h1, h2, h3⟩
      all_goals
        go_wp2_with (first
          | (go_at_call 31; refine (sTreOk_any _ _ _ _ xs _ HLen.out (HRx.out.drewN _) (by omega)).mono ?_; rintro e w' ⟨rfl, rfl⟩)
          | (go_at_call 22; refine (swOk_any _).mono ?_; rintro e w' ⟨rfl, rfl⟩))
        go_ret
        exact ⟨rfl, below_drewN HBx.out _⟩
    · have hok : okL xs = true := by
        cases hx : okL xs
        · exact absurd (.inl hx) hbad
        · rfl
      have hi0 : 0 ≤ i := by omega
      have hin : i < n := by have := HLen.out; omega
      have HO := Lib.hid hok
      clear hbad hok
      obtain ⟨b, o, rfl, _, hbs, _⟩ := HRx.out.at_ (j := i.toNat) (by rw [HLen.out]; omega)
      have hcells : Hid (∀ j, j < n → w3.cell? ⟨b, o + j, none⟩ = some (.int .i64 (xs.getD j 0))) := Lib.hid (fun j hj => by
        obtain ⟨b', o', e, _, _, hc⟩ := HRx.out.at_ (j := j) (by rw [HLen.out]; exact hj)
        injection e with e; injection e with e1 e2; subst e1 e2; exact hc)
      obtain ⟨j, rfl⟩ := Int.eq_ofNat_of_zero_le hi0
      have hown0 := own_lit (w3.drewN k4) w3.heap.size [] #[] (Nat.le_refl _) rfl (by simp)
      obtain ⟨z, hzd⟩ : ∃ z, z = xs.getD j 0 := ⟨_, rfl⟩
      have hz : 0 ≤ z ∧ z < 65521 := by
        have := leaf_at HO.out (i := j) (by rw [HLen.out]; omega)
        rw [← hzd] at this
        exact okI_iff.1 this
      have HZ := Lib.hid hzd
      clear hzd
      go_wp2_with (first
        | (go_at_call 31; refine (sTreOk_any _ _ _ _ xs _ HLen.out (HRx.out.drewN _) (by omega)).mono ?_; rw [HO.out]; rintro e w' ⟨rfl, rfl⟩)
        | (at_builtin; refine wpList_spread rfl _ _ rfl w3.heap.size _ 0 0 [] b o n c xs rfl rfl hown0 HLen.out (by omega) (fun j hj => by rw [World.cell?_alloc_lt _ _ _ hbs]; exact hcells.out j hj) (by omega) (by simp) ?_; intro g c' w5 hown5 hb5 hg5; rw [List.nil_append, Nat.zero_add] at hown5; have hd := own_cell hown5 (j := j) (by omega); rw [← HZ.out] at hd; have hf := World.ownsRow.frozenAt hown5 j; have O5 := Lib.hid hown5; have B5 := Lib.hid hb5; clear hown5 hb5 hg5))
      have hst := own_stored O5.out j ((z + 1) % 65521)
      have hgb := own_base O5.out
      have hcc := own_cap O5.out
      have BW := Lib.hid ((((below_drewN (Below.refl _ _) k4).alloc (Nat.le_refl _) _).trans B5.out).setCell (p := ⟨g, j, none⟩) (show w3.heap.size ≤ g from hgb.1) (.int .i64 ((z + 1) % 65521)))
      obtain ⟨X, hX⟩ : ∃ X, X = xs.set j ((z + 1) % 65521) := ⟨_, rfl⟩
      have hy : okI ((z + 1) % 65521) = true := okI_of (by omega) (by omega)
      have hjl : j < xs.length := by rw [HLen.out]; omega
      have XO := Lib.hid (set_ok HO.out j hy)
      have XL : Hid ((xs.set j ((z + 1) % 65521)).length = n) := Lib.hid (List.length_set.trans HLen.out)
      have XY : Hid ((xs.set j ((z + 1) % 65521)).getD j 0 = (z + 1) % 65521) := Lib.hid (by simp [List.getD, hjl])
      have PT := Lib.hid (proof_turned HO.out (i := (j : Int)) hi0 (by omega) hy)
      have PS := Lib.hid (proof_shows XO.out (i := (j : Int)) hi0 (by rw [XL.out]; omega))
      have PT' : Hid (treProof X (j : Int) = treProof xs (j : Int)) := Lib.hid (by rw [hX]; simpa using PT.out)
      have PS' : Hid (((treUp (n : Int) (j : Int) ((z + 1) % 65521) (treProof xs (j : Int))).2 && (treUp (n : Int) (j : Int) ((z + 1) % 65521) (treProof xs (j : Int))).1 == treeRoot X) = true) := Lib.hid (by
        have h := PS.out
        rw [Int.toNat_natCast, XL.out, XY.out, ← hX, PT'.out] at h
        exact h)
      rw [← hX] at hst
      rw [← hX] at XO XL XY
      have OX := Lib.hid hst.1
      clear PT PS hst hX hy hd hf
      have hcellx := own_cell OX.out (j := j) (by omega)
      rw [XY.out] at hcellx
      go_region_held3 (fun w' => w'.cell? ⟨g, j, none⟩ = some (.int .i64 ((z + 1) % 65521))) (first | exact hcellx | exact hcx | go_keep)
        (first
        | (go_at_call 36; refine Calls.mono (TreProof_any _ n c' w3.heap.size (j : Int) X _ XL.out (by omega) (by omega) (RK.of_own OX.out).drew) ?_; rintro e w6 ⟨A6, n6, c6, rfl, hn6, ho6, hb6⟩; rw [PT'.out] at hn6 ho6; obtain rfl : n1 = n6 := HN.out.symm.trans hn6; have H6 := Lib.hid (RK.of_own ho6); have P6 := Lib.hid (((HPx.out.below BW.out).drew).below hb6); have X6 := Lib.hid (own_over (World.ownsRow.drew OX.out) hb6); have hcx := own_cell X6.out (j := j) (by omega); rw [XY.out] at hcx; have E6 := Lib.hid hb6; clear ho6 hb6 hn6)
        | (go_at_call 37; refine Calls.mono (swInts_same _ _ n1 _ _ _ _ (treProof xs (j : Int)) _ HN.out (by omega) H6.out P6.out) ?_; rintro e w7 ⟨rfl, d7, rfl⟩)
        | (go_at_call 33; refine Calls.mono (TreRoot_any _ n c' w3.heap.size X _ XL.out (by omega) ((RK.of_own X6.out).drewN _) (by omega)) ?_; rintro e w8 ⟨rfl, d8, rfl⟩)
        | (go_at_call 39; refine Calls.mono (TreCheck_any _ _ _ _ _ n1 c1 _ (treProof xs (j : Int)) _ HN.out HC1.out (by omega) ((P6.out.drewN _))) ?_; rw [PS'.out]; rintro e w9 ⟨rfl, rfl⟩))
      go_wp2_with fail
      go_ret
      exact ⟨rfl, below_drewN (below_on ((below_on HBx.out (Nat.le_refl _) BW.out).drew) (Nat.le_refl _) E6.out) _⟩
  · have hb : 1048576 < len0 := by omega
    clear w0 hbig
    go_enter Try.func12, Try.ntmps12
    go_wp2_with fail
    go_ret
    exact ⟨rfl, Below.refl _ _⟩
end Go.Proofs.Ytandjjbfhcifiaa
