/- The walk of FnTreClash. -/
import Derived.Test.YtandjjbfhcifiaaDrawsB
import Derived.Test.YtandjjbfhcifiaaClashC
import Derived.Test.YtandjjbfhcifiaaSame
import Derived.Deep.QuietTactic
import Derived.BigQuiet
namespace Go.Proofs.Ytandjjbfhcifiaa
set_option linter.unusedVariables false
open Go.RowKit Pl
theorem own_over {w w' : World} {base n c : Nat} {A : Option Addr} {ys : List Int} (h : OwnI w base A n c ys) (hb : Below w.heap.size w w') : OwnI w' base A n c ys := by
  refine ⟨h.1, ?_⟩
  rcases h.2 with h1 | ⟨g, cap, cur, hv, hB, hg, hr⟩
  · exact .inl h1
  · refine .inr ⟨g, cap, cur, hv, hB, ?_, hr⟩
    rw [hb.block g (by
      rcases Nat.lt_or_ge g w.heap.size with hlt | hge
      · exact hlt
      · rw [Array.getElem?_eq_none hge] at hg; cases hg)]
    exact hg
theorem below_at {w a b : World} (h : Below w.heap.size w a) (k : Below a.heap.size a b) : Below w.heap.size w b := h.trans (k.mono h.size)

theorem mixOk_true (n : Int) (w : World) (h : okI n = true) : Calls Try.prog 20 #[.int .i64 n] w fun e w' => e = .returned (.bool true) ∧ w = w' := by
  have := MixOk_any n w
  rwa [h] at this
set_option maxHeartbeats 8000000 in
theorem walkFnTreClash (a0 : Option Addr) (len0 cap0 : Nat) (z0 : List Int) (w : World) (w0 : InK .u8 w a0 len0 cap0 z0) : Calls Try.prog 11 #[.slice a0 len0 cap0] w (True_ w) := by
  have hlen : len0 ≤ 9223372036854775807 := by have := w0.cap; have := w0.top; unfold maxLen at this; omega
  by_cases hbig : len0 ≤ 1048576
  · have HB := Lib.hid w0.bytes
    clear w0
    go_enter Try.func11, Try.ntmps11
    go_wp2_with fail
    refine (DrawTreClash_any _ _ _ _ _ HB.out (by omega)).mono ?_
    rintro e w1 ⟨A, n, c, xs, i, leaf, A2, m, c2, p, rfl, hs, hb⟩
    have HL := Lib.hid hs.len
    have HR := Lib.hid hs.reads
    have HP := Lib.hid hs.plen
    have HPR := Lib.hid hs.preads
    have hn := hs.few
    have hc := hs.cap
    have hm := hs.pfew
    have hmc := hs.pcap
    have i0 := hs.i0
    have i1 := hs.i1
    have HBe := Lib.hid hb
    clear hs hb
    go_wp2_with fail
    refine (TreClash_any _ _ _ _ _ _ _ xs p _ _ _ HL.out hc (by omega) HR.out HP.out hmc (by omega) HPR.out).mono ?_
    rintro e w2 ⟨A3, q, c3, rfl, hq, own3, hb2⟩
    have HQ := Lib.hid hq
    have O3 := Lib.hid own3
    have B2 := Lib.hid hb2
    clear hq own3 hb2
    go_wp2_with fail
    refine (sTreClash_any _ _ _ _ _ _ _ xs p _ _ _ HL.out hc (by omega) (HR.out.below B2.out) HP.out hmc (by omega) (HPR.out.below B2.out)).mono ?_
    rintro e w3 ⟨A4, q4, c4, rfl, hq4, own4, hb3⟩
    obtain rfl : q = q4 := HQ.out.symm.trans hq4
    have O4 := Lib.hid own4
    have O5 := Lib.hid (own_over O3.out hb3)
    have BE := Lib.hid (below_at (below_at HBe.out B2.out) hb3)
    have R3 := Lib.hid ((HR.out.below B2.out).below hb3)
    have P3 := Lib.hid ((HPR.out.below B2.out).below hb3)
    have hq100 : Hid (q ≤ 100) := Lib.hid (by
      rw [← HQ.out]
      by_cases h : clashG xs i leaf p
      · obtain ⟨_, _, _, _, e, _⟩ := treClash_law h
        rw [e]; simp
      · rw [treClash_no h]; simp)
    clear hq4 own4 hb3 O3
    go_wp2_with fail
    refine (swInts_same _ _ _ _ _ _ _ (treClash xs i leaf p) _ HQ.out (by have := hq100.out; omega) (RK.of_own O5.out) (RK.of_own O4.out)).mono ?_
    rintro e w4 ⟨rfl, k4, rfl⟩
    rcases guardC xs i leaf p with g1 | ⟨g1, g2⟩ | ⟨g1, g2, g3⟩ | h
    · have hq0 : q = 0 := by rw [← HQ.out, treClash_no (fun h => by rw [h.1] at g1; cases g1)]; rfl
      subst hq0
      have G1 := Lib.hid g1
      clear g1
      go_wp2_with (first
        | (go_at_call 31; refine (sTreOk_any _ _ _ _ xs _ HL.out (R3.out.drewN _) (by omega)).mono ?_; rw [G1.out]; rintro e w' ⟨rfl, rfl⟩)
        | (go_at_call 22; refine (swOk_any _).mono ?_; rintro e w' ⟨rfl, rfl⟩))
      go_ret
      exact ⟨rfl, below_drewN BE.out _⟩
    · have hq0 : q = 0 := by rw [← HQ.out, treClash_no (fun h => by rw [h.2.1] at g2; cases g2)]; rfl
      subst hq0
      have G1 := Lib.hid g1
      rw [HL.out] at g2
      have G2 := Lib.hid g2
      clear g1 g2
      by_cases hin : (n : Int) ≤ i
      · go_wp2_with (first
          | (go_at_call 31; refine (sTreOk_any _ _ _ _ xs _ HL.out (R3.out.drewN _) (by omega)).mono ?_; rw [G1.out]; rintro e w' ⟨rfl, rfl⟩)
          | (go_at_call 22; refine (swOk_any _).mono ?_; rintro e w' ⟨rfl, rfl⟩))
        go_ret
        exact ⟨rfl, below_drewN BE.out _⟩
      · have hin2 : i < (n : Int) := by omega
        clear hin
        go_wp2_with (first
          | (go_at_call 31; refine (sTreOk_any _ _ _ _ xs _ HL.out (R3.out.drewN _) (by omega)).mono ?_; rw [G1.out]; rintro e w' ⟨rfl, rfl⟩)
          | (go_at_call 33; refine (TreRoot_any _ _ _ _ xs _ HL.out hc (R3.out.drewN _) (by omega)).mono ?_; rintro e w' ⟨rfl, d0, rfl⟩)
          | (go_at_call 39; refine (TreCheck_any _ _ _ _ _ _ _ _ p _ HP.out hmc (by omega) (P3.out.drewN _)).mono ?_; rw [G2.out]; rintro e w' ⟨rfl, rfl⟩)
          | (go_at_call 22; refine (swOk_any _).mono ?_; rintro e w' ⟨rfl, rfl⟩))
        go_ret
        exact ⟨rfl, below_drewN BE.out _⟩
    · have hq0 : q = 0 := by rw [← HQ.out, treClash_no (fun h => by rw [h.2.2] at g3; cases g3)]; rfl
      subst hq0
      obtain ⟨q1, q2, q3, q4⟩ := guard_i g2
      obtain ⟨j, rfl⟩ := Int.eq_ofNat_of_zero_le q3
      rw [Int.toNat_natCast] at g3
      have hj : j < n := by have := HL.out; omega
      obtain ⟨b, o, rfl, _, hbs, hcell⟩ := R3.out.at_ (j := j) (by rw [HL.out]; exact hj)
      have G1 := Lib.hid g1
      rw [HL.out] at g2
      have G2 := Lib.hid g2
      have g4 : (leaf == xs.getD j 0) = true := by simp at g3 ⊢; exact g3.symm
      generalize xs.getD j 0 = z at *
      clear g1 g2 g3 q1 q2 q3 q4
      go_wp2_with (first
        | (go_at_call 31; refine (sTreOk_any _ _ _ _ xs _ HL.out (R3.out.drewN _) (by omega)).mono ?_; rw [G1.out]; rintro e w' ⟨rfl, rfl⟩)
        | (go_at_call 33; refine (TreRoot_any _ _ _ _ xs _ HL.out hc (R3.out.drewN _) (by omega)).mono ?_; rintro e w' ⟨rfl, d0, rfl⟩)
        | (go_at_call 39; refine (TreCheck_any _ _ _ _ _ _ _ _ p _ HP.out hmc (by omega) (P3.out.drewN _)).mono ?_; rw [G2.out]; rintro e w' ⟨rfl, rfl⟩)
        | (go_at_call 22; refine (swOk_any _).mono ?_; rintro e w' ⟨rfl, rfl⟩))
      go_ret
      exact ⟨rfl, below_drewN BE.out _⟩
    · obtain ⟨a, b1, c1, d1, e1, hd, hp, ka, kb, kc, kd⟩ := treClash_law h
      have hq4 : q = 4 := by rw [← HQ.out, e1]; rfl
      subst hq4
      obtain ⟨g1, g2, g3⟩ := h
      obtain ⟨q1, q2, q3, q4⟩ := guard_i g2
      obtain ⟨j, rfl⟩ := Int.eq_ofNat_of_zero_le q3
      rw [Int.toNat_natCast] at g3
      have hj : j < n := by have := HL.out; omega
      obtain ⟨b, o, rfl, _, hbs, hcell⟩ := R3.out.at_ (j := j) (by rw [HL.out]; exact hj)
      have G1 := Lib.hid g1
      rw [HL.out] at g2
      have G2 := Lib.hid g2
      have g4 : (leaf == xs.getD j 0) = false := by simp at g3 ⊢; exact fun e => g3 e.symm
      have O6 := O5.out
      rw [e1] at O6
      obtain ⟨g, cc, hv, hB, hlt⟩ := World.ownsRow.form O6 (by omega)
      injection hv with e2 _ e3
      subst e2 e3
      have x0 := own_cell O6 (j := 0) (by omega)
      have x1 := own_cell O6 (j := 1) (by omega)
      have x2 := own_cell O6 (j := 2) (by omega)
      have x3 := own_cell O6 (j := 3) (by omega)
      have X0 : Hid (w3.cell? ⟨g, 0, none⟩ = some (.int .i64 a)) := Lib.hid x0
      have X1 : Hid (w3.cell? ⟨g, 1, none⟩ = some (.int .i64 b1)) := Lib.hid x1
      have X2 : Hid (w3.cell? ⟨g, 2, none⟩ = some (.int .i64 c1)) := Lib.hid x2
      have X3 : Hid (w3.cell? ⟨g, 3, none⟩ = some (.int .i64 d1)) := Lib.hid x3
      generalize xs.getD j 0 = z at *
      clear g1 g2 g3 q1 q2 q3 q4 e1 O6 x0 x1 x2 x3
      have hne : (a != c1) = true ∨ ((a != c1) = false ∧ (b1 != d1) = true) := by
        cases h1 : a != c1
        · right; rw [h1] at hd; simpa using hd
        · exact .inl rfl
      clear hd
      rcases hne with h1 | ⟨h1, h2⟩
      all_goals
        go_wp2_with (first
          | (go_at_call 31; refine (sTreOk_any _ _ _ _ xs _ HL.out (R3.out.drewN _) (by omega)).mono ?_; rw [G1.out]; rintro e w' ⟨rfl, rfl⟩)
          | (go_at_call 33; refine (TreRoot_any _ _ _ _ xs _ HL.out hc (R3.out.drewN _) (by omega)).mono ?_; rintro e w' ⟨rfl, d0, rfl⟩)
          | (go_at_call 39; refine (TreCheck_any _ _ _ _ _ _ _ _ p _ HP.out hmc (by omega) (P3.out.drewN _)).mono ?_; rw [G2.out]; rintro e w' ⟨rfl, rfl⟩))
        have x0 := X0.out
        have x1 := X1.out
        have x2 := X2.out
        have x3 := X3.out
        go_quiet (first
          | (go_at_call 18; apply quiet_add_left; (with_reducible exact MixPair_any _ _ _))
          | (go_at_call 20; apply quiet_add_left; (with_reducible exact mixOk_true _ _ (by assumption))))
        go_wp2_with fail
        go_ret
        exact ⟨rfl, below_drewN (below_drewN BE.out _) _⟩
  · have hb : 1048576 < len0 := by omega
    clear w0 hbig
    go_enter Try.func11, Try.ntmps11
    go_wp2_with fail
    go_ret
    exact ⟨rfl, Below.refl _ _⟩
end Go.Proofs.Ytandjjbfhcifiaa
