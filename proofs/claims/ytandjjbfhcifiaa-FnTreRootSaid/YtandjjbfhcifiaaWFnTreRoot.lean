/- The walk of FnTreRoot. -/
import Derived.Test.YtandjjbfhcifiaaLaw
import Derived.Test.YtandjjbfhcifiaaRoot
namespace Go.Proofs.Ytandjjbfhcifiaa
set_option linter.unusedVariables false
open Go.RowKit Pl

theorem treRoot_ok {xs : List Int} (h : okL xs = true) : treeRoot xs = root xs := by unfold treeRoot; rw [if_pos h]
set_option maxHeartbeats 4000000 in
theorem walkFnTreRoot (a0 : Option Addr) (len0 cap0 : Nat) (z0 : List Int) (w : World) (w0 : InK .u8 w a0 len0 cap0 z0) : Calls Try.prog 7 #[.slice a0 len0 cap0] w (True_ w) := by
  have hlen : len0 ≤ 9223372036854775807 := by have := w0.cap; have := w0.top; unfold maxLen at this; omega
  by_cases hbig : len0 ≤ 1048576
  · have HB := Lib.hid w0.bytes
    clear w0
    go_enter Try.func7, Try.ntmps7
    go_wp2_with fail
    refine (DrawTreRoot_any _ _ _ _ _ HB.out (by omega)).mono ?_
    rintro e w1 ⟨A, n, c, xs, rfl, L⟩
    have HL := Lib.hid L
    have hn := L.few
    have hnc := L.cap
    have HLen := Lib.hid L.len
    have HR := Lib.hid L.reads
    clear L
    go_wp2_with fail
    refine (TreRoot_any _ _ _ _ xs _ HLen.out hnc HR.out (by omega)).mono ?_
    rintro e w2 ⟨rfl, m1, rfl⟩
    go_wp2_with fail
    refine (sTreRoot_any _ _ _ _ xs _ HLen.out hnc (HR.out.drewN _) (by omega)).mono ?_
    rintro e w2 ⟨rfl, m2, rfl⟩
    cases hok : okL xs
    · have hz : (treeRoot xs == 0) = true := by simp [treeRoot, hok]
      go_wp2_with (first
        | (go_at_call 31; refine (sTreOk_any _ _ _ _ xs _ HLen.out (HR.out.drewN _) (by omega)).mono ?_; rintro e w' ⟨rfl, rfl⟩)
        | (go_at_call 22; refine (swOk_any _).mono ?_; rintro e w' ⟨rfl, rfl⟩))
      go_ret
      exact ⟨rfl, below_drewN HL.out.below _⟩
    · have hn40 : n ≤ 40 := by have := okL_len hok; have := HLen.out; omega
      rw [treRoot_ok hok]
      by_cases h2 : 2 ≤ n
      · have g2 : splitI (n : Int) = (splitN n : Int) := splitI_cast n
        have hsp := split_pos n
        have hsl := split_lt (n := n) h2
        have E := Lib.hid (root_two (l := xs) (by rw [HLen.out]; exact h2))
        rw [HLen.out] at E
        obtain ⟨b, o, rfl, _, _, _⟩ := HR.out.at_ (j := 0) (by rw [HLen.out]; omega)
        have T1 := Lib.hid (HR.out.take (splitN n))
        have T2 := Lib.hid (HR.out.drop (splitN n))
        have O1 := Lib.hid (okL_take hok (splitN n))
        have O2 := Lib.hid (okL_drop hok (splitN n))
        have L1 := Lib.hid (show (xs.take (splitN n)).length = splitN n by have := HLen.out; simp; omega)
        have L2 := Lib.hid (show (xs.drop (splitN n)).length = n - splitN n by have := HLen.out; simp; omega)
        have g3 : ¬ c = splitN n := by omega
        have k1 : splitN n ≤ c := by omega
        have k2 : splitN n ≤ n := by omega
        have HO := Lib.hid hok
        have q1 : (root xs == mixPairI (treeRoot (xs.take (splitN n))) (treeRoot (xs.drop (splitN n)))) = true := by
          rw [treRoot_ok O1.out, treRoot_ok O2.out, mixPair_yes (root_ok O1.out) (root_ok O2.out), ← E.out]; simp
        have q2 : okI (root xs) = true := root_ok hok
        generalize hrt : root xs = R at *
        clear hok hrt
        go_wp2_with (first
          | (go_at_call 31; refine (sTreOk_any _ _ _ _ xs _ HLen.out (HR.out.drewN _) (by omega)).mono ?_; rw [HO.out]; rintro e w' ⟨rfl, rfl⟩)
          | (go_at_call 27; refine (TreSplit_yes _ _ (by omega) (by omega)).mono ?_; rintro e w' ⟨rfl, rfl⟩))
        go_quiet (first
          | (go_at_call 33; apply quiet_add; (with_reducible exact TreRoot_any _ _ _ _ (xs.take (splitN n)) _ L1.out (by omega) (T1.out.drewN _) (by omega)))
          | (go_at_call 33; apply quiet_add; (with_reducible exact TreRoot_any _ _ _ _ (xs.drop (splitN n)) _ L2.out (by omega) (T2.out.drewN _) (by omega)))
          | (go_at_call 18; exact quiet_add_left (MixPair_any _ _ _))
          | (go_at_call 20; exact quiet_add_left (MixOk_any _ _)))
        go_wp2_with fail
        go_ret
        exact ⟨rfl, below_drewN (below_drewN HL.out.below _) _⟩
      · have HO := Lib.hid hok
        by_cases h0 : n = 0
        · subst h0
          have q1 : (root xs == 5) = true := by rw [root_len0 HLen.out]; rfl
          generalize root xs = R at *
          clear hok
          go_wp2_with (first
            | (go_at_call 31; refine (sTreOk_any _ _ _ _ xs _ HLen.out (HR.out.drewN _) (by omega)).mono ?_; rw [HO.out]; rintro e w' ⟨rfl, rfl⟩)
            | (go_at_call 22; refine (swOk_any _).mono ?_; rintro e w' ⟨rfl, rfl⟩))
          go_ret
          exact ⟨rfl, below_drewN HL.out.below _⟩
        · obtain rfl : n = 1 := by omega
          obtain ⟨b, o, rfl, _, _, hc0⟩ := HR.out.at_ (j := 0) (by rw [HLen.out]; omega)
          have hc1 : w1.cell? ⟨b, o, none⟩ = some (.int .i64 (xs.getD 0 0)) := hc0
          have q1 : (root xs == xs.getD 0 0) = true := by rw [root_len1 HLen.out]; simp
          generalize root xs = R at *
          generalize xs.getD 0 0 = z at *
          clear hok hc0
          go_wp2_with (first
            | (go_at_call 31; refine (sTreOk_any _ _ _ _ xs _ HLen.out (HR.out.drewN _) (by omega)).mono ?_; rw [HO.out]; rintro e w' ⟨rfl, rfl⟩)
            | (go_at_call 22; refine (swOk_any _).mono ?_; rintro e w' ⟨rfl, rfl⟩))
          go_ret
          exact ⟨rfl, below_drewN HL.out.below _⟩
  · have hb : 1048576 < len0 := by omega
    clear w0 hbig
    go_enter Try.func7, Try.ntmps7
    go_wp2_with fail
    go_ret
    exact ⟨rfl, Below.refl _ _⟩
end Go.Proofs.Ytandjjbfhcifiaa
