/- The walk of FnTreSplit. -/
import Derived.Test.YtandjjbfhcifiaaLaw
namespace Go.Proofs.Ytandjjbfhcifiaa
set_option linter.unusedVariables false
open Go.RowKit Pl

set_option maxHeartbeats 1000000 in
theorem DrawTreSplit_any (w : World) (A : Option Addr) (n c : Nat) (bs : List Int) (h : Bytes w A n c bs) (hn : n ≤ 140737488351232) : Calls Try.prog 26 #[.slice A n c] w (NumRes w (-1) 41) := by
  go_enter Try.func26, Try.ntmps26
  go_wp2_with fail
  refine (open_any _ A n c bs h hn).mono ?_
  rintro e w1 ⟨rfl, hr1, hb1⟩
  have hs1 := hr1.lt
  go_wp2_with fail
  refine (pick_any _ _ _ _ hr1 (by omega) (by omega)).mono ?_
  rintro e w2 ⟨v, rfl, hv1, _, hr2, hg2⟩
  have hv := hv1 (by omega)
  clear hv1
  have hs2 := hg2.size
  go_wp2_with fail
  refine (pick_any _ _ _ _ (hr2.alloc _) (by omega) (by omega)).mono ?_
  rintro e w3 ⟨x, rfl, hx1, _, hr3, hg3⟩
  have hx := hx1 (by omega)
  obtain ⟨z, hz, hm⟩ := table_at [0, 1, 2, 3, 4, 5, 40, 41, -1, (v : Int)] _ rfl (block_kept (new_block w2 _) hg3 (by omega)) (v := x) (by simp; omega)
  have hm' : -1 ≤ z ∧ z ≤ 41 := by simp at hm; omega
  have HG := Lib.hid (hb1.trans (below_of_grown (grownBy_trans (grownBy_alloc hg2 _) hg3) (by omega)))
  clear hx1 hm hg2 hg3 hb1 h
  go_wp2_with fail
  go_ret
  exact ⟨z, rfl, hm'.1, hm'.2, HG.out⟩

theorem split_pow {n : Int} (h : n ≤ 40) : pow2 (splitI n) ∧ n ≤ 2 * splitI n := by
  unfold pow2 splitI splitN
  (repeat' split) <;> omega

theorem pow2_dbl {p k : Int} (hp : pow2 p) (hk : pow2 k) (h : p < k) : pow2 (2 * p) ∧ 2 * p ≤ k ∧ p ≤ 16 := by
  unfold pow2 at *
  omega

set_option maxHeartbeats 1000000 in
theorem walkFnTreSplit (a0 : Option Addr) (len0 cap0 : Nat) (z0 : List Int) (w : World) (w0 : InK .u8 w a0 len0 cap0 z0) : Calls Try.prog 5 #[.slice a0 len0 cap0] w (True_ w) := by
  have hlen : len0 ≤ 9223372036854775807 := by have := w0.cap; have := w0.top; unfold maxLen at this; omega
  by_cases hbig : len0 ≤ 1048576
  · have HB := Lib.hid w0.bytes
    clear w0
    go_enter Try.func5, Try.ntmps5
    go_wp2_with fail
    refine (DrawTreSplit_any _ _ _ _ _ HB.out (by omega)).mono ?_
    rintro e w1 ⟨n, rfl, n0, n1, hb1⟩
    have HG := Lib.hid hb1
    clear hb1
    by_cases h2 : 2 ≤ n ∧ n ≤ 40
    · obtain ⟨h2, h3⟩ := h2
      obtain ⟨hp, hge⟩ := split_pow h3
      have hlt := splitI_lt h2
      have hp1 := splitI_pos n
      have HP := Lib.hid hp
      clear hp
      go_wp2_with (first | (go_at_call 27; refine (TreSplit_yes _ _ h2 h3).mono ?_; rintro e w' ⟨rfl, rfl⟩) | (go_at_call 28; refine (sTreSplit_yes _ _ h2 h3).mono ?_; rintro e w' ⟨rfl, rfl⟩))
      go_loop [5] (fun x => ∃ p : Int, x = .int .i64 p ∧ pow2 p ∧ p ≤ splitI n) (fun x => (64 - intOf x).toNat)
      case atStart => exact ⟨1, rfl, .inl rfl, by omega⟩
      case round =>
        obtain ⟨p, rfl, hpp, hle⟩ := hrel
        obtain ⟨r1, r2⟩ := pow2_rng hpp
        by_cases hlp : p < splitI n
        · obtain ⟨d1, d2, d3⟩ := pow2_dbl hpp HP.out hlp
          have D1 := Lib.hid d1
          clear hpp d1
          go_wp2
          go_round
          case rel => exact ⟨2 * p, rfl, D1.out, d2⟩
          case measure => simp [intOf]; omega
        · obtain rfl : p = splitI n := by omega
          clear hpp
          go_wp2
          go_ret
          exact ⟨rfl, HG.out⟩
    · have h3 : ¬ (2 ≤ n ∧ n ≤ 40) := h2
      have h4 : n < 2 ∨ 40 < n := by omega
      have H3 := Lib.hid h3
      clear h2 h3
      rcases h4 with h4 | h4
      all_goals
        go_wp2_with (first | (go_at_call 27; refine (TreSplit_no _ _ H3.out).mono ?_; rintro e w' ⟨rfl, rfl⟩) | (go_at_call 28; refine (sTreSplit_no _ _ H3.out).mono ?_; rintro e w' ⟨rfl, rfl⟩) | (go_at_call 22; refine (swOk_any _).mono ?_; rintro e w' ⟨rfl, rfl⟩))
        go_ret
        exact ⟨rfl, HG.out⟩
  · have hb : 1048576 < len0 := by omega
    clear w0 hbig
    go_enter Try.func5, Try.ntmps5
    go_wp2_with fail
    go_ret
    exact ⟨rfl, Below.refl _ _⟩
end Go.Proofs.Ytandjjbfhcifiaa
