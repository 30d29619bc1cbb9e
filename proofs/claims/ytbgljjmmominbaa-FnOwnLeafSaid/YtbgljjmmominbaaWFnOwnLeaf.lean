/- The walk of FnOwnLeaf. -/
import Derived.Test.YtbgljjmmominbaaRowD
import Derived.Test.YtbgljjmmominbaaLeafB
import Derived.Test.YtbgljjmmominbaaPlainC
namespace Go.Proofs.Ytbgljjmmominbaa
set_option linter.unusedVariables false
open Go.RowKit Pl
theorem own_no {t u f : Int} {b : Bool} (h : inB t 0 7 = false) : ownLeaf t u f b = 0 := by unfold ownLeaf; rw [h]; simp
theorem own_okI {t u f : Int} {b : Bool} (h : inB t 0 7 = true) : okI (ownLeaf t u f b) = true := by unfold ownLeaf; rw [if_pos h]; exact mixLeaf_ok _
theorem own_turn {t u f : Int} {b : Bool} (h : inB t 0 7 = true) (h0 : -1 ≤ u) (h1 : u ≤ 5) : (ownLeaf t (u + 1) f b != ownLeaf t u f b) = true := by
  unfold ownLeaf
  rw [if_pos h, if_pos h]
  have := mixLeaf_ne [1000 + t] [f, if b then 1 else 0] (n := u + 1) (m := u) (by omega)
  simpa using this
theorem inB_out {t : Int} (h : inB t 0 7 = false) : t < 0 ∨ 8 ≤ t := by
  by_cases h1 : t < 0
  · exact .inl h1
  · right
    rcases Int.lt_or_le t 8 with h2 | h2
    · have : inB t 0 7 = true := by simp [inB]; omega
      rw [this] at h; cases h
    · exact h2
set_option maxHeartbeats 4000000 in
theorem walkFnOwnLeaf (a0 : Option Addr) (len0 cap0 : Nat) (z0 : List Int) (w : World) (w0 : InK .u8 w a0 len0 cap0 z0) : Calls Try.prog 13 #[.slice a0 len0 cap0] w (True_ w) := by
  have hlen : len0 ≤ 9223372036854775807 := by have := w0.cap; have := w0.top; unfold maxLen at this; omega
  by_cases hbig : len0 ≤ 1048576
  · have HB := Lib.hid w0.bytes
    clear w0
    go_enter Try.func13, Try.ntmps13
    go_wp2_with fail
    refine (DrawOwnLeaf_any _ _ _ _ _ HB.out (by omega)).mono ?_
    rintro e w1 ⟨t, u, f, b, rfl, hu0, hu1, hb1⟩
    have R1 := Lib.hid (RBox.new w1 u f b)
    have B1 := Lib.hid (hb1.alloc hb1.size (.cells #[.int .i64 u, .int .i64 f, .bool b] 31))
    clear hb1 HB
    obtain ⟨M, hM⟩ : ∃ M, ownLeaf t u f b = M := ⟨_, rfl⟩
    have HM := Lib.hid hM
    clear hM
    go_wp2_with fail
    refine (OwnLeaf_any _ _ _ _ _).mono ?_
    rw [HM.out]
    rintro e w2 ⟨rfl, hb2⟩
    have R2 := Lib.hid (R1.out.below hb2)
    have B2 := Lib.hid (below_at B1.out hb2)
    clear hb2 R1 B1
    generalize w1.heap.size = H at *
    obtain ⟨c0, c1, c2⟩ := R2.out.cells
    go_wp2_with fail
    refine (sOwnLeaf_any _ _ _ _ _).mono ?_
    rw [HM.out]
    rintro e w3 ⟨rfl, hb3⟩
    have R3 := Lib.hid (R2.out.below hb3)
    have B3 := Lib.hid (below_at B2.out hb3)
    clear hb3 R2 B2 c0 c1 c2
    obtain ⟨T, hT⟩ : ∃ T, inB t 0 7 = T := ⟨_, rfl⟩
    cases T
    · obtain rfl : M = 0 := by rw [← HM.out]; exact own_no hT
      rcases inB_out hT with ht | ht
      all_goals
        clear hT
        go_wp2_with (go_at_call 55; refine (swOk_any _).mono ?_; rintro e w' ⟨rfl, rfl⟩)
        go_ret
        exact ⟨rfl, B3.out⟩
    · obtain ⟨t0, t7⟩ := inB_low hT
      have hok : okI M = true := by rw [← HM.out]; exact own_okI hT
      have HN := Lib.hid (own_turn (f := f) (b := b) hT hu0 hu1)
      clear hT
      obtain ⟨c0, c1, c2⟩ := R3.out.cells
      have X4 := Lib.hid (RBox.new w3 u f b)
      have R4 := Lib.hid (R3.out.alloc (.cells #[.int .i64 u, .int .i64 f, .bool b] 31))
      have B4 := Lib.hid (B3.out.alloc B3.out.size (.cells #[.int .i64 u, .int .i64 f, .bool b] 31))
      have hne : H ≠ w3.heap.size := by have := R3.out.lt; omega
      have hsz := B3.out.size
      have t1 : ¬ t < 0 := by omega
      have t2 : ¬ 8 ≤ t := by omega
      go_upto_region 10 with fail
      clear c0 c1 c2 R3 B3
      generalize w3.heap.size = X at *
      generalize w3.alloc (.cells #[.int .i64 u, .int .i64 f, .bool b] 31) = w4 at *
      obtain ⟨c0, c1, c2⟩ := R4.out.cells
      obtain ⟨x0, x1, x2⟩ := X4.out.cells
      obtain ⟨f0, f1, f2⟩ := X4.out.free
      have X5 := Lib.hid (X4.out.set0 (u + 1))
      have B5 := Lib.hid (B4.out.setCell (p := ⟨X, 0, none⟩) hsz (.int .i64 (u + 1)))
      go_upto_region 11 with fail
      clear c0 c1 c2 x0 x1 x2 f0 f1 f2 X4 R4 B4
      generalize w4.setCell ⟨X, 0, none⟩ (.int .i64 (u + 1)) = w5 at *
      obtain ⟨x0, x1, x2⟩ := X5.out.cells
      go_wp2_with (first
        | (go_at_call 57; refine (MixOk_any _ _).mono ?_; rw [hok]; rintro e w' ⟨rfl, rfl⟩)
        | (go_at_call 24; refine (OwnLeaf_any _ _ _ _ _).mono ?_; rintro e w6 ⟨rfl, hb6⟩; have B6 := Lib.hid (below_at B5.out hb6); clear hb6))
      go_ret
      exact ⟨ret_bool (by rw [HM.out] at HN; exact HN.out), B6.out⟩
  · have hb : 1048576 < len0 := by omega
    clear w0 hbig
    go_enter Try.func13, Try.ntmps13
    go_wp2_with fail
    go_ret
    exact ⟨rfl, Below.refl _ _⟩
end Go.Proofs.Ytbgljjmmominbaa
