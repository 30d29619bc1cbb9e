/- The walk of FnTreOk. -/
import Derived.Test.YtandjjbfhcifiaaLaw
namespace Go.Proofs.Ytandjjbfhcifiaa
set_option linter.unusedVariables false
open Go.RowKit Pl

theorem all_take (xs : List Int) (k : Nat) (h : k < xs.length) : (xs.take (k + 1)).all okI = ((xs.take k).all okI && okI (xs.getD k 0)) := by
  rw [List.take_succ_eq_append_getElem h, List.all_append]
  simp [List.getD, List.getElem?_eq_getElem h]
def okUpTo (n : Nat) (xs : List Int) (k : Nat) : Bool := decide ((n : Int) ≤ 40) && (xs.take k).all okI
theorem okUpTo_zero (n : Nat) (xs : List Int) : okUpTo n xs 0 = decide ((n : Int) ≤ 40) := by simp [okUpTo]
theorem okUpTo_step (n : Nat) (xs : List Int) (k : Nat) (h : k < xs.length) : okUpTo n xs (k + 1) = (okUpTo n xs k && okI (xs.getD k 0)) := by
  unfold okUpTo; rw [all_take xs k h, Bool.and_assoc]
theorem okUpTo_all (n : Nat) (xs : List Int) (h : xs.length = n) : okUpTo n xs n = okL xs := by
  unfold okUpTo okL
  rw [List.take_of_length_le (by omega), h]
  congr 1
  simp only [decide_eq_decide]
  omega
set_option maxHeartbeats 4000000 in
theorem walkFnTreOk (a0 : Option Addr) (len0 cap0 : Nat) (z0 : List Int) (w : World) (w0 : InK .u8 w a0 len0 cap0 z0) : Calls Try.prog 6 #[.slice a0 len0 cap0] w (True_ w) := by
  have hlen : len0 ≤ 9223372036854775807 := by have := w0.cap; have := w0.top; unfold maxLen at this; omega
  by_cases hbig : len0 ≤ 1048576
  · have HB := Lib.hid w0.bytes
    clear w0
    have e0 : okL [] = true := by decide
    go_enter Try.func6, Try.ntmps6
    go_wp2_with fail
    refine (DrawTreOk_any _ _ _ _ _ HB.out (by omega)).mono ?_
    rintro e w1 ⟨A, n, c, xs, rfl, L⟩
    have HL := Lib.hid L
    have hn := L.few
    have hnc := L.cap
    clear L
    go_wp2_with fail
    go_loop [4, 5] (fun x i => ∃ k : Nat, k ≤ n ∧ i = .int .i64 k ∧ x = .bool (okUpTo n xs k)) (fun _ i => n - (intOf i).toNat)
    case atStart => exact ⟨0, by omega, rfl, by rw [okUpTo_zero]⟩
    case round =>
      obtain ⟨k, hk, rfl, rfl⟩ := hrel
      by_cases hlt : k < n
      · obtain ⟨b, o, rfl, _, _, hcell⟩ := HL.out.reads.at_ (j := k) (by rw [HL.out.len]; exact hlt)
        have hs := Lib.hid (okUpTo_step n xs k (by rw [HL.out.len]; exact hlt))
        generalize xs.getD k 0 = z at *
        generalize okUpTo n xs k = V at *
        cases V
        all_goals
          go_wp2_with (go_at_call 20; refine (MixOk_any _ _).mono ?_; rintro e w' ⟨rfl, rfl⟩)
          go_round
          case rel => exact ⟨k + 1, by omega, by go_num, by rw [hs.out]; first | rfl | simp⟩
          case measure => simp [intOf]; omega
      · obtain rfl : k = n := by omega
        have hV := okUpTo_all k xs HL.out.len
        have hr := Lib.hid HL.out.reads
        have HLen := Lib.hid HL.out.len
        rw [hV]
        clear hV hlt hk
        go_wp2_with fail
        refine (TreOk_any _ _ _ _ xs _ HLen.out hr.out (by omega)).mono ?_
        rintro e w' ⟨rfl, rfl⟩
        go_wp2_with fail
        refine (TreOk_any _ _ _ _ xs _ HLen.out hr.out (by omega)).mono ?_
        rintro e w' ⟨rfl, rfl⟩
        go_wp2_with fail
        refine (sTreOk_any _ _ _ _ xs _ HLen.out hr.out (by omega)).mono ?_
        rintro e w' ⟨rfl, rfl⟩
        go_wp2_with fail
        refine (TreOk_any _ 0 _ 0 [] _ rfl RK.nil (by omega)).mono ?_
        rintro e w' ⟨rfl, rfl⟩
        go_wp2_with fail
        go_ret
        exact ⟨rfl, HL.out.below.alloc HL.out.below.size _⟩
  · have hb : 1048576 < len0 := by omega
    clear w0 hbig
    go_enter Try.func6, Try.ntmps6
    go_wp2_with fail
    go_ret
    exact ⟨rfl, Below.refl _ _⟩
end Go.Proofs.Ytandjjbfhcifiaa
