/- Contracts: the proof of a leaf. -/
import Derived.Test.YtjacddjmconfaaaUp
import Derived.Deep.RegionLaw
import Derived.IntWalk
namespace Go.Proofs.Ytjacddjmconfaaa
set_option linter.unusedVariables false
open Go.RowKit Pl
attribute [local go_sem ↓] Go.wp_at_zero Go.wp_at_succ

set_option maxHeartbeats 400000 in
theorem inclusion_any (f : Nat) : ∀ (A : Option Addr) (n c L : Nat) (i : Int) (xs : List Int) (w : World), n ≤ f → xs.length = n → n ≤ c → RI w L A xs → okL xs = true → 1 ≤ n → 0 ≤ i → i < n →
    Calls Try.prog 61 #[.slice A n c, .int .i64 i] w (OwnRes w (incl xs i.toNat)) := by
  induction f with
  | zero => intro A n c L i xs w hf; intro _ _ _ _ h; omega
  | succ f ih =>
    intro A n c L i xs w hf hl hc hr hok h1n i0 i1
    by_cases h1 : n = 1
    · subst h1
      rw [incl_one (by omega)]
      clear hl hr hok ih
      go_enter Try.func61, Try.ntmps61
      go_wp2_with fail
      go_ret
      exact ⟨none, 0, 0, rfl, rfl, World.ownsRow_nil _ _ _ _, Below.refl _ _⟩
    · obtain ⟨b, o, rfl, _, hbs, hcell⟩ := hr.at_ (j := 0) (by omega)
      have hn40 : n ≤ 40 := by have := (okL_iff.1 hok).1; omega
      have hsp := split_pos n
      have hsl := split_lt (n := n) (by omega)
      have T1 := Lib.hid (hr.take (splitN n))
      have T2 := Lib.hid (hr.drop (splitN n))
      have O1 := Lib.hid (okL_take hok (splitN n))
      have O2 := Lib.hid (okL_drop hok (splitN n))
      have L1 := Lib.hid (show (xs.take (splitN n)).length = splitN n by simp; omega)
      have L2 := Lib.hid (show (xs.drop (splitN n)).length = n - splitN n by simp; omega)
      have IH := Lib.hid ih
      have HL := Lib.hid hl
      have g1 : ((n : Int) == 1) = false := by simp; omega
      have g0 : 2 ≤ n := by omega
      have g2 : splitI (n : Int) = (splitN n : Int) := splitI_cast n
      have g3 : ¬ c = splitN n := by omega
      by_cases hi : i < splitN n
      · have E := Lib.hid (show incl xs i.toNat = incl (xs.take (splitN n)) i.toNat ++ [root (xs.drop (splitN n))] by
          have := incl_left (l := xs) (by omega) (i := i.toNat) (by rw [hl]; omega)
          rwa [hl] at this)
        rw [E.out]
        have B6 := Lib.hid (incl_ok _ O1.out i.toNat).2.2
        clear hl hr hok hcell ih E h1
        generalize splitN n = k at *
        have k1 : k ≤ c := by omega
        have k2 : k ≤ n := by omega
        go_enter Try.func61, Try.ntmps61
        go_wp2_with (go_at_call 65; refine (split_any _ _ (by omega) (by omega)).mono ?_; rintro e w' ⟨rfl, rfl⟩)
        go_region_law (first
          | (refine step_push rfl (.tmp 19) (.tmp 24) rfl w.heap.size A1 n1 c1 (incl (xs.take k) i.toNat) (root (xs.drop k)) w1.heap.size (by simp [Act.eval]) (by simp [Act.eval]) (World.ownsRow.alloc (w := w1.drewN m2) hown1 _) (heap_alloc_new _ _) (by have := B6.out; omega) (by simp; exact Nat.le_succ_of_le hb1.size) ?_; intro g cap' w5 hown5 hb5 hg5)
          | (go_simp; go_at_call 61; refine (IH.out _ _ _ L _ (xs.take k) _ (by omega) L1.out (by omega) T1.out.drew O1.out (by omega) (by omega) (by omega)).mono ?_; rintro e w1 ⟨A1, n1, c1, rfl, hn1, hown1, hb1⟩)
          | (go_simp; go_at_call 53; refine (root_any n _ _ _ L (xs.drop k) _ (by omega) L2.out (by omega) (T2.out.drew.below hb1) O2.out).mono ?_; rintro e w2 ⟨rfl, m2, rfl⟩))
        go_wp2_with fail
        go_ret
        exact ⟨_, _, _, rfl, by rw [List.length_append, hn1]; rfl, hown5, ((below_drewN (((Below.refl _ _).drew).trans hb1) m2).alloc (by exact hb1.size) _).trans hb5⟩
      · have E := Lib.hid (show incl xs i.toNat = incl (xs.drop (splitN n)) (i - splitN n).toNat ++ [root (xs.take (splitN n))] by
          have := incl_right (l := xs) (by omega) (i := i.toNat) (by rw [hl]; omega)
          rw [hl] at this
          rw [this, show (i - splitN n).toNat = i.toNat - splitN n by omega])
        rw [E.out]
        have B6 := Lib.hid (incl_ok _ O2.out (i - splitN n).toNat).2.2
        have hi' : (splitN n : Int) ≤ i := by omega
        clear hl hr hok hcell ih E h1 hi
        generalize splitN n = k at *
        have k1 : k ≤ c := by omega
        have k2 : k ≤ n := by omega
        have k3 : IntKind.i64.wrap (i - (k : Int)) = i - (k : Int) := IntWalk.i64_in _ (by omega)
        go_enter Try.func61, Try.ntmps61
        go_wp2_with (go_at_call 65; refine (split_any _ _ (by omega) (by omega)).mono ?_; rintro e w' ⟨rfl, rfl⟩)
        go_region_law (first
          | (refine step_push rfl (.tmp 32) (.tmp 37) rfl w.heap.size A1 n1 c1 (incl (xs.drop k) (i - k).toNat) (root (xs.take k)) w1.heap.size (by simp [Act.eval]) (by simp [Act.eval]) (World.ownsRow.alloc (w := w1.drewN m2) hown1 _) (heap_alloc_new _ _) (by have := B6.out; omega) (by simp; exact Nat.le_succ_of_le hb1.size) ?_; intro g cap' w5 hown5 hb5 hg5)
          | (go_simp; go_at_call 61; refine (IH.out _ _ _ L _ (xs.drop k) _ (by omega) L2.out (by omega) T2.out.drew O2.out (by omega) (by omega) (by omega)).mono ?_; rintro e w1 ⟨A1, n1, c1, rfl, hn1, hown1, hb1⟩)
          | (go_simp; go_at_call 53; refine (root_any n _ _ _ L (xs.take k) _ (by omega) L1.out (by omega) (T1.out.drew.below hb1) O1.out).mono ?_; rintro e w2 ⟨rfl, m2, rfl⟩))
        go_wp2_with fail
        go_ret
        exact ⟨_, _, _, rfl, by rw [List.length_append, hn1]; rfl, hown5, ((below_drewN (((Below.refl _ _).drew).trans hb1) m2).alloc (by exact hb1.size) _).trans hb5⟩

set_option maxHeartbeats 400000 in
theorem l2Proof_any (f : Nat) : ∀ (A : Option Addr) (n c L : Nat) (i : Int) (xs : List Int) (w : World), n ≤ f → xs.length = n → n ≤ c → RI w L A xs → okL xs = true → 1 ≤ n → 0 ≤ i → i < n →
    Calls Try.prog 60 #[.slice A n c, .int .i64 i] w (OwnRes w (incl xs i.toNat)) := by
  induction f with
  | zero => intro A n c L i xs w hf; intro _ _ _ _ h; omega
  | succ f ih =>
    intro A n c L i xs w hf hl hc hr hok h1n i0 i1
    by_cases h1 : n = 1
    · subst h1
      rw [incl_one (by omega)]
      clear hl hr hok ih
      go_enter Try.func60, Try.ntmps60
      go_wp2_with fail
      go_ret
      exact ⟨_, 0, 0, rfl, rfl, World.ownsRow_made w #[] 0 (Nat.le_refl _) (by decide) rfl, (Below.refl _ _).alloc (Nat.le_refl _) _⟩
    · obtain ⟨b, o, rfl, _, hbs, hcell⟩ := hr.at_ (j := 0) (by omega)
      have hn40 : n ≤ 40 := by have := (okL_iff.1 hok).1; omega
      have hsp := split_pos n
      have hsl := split_lt (n := n) (by omega)
      have T1 := Lib.hid (hr.take (splitN n))
      have T2 := Lib.hid (hr.drop (splitN n))
      have O1 := Lib.hid (okL_take hok (splitN n))
      have O2 := Lib.hid (okL_drop hok (splitN n))
      have L1 := Lib.hid (show (xs.take (splitN n)).length = splitN n by simp; omega)
      have L2 := Lib.hid (show (xs.drop (splitN n)).length = n - splitN n by simp; omega)
      have IH := Lib.hid ih
      have HL := Lib.hid hl
      have g1 : ((n : Int) == 1) = false := by simp; omega
      have g0 : 2 ≤ n := by omega
      have g2 : splitI (n : Int) = (splitN n : Int) := splitI_cast n
      have g3 : ¬ c = splitN n := by omega
      by_cases hi : i < splitN n
      · have E := Lib.hid (show incl xs i.toNat = incl (xs.take (splitN n)) i.toNat ++ [root (xs.drop (splitN n))] by
          have := incl_left (l := xs) (by omega) (i := i.toNat) (by rw [hl]; omega)
          rwa [hl] at this)
        rw [E.out]
        have B6 := Lib.hid (incl_ok _ O1.out i.toNat).2.2
        clear hl hr hok hcell ih E h1
        generalize splitN n = k at *
        have k1 : k ≤ c := by omega
        have k2 : k ≤ n := by omega
        go_enter Try.func60, Try.ntmps60
        go_wp2_with (go_at_call 79; refine (sTreSplit_yes _ _ (by omega) (by omega)).mono ?_; rintro e w' ⟨rfl, rfl⟩)
        go_region_law (first
          | (refine step_push rfl (.tmp 20) (.tmp 25) rfl w.heap.size A1 n1 c1 (incl (xs.take k) i.toNat) (root (xs.drop k)) w1.heap.size (by simp [Act.eval]) (by simp [Act.eval]) (World.ownsRow.alloc (w := w1.drewN m2) hown1 _) (heap_alloc_new _ _) (by have := B6.out; omega) (by simp; exact Nat.le_succ_of_le hb1.size) ?_; intro g cap' w5 hown5 hb5 hg5)
          | (go_simp; go_at_call 60; refine (IH.out _ _ _ L _ (xs.take k) _ (by omega) L1.out (by omega) T1.out.drew O1.out (by omega) (by omega) (by omega)).mono ?_; rintro e w1 ⟨A1, n1, c1, rfl, hn1, hown1, hb1⟩)
          | (go_simp; go_at_call 52; refine (l2Root_any n _ _ _ L (xs.drop k) _ (by omega) L2.out (by omega) (T2.out.drew.below hb1) O2.out).mono ?_; rintro e w2 ⟨rfl, m2, rfl⟩))
        go_wp2_with fail
        go_ret
        exact ⟨_, _, _, rfl, by rw [List.length_append, hn1]; rfl, hown5, ((below_drewN (((Below.refl _ _).drew).trans hb1) m2).alloc (by exact hb1.size) _).trans hb5⟩
      · have E := Lib.hid (show incl xs i.toNat = incl (xs.drop (splitN n)) (i - splitN n).toNat ++ [root (xs.take (splitN n))] by
          have := incl_right (l := xs) (by omega) (i := i.toNat) (by rw [hl]; omega)
          rw [hl] at this
          rw [this, show (i - splitN n).toNat = i.toNat - splitN n by omega])
        rw [E.out]
        have B6 := Lib.hid (incl_ok _ O2.out (i - splitN n).toNat).2.2
        have hi' : (splitN n : Int) ≤ i := by omega
        clear hl hr hok hcell ih E h1 hi
        generalize splitN n = k at *
        have k1 : k ≤ c := by omega
        have k2 : k ≤ n := by omega
        have k3 : IntKind.i64.wrap (i - (k : Int)) = i - (k : Int) := IntWalk.i64_in _ (by omega)
        go_enter Try.func60, Try.ntmps60
        go_wp2_with (go_at_call 79; refine (sTreSplit_yes _ _ (by omega) (by omega)).mono ?_; rintro e w' ⟨rfl, rfl⟩)
        go_region_law (first
          | (refine step_push rfl (.tmp 33) (.tmp 38) rfl w.heap.size A1 n1 c1 (incl (xs.drop k) (i - k).toNat) (root (xs.take k)) w1.heap.size (by simp [Act.eval]) (by simp [Act.eval]) (World.ownsRow.alloc (w := w1.drewN m2) hown1 _) (heap_alloc_new _ _) (by have := B6.out; omega) (by simp; exact Nat.le_succ_of_le hb1.size) ?_; intro g cap' w5 hown5 hb5 hg5)
          | (go_simp; go_at_call 60; refine (IH.out _ _ _ L _ (xs.drop k) _ (by omega) L2.out (by omega) T2.out.drew O2.out (by omega) (by omega) (by omega)).mono ?_; rintro e w1 ⟨A1, n1, c1, rfl, hn1, hown1, hb1⟩)
          | (go_simp; go_at_call 52; refine (l2Root_any n _ _ _ L (xs.take k) _ (by omega) L1.out (by omega) (T1.out.drew.below hb1) O1.out).mono ?_; rintro e w2 ⟨rfl, m2, rfl⟩))
        go_wp2_with fail
        go_ret
        exact ⟨_, _, _, rfl, by rw [List.length_append, hn1]; rfl, hown5, ((below_drewN (((Below.refl _ _).drew).trans hb1) m2).alloc (by exact hb1.size) _).trans hb5⟩

def treProof (xs : List Int) (i : Int) : List Int := if okL xs = true ∧ inB i 0 ((xs.length : Int) - 1) = true then incl xs i.toNat else []
theorem treProof_yes {xs : List Int} {i : Int} (h : okL xs = true) (h2 : inB i 0 ((xs.length : Int) - 1) = true) : treProof xs i = incl xs i.toNat := by unfold treProof; rw [if_pos ⟨h, h2⟩]
theorem treProof_no {xs : List Int} {i : Int} (h : ¬ (okL xs = true ∧ inB i 0 ((xs.length : Int) - 1) = true)) : treProof xs i = [] := by unfold treProof; rw [if_neg h]

set_option maxHeartbeats 400000 in
theorem TreProof_any (A : Option Addr) (n c L : Nat) (i : Int) (xs : List Int) (w : World) (hl : xs.length = n) (hc : n ≤ c) (hm2 : n ≤ 2000000) (hr : RI w L A xs) :
    Calls Try.prog 30 #[.slice A n c, .int .i64 i] w (OwnRes w (treProof xs i)) := by
  have HL := Lib.hid hl
  by_cases h : okL xs = true ∧ inB i 0 ((xs.length : Int) - 1) = true
  · rw [treProof_yes h.1 h.2]
    obtain ⟨h1, h2⟩ := h
    rw [hl] at h2
    obtain ⟨i0, i1⟩ := inB_iff.1 h2
    have HO := Lib.hid h1
    clear hl
    go_enter Try.func30, Try.ntmps30
    go_wp2_with (first | (go_at_call 56; refine (in_any _ _ _ _).mono ?_; rintro e w' ⟨rfl, rfl⟩) | (go_at_call 20; refine (TreOk_any _ _ _ L xs _ HL.out hr hm2).mono ?_; rintro e w' ⟨rfl, rfl⟩) | (go_at_call 61; refine (inclusion_any n _ _ _ L _ xs _ (Nat.le_refl _) HL.out hc hr HO.out (by omega) (by omega) (by omega)).mono ?_; rintro e w1 ⟨A1, n1, c1, rfl, hn1, hown1, hb1⟩))
    go_ret
    exact ⟨_, _, _, rfl, hn1, hown1, hb1⟩
  · rw [treProof_no h]
    have h' : okL xs = false ∨ (okL xs = true ∧ inB i 0 ((n : Int) - 1) = false) := by
      rw [hl] at h
      cases ha : okL xs <;> cases hb : inB i 0 ((n : Int) - 1) <;> simp_all
    clear h hl
    rcases h' with h1 | ⟨h1, h2⟩
    all_goals
      go_enter Try.func30, Try.ntmps30
      go_wp2_with (first | (go_at_call 56; refine (in_any _ _ _ _).mono ?_; rintro e w' ⟨rfl, rfl⟩) | (go_at_call 20; refine (TreOk_any _ _ _ L xs _ HL.out hr hm2).mono ?_; rintro e w' ⟨rfl, rfl⟩))
      go_ret
      exact ⟨none, 0, 0, rfl, rfl, World.ownsRow_nil _ _ _ _, Below.refl _ _⟩

set_option maxHeartbeats 400000 in
theorem sTreProof_any (A : Option Addr) (n c L : Nat) (i : Int) (xs : List Int) (w : World) (hl : xs.length = n) (hc : n ≤ c) (hm2 : n ≤ 2000000) (hr : RI w L A xs) :
    Calls Try.prog 29 #[.slice A n c, .int .i64 i] w (OwnRes w (treProof xs i)) := by
  have HL := Lib.hid hl
  by_cases h : okL xs = true ∧ inB i 0 ((xs.length : Int) - 1) = true
  · rw [treProof_yes h.1 h.2]
    obtain ⟨h1, h2⟩ := h
    rw [hl] at h2
    obtain ⟨i0, i1⟩ := inB_iff.1 h2
    have HO := Lib.hid h1
    clear hl
    go_enter Try.func29, Try.ntmps29
    go_wp2_with (first | (go_at_call 54; refine (l1In_any _ _ _ _).mono ?_; rintro e w' ⟨rfl, rfl⟩) | (go_at_call 19; refine (sTreOk_any _ _ _ L xs _ HL.out hr hm2).mono ?_; rintro e w' ⟨rfl, rfl⟩) | (go_at_call 60; refine (l2Proof_any n _ _ _ L _ xs _ (Nat.le_refl _) HL.out hc hr HO.out (by omega) (by omega) (by omega)).mono ?_; rintro e w1 ⟨A1, n1, c1, rfl, hn1, hown1, hb1⟩))
    go_ret
    exact ⟨_, _, _, rfl, hn1, hown1, hb1⟩
  · rw [treProof_no h]
    have h' : okL xs = false ∨ (okL xs = true ∧ inB i 0 ((n : Int) - 1) = false) := by
      rw [hl] at h
      cases ha : okL xs <;> cases hb : inB i 0 ((n : Int) - 1) <;> simp_all
    clear h hl
    rcases h' with h1 | ⟨h1, h2⟩
    all_goals
      go_enter Try.func29, Try.ntmps29
      go_wp2_with (first | (go_at_call 54; refine (l1In_any _ _ _ _).mono ?_; rintro e w' ⟨rfl, rfl⟩) | (go_at_call 19; refine (sTreOk_any _ _ _ L xs _ HL.out hr hm2).mono ?_; rintro e w' ⟨rfl, rfl⟩))
      go_ret
      exact ⟨_, 0, 0, rfl, rfl, World.ownsRow_made w #[] 0 (Nat.le_refl _) (by decide) rfl, (Below.refl _ _).alloc (Nat.le_refl _) _⟩
end Go.Proofs.Ytjacddjmconfaaa
