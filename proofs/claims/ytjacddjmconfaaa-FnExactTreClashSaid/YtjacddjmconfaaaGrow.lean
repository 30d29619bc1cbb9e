/- Contracts: growth shown, growth checked. -/
import Derived.Test.YtjacddjmconfaaaIncl
import Derived.Deep.RegionLaw
import Derived.IntWalk
namespace Go.Proofs.Ytjacddjmconfaaa
set_option linter.unusedVariables false
open Go.RowKit Pl
attribute [local go_sem ↓] Go.wp_at_zero Go.wp_at_succ


set_option maxHeartbeats 400000 in
theorem growth_any (f : Nat) : ∀ (A : Option Addr) (n c L : Nat) (m : Int) (kn : Bool) (xs : List Int) (w : World), n ≤ f → xs.length = n → n ≤ c → RI w L A xs → okL xs = true → 1 ≤ m → m ≤ n →
    Calls Try.prog 63 #[.slice A n c, .int .i64 m, .bool kn] w (OwnRes w (grow xs m kn)) := by
  induction f with
  | zero => intro A n c L m kn xs w hf; intro _ _ _ _ h1 h2; omega
  | succ f ih =>
    intro A n c L m kn xs w hf hl hc hr hok h1m hmn
    by_cases h1 : m = n
    · rw [h1, ← hl, grow_all, hl]
      have g1 : ((n : Int) == (n : Int)) = true := by simp
      have HL := Lib.hid hl
      have HO := Lib.hid hok
      clear hl hok ih h1 hmn h1m
      cases kn
      · rw [if_neg (by simp)]
        go_enter Try.func63, Try.ntmps63
        go_wp2_with (go_at_call 53; refine (root_any n _ _ _ L xs _ (Nat.le_refl _) HL.out hc hr HO.out).mono ?_; rintro e w2 ⟨rfl, m2, rfl⟩)
        go_ret
        exact ⟨_, 1, 1, rfl, rfl, own_lit (w.drewN m2) _ [root xs] _ (Nat.le_refl _) rfl (by simp), (below_drewN (Below.refl _ _) _).alloc (Nat.le_refl _) _⟩
      · rw [if_pos rfl]
        go_enter Try.func63, Try.ntmps63
        go_wp2_with fail
        go_ret
        exact ⟨none, 0, 0, rfl, rfl, World.ownsRow_nil _ _ _ _, Below.refl _ _⟩
    · have hpos : 0 < xs.length := by omega
      obtain ⟨b, o, rfl, _, hbs, hcell⟩ := hr.at_ (j := 0) hpos
      have hn40 : n ≤ 40 := by have := (okL_iff.1 hok).1; omega
      have hsp := split_pos n
      have hsl := split_lt (n := n) (by omega)
      have T1 := Lib.hid (hr.take (splitN n))
      have T2 := Lib.hid (hr.drop (splitN n))
      have O1 := Lib.hid (okL_take hok (splitN n))
      have O2 := Lib.hid (okL_drop hok (splitN n))
      have L1 := Lib.hid (show (xs.take (splitN n)).length = splitN n by simp; omega)
      have L2 := Lib.hid (show (xs.drop (splitN n)).length = n - splitN n by simp; omega)
      have IH := Lib.hid ih
      have HL := Lib.hid hl
      have g1 : (m == (n : Int)) = false := by simp; omega
      have g0 : 2 ≤ n := by omega
      have g2 : splitI (n : Int) = (splitN n : Int) := splitI_cast n
      have g3 : ¬ c = splitN n := by omega
      have hmn' : m < n := by omega
      by_cases hi : m ≤ splitN n
      · have E := Lib.hid (show grow xs m kn = grow (xs.take (splitN n)) m kn ++ [root (xs.drop (splitN n))] by
          have := grow_left (l := xs) kn h1m (by omega) (by rw [hl, g2]; omega)
          rwa [hl] at this)
        rw [E.out]
        have B6 := Lib.hid (show (grow (xs.take (splitN n)) m kn).length ≤ 40 by
          have h := grow_len (xs.take (splitN n)) m.toNat kn (by omega) (by rw [L1.out]; omega)
          rw [Int.toNat_of_nonneg (by omega), L1.out] at h
          omega)
        clear hl hr hok hcell ih E h1 hpos
        generalize splitN n = k at *
        have k1 : k ≤ c := by omega
        have k2 : k ≤ n := by omega
        go_enter Try.func63, Try.ntmps63
        go_wp2_with (go_at_call 65; refine (split_any _ _ (by omega) (by omega)).mono ?_; rintro e w' ⟨rfl, rfl⟩)
        go_region_law (first
          | (refine step_push rfl (.tmp 27) (.tmp 32) rfl w.heap.size A1 n1 c1 (grow (xs.take k) m kn) (root (xs.drop k)) w1.heap.size (by simp [Act.eval]) (by simp [Act.eval]) (World.ownsRow.alloc (w := w1.drewN m2) hown1 _) (heap_alloc_new _ _) (by have := B6.out; omega) (by simp; exact Nat.le_succ_of_le hb1.size) ?_; intro g cap' w5 hown5 hb5 hg5)
          | (go_simp; go_at_call 63; refine (IH.out _ _ _ L _ _ (xs.take k) _ (by omega) L1.out (by omega) T1.out.drew O1.out (by omega) (by omega)).mono ?_; rintro e w1 ⟨A1, n1, c1, rfl, hn1, hown1, hb1⟩)
          | (go_simp; go_at_call 53; refine (root_any n _ _ _ L (xs.drop k) _ (by omega) L2.out (by omega) (T2.out.drew.below hb1) O2.out).mono ?_; rintro e w2 ⟨rfl, m2, rfl⟩))
        go_wp2_with fail
        go_ret
        exact ⟨_, _, _, rfl, by rw [List.length_append, hn1]; rfl, hown5, ((below_drewN (((Below.refl _ _).drew).trans hb1) m2).alloc (by exact hb1.size) _).trans hb5⟩
      · have E := Lib.hid (show grow xs m kn = grow (xs.drop (splitN n)) (m - splitN n) false ++ [root (xs.take (splitN n))] by
          have := grow_right (l := xs) kn (m := m) (by omega) (by rw [hl, g2]; omega)
          rwa [hl, g2] at this)
        rw [E.out]
        have hi' : (splitN n : Int) < m := by omega
        have B6 := Lib.hid (show (grow (xs.drop (splitN n)) (m - splitN n) false).length ≤ 40 by
          have h := grow_len (xs.drop (splitN n)) (m - splitN n).toNat false (by omega) (by rw [L2.out]; omega)
          rw [Int.toNat_of_nonneg (by omega), L2.out] at h
          omega)
        clear hl hr hok hcell ih E h1 hi hpos
        generalize splitN n = k at *
        have k1 : k ≤ c := by omega
        have k2 : k ≤ n := by omega
        have k3 : IntKind.i64.wrap (m - (k : Int)) = m - (k : Int) := IntWalk.i64_in _ (by omega)
        go_enter Try.func63, Try.ntmps63
        go_wp2_with (go_at_call 65; refine (split_any _ _ (by omega) (by omega)).mono ?_; rintro e w' ⟨rfl, rfl⟩)
        go_region_law (first
          | (refine step_push rfl (.tmp 40) (.tmp 45) rfl w.heap.size A1 n1 c1 (grow (xs.drop k) (m - k) false) (root (xs.take k)) w1.heap.size (by simp [Act.eval]) (by simp [Act.eval]) (World.ownsRow.alloc (w := w1.drewN m2) hown1 _) (heap_alloc_new _ _) (by have := B6.out; omega) (by simp; exact Nat.le_succ_of_le hb1.size) ?_; intro g cap' w5 hown5 hb5 hg5)
          | (go_simp; go_at_call 63; refine (IH.out _ _ _ L _ _ (xs.drop k) _ (by omega) L2.out (by omega) T2.out.drew O2.out (by omega) (by omega)).mono ?_; rintro e w1 ⟨A1, n1, c1, rfl, hn1, hown1, hb1⟩)
          | (go_simp; go_at_call 53; refine (root_any n _ _ _ L (xs.take k) _ (by omega) L1.out (by omega) (T1.out.drew.below hb1) O1.out).mono ?_; rintro e w2 ⟨rfl, m2, rfl⟩))
        go_wp2_with fail
        go_ret
        exact ⟨_, _, _, rfl, by rw [List.length_append, hn1]; rfl, hown5, ((below_drewN (((Below.refl _ _).drew).trans hb1) m2).alloc (by exact hb1.size) _).trans hb5⟩

set_option maxHeartbeats 400000 in
theorem l3Proof_any (f : Nat) : ∀ (A : Option Addr) (n c L : Nat) (m : Int) (kn : Bool) (xs : List Int) (w : World), n ≤ f → xs.length = n → n ≤ c → RI w L A xs → okL xs = true → 1 ≤ m → m ≤ n →
    Calls Try.prog 62 #[.slice A n c, .int .i64 m, .bool kn] w (OwnRes w (grow xs m kn)) := by
  induction f with
  | zero => intro A n c L m kn xs w hf; intro _ _ _ _ h1 h2; omega
  | succ f ih =>
    intro A n c L m kn xs w hf hl hc hr hok h1m hmn
    by_cases h1 : m = n
    · rw [h1, ← hl, grow_all, hl]
      have g1 : ((n : Int) == (n : Int)) = true := by simp
      have HL := Lib.hid hl
      have HO := Lib.hid hok
      clear hl hok ih h1 hmn h1m
      cases kn
      · rw [if_neg (by simp)]
        go_enter Try.func62, Try.ntmps62
        go_wp2_with (go_at_call 52; refine (l2Root_any n _ _ _ L xs _ (Nat.le_refl _) HL.out hc hr HO.out).mono ?_; rintro e w2 ⟨rfl, m2, rfl⟩)
        go_ret
        exact ⟨_, 1, 1, rfl, rfl, own_lit (w.drewN m2) _ [root xs] _ (Nat.le_refl _) rfl (by simp), (below_drewN (Below.refl _ _) _).alloc (Nat.le_refl _) _⟩
      · rw [if_pos rfl]
        go_enter Try.func62, Try.ntmps62
        go_wp2_with fail
        go_ret
        exact ⟨_, 0, 0, rfl, rfl, World.ownsRow_made w #[] 0 (Nat.le_refl _) (by decide) rfl, (Below.refl _ _).alloc (Nat.le_refl _) _⟩
    · have hpos : 0 < xs.length := by omega
      obtain ⟨b, o, rfl, _, hbs, hcell⟩ := hr.at_ (j := 0) hpos
      have hn40 : n ≤ 40 := by have := (okL_iff.1 hok).1; omega
      have hsp := split_pos n
      have hsl := split_lt (n := n) (by omega)
      have T1 := Lib.hid (hr.take (splitN n))
      have T2 := Lib.hid (hr.drop (splitN n))
      have O1 := Lib.hid (okL_take hok (splitN n))
      have O2 := Lib.hid (okL_drop hok (splitN n))
      have L1 := Lib.hid (show (xs.take (splitN n)).length = splitN n by simp; omega)
      have L2 := Lib.hid (show (xs.drop (splitN n)).length = n - splitN n by simp; omega)
      have IH := Lib.hid ih
      have HL := Lib.hid hl
      have g1 : (m == (n : Int)) = false := by simp; omega
      have g0 : 2 ≤ n := by omega
      have g2 : splitI (n : Int) = (splitN n : Int) := splitI_cast n
      have g3 : ¬ c = splitN n := by omega
      have hmn' : m < n := by omega
      by_cases hi : m ≤ splitN n
      · have E := Lib.hid (show grow xs m kn = grow (xs.take (splitN n)) m kn ++ [root (xs.drop (splitN n))] by
          have := grow_left (l := xs) kn h1m (by omega) (by rw [hl, g2]; omega)
          rwa [hl] at this)
        rw [E.out]
        have B6 := Lib.hid (show (grow (xs.take (splitN n)) m kn).length ≤ 40 by
          have h := grow_len (xs.take (splitN n)) m.toNat kn (by omega) (by rw [L1.out]; omega)
          rw [Int.toNat_of_nonneg (by omega), L1.out] at h
          omega)
        clear hl hr hok hcell ih E h1 hpos
        generalize splitN n = k at *
        have k1 : k ≤ c := by omega
        have k2 : k ≤ n := by omega
        go_enter Try.func62, Try.ntmps62
        go_wp2_with (go_at_call 79; refine (sTreSplit_yes _ _ (by omega) (by omega)).mono ?_; rintro e w' ⟨rfl, rfl⟩)
        go_region_law (first
          | (refine step_push rfl (.tmp 29) (.tmp 34) rfl w.heap.size A1 n1 c1 (grow (xs.take k) m kn) (root (xs.drop k)) w1.heap.size (by simp [Act.eval]) (by simp [Act.eval]) (World.ownsRow.alloc (w := w1.drewN m2) hown1 _) (heap_alloc_new _ _) (by have := B6.out; omega) (by simp; exact Nat.le_succ_of_le hb1.size) ?_; intro g cap' w5 hown5 hb5 hg5)
          | (go_simp; go_at_call 62; refine (IH.out _ _ _ L _ _ (xs.take k) _ (by omega) L1.out (by omega) T1.out.drew O1.out (by omega) (by omega)).mono ?_; rintro e w1 ⟨A1, n1, c1, rfl, hn1, hown1, hb1⟩)
          | (go_simp; go_at_call 52; refine (l2Root_any n _ _ _ L (xs.drop k) _ (by omega) L2.out (by omega) (T2.out.drew.below hb1) O2.out).mono ?_; rintro e w2 ⟨rfl, m2, rfl⟩))
        go_wp2_with fail
        go_ret
        exact ⟨_, _, _, rfl, by rw [List.length_append, hn1]; rfl, hown5, ((below_drewN (((Below.refl _ _).drew).trans hb1) m2).alloc (by exact hb1.size) _).trans hb5⟩
      · have E := Lib.hid (show grow xs m kn = grow (xs.drop (splitN n)) (m - splitN n) false ++ [root (xs.take (splitN n))] by
          have := grow_right (l := xs) kn (m := m) (by omega) (by rw [hl, g2]; omega)
          rwa [hl, g2] at this)
        rw [E.out]
        have hi' : (splitN n : Int) < m := by omega
        have B6 := Lib.hid (show (grow (xs.drop (splitN n)) (m - splitN n) false).length ≤ 40 by
          have h := grow_len (xs.drop (splitN n)) (m - splitN n).toNat false (by omega) (by rw [L2.out]; omega)
          rw [Int.toNat_of_nonneg (by omega), L2.out] at h
          omega)
        clear hl hr hok hcell ih E h1 hi hpos
        generalize splitN n = k at *
        have k1 : k ≤ c := by omega
        have k2 : k ≤ n := by omega
        have k3 : IntKind.i64.wrap (m - (k : Int)) = m - (k : Int) := IntWalk.i64_in _ (by omega)
        go_enter Try.func62, Try.ntmps62
        go_wp2_with (go_at_call 79; refine (sTreSplit_yes _ _ (by omega) (by omega)).mono ?_; rintro e w' ⟨rfl, rfl⟩)
        go_region_law (first
          | (refine step_push rfl (.tmp 42) (.tmp 47) rfl w.heap.size A1 n1 c1 (grow (xs.drop k) (m - k) false) (root (xs.take k)) w1.heap.size (by simp [Act.eval]) (by simp [Act.eval]) (World.ownsRow.alloc (w := w1.drewN m2) hown1 _) (heap_alloc_new _ _) (by have := B6.out; omega) (by simp; exact Nat.le_succ_of_le hb1.size) ?_; intro g cap' w5 hown5 hb5 hg5)
          | (go_simp; go_at_call 62; refine (IH.out _ _ _ L _ _ (xs.drop k) _ (by omega) L2.out (by omega) T2.out.drew O2.out (by omega) (by omega)).mono ?_; rintro e w1 ⟨A1, n1, c1, rfl, hn1, hown1, hb1⟩)
          | (go_simp; go_at_call 52; refine (l2Root_any n _ _ _ L (xs.take k) _ (by omega) L1.out (by omega) (T1.out.drew.below hb1) O1.out).mono ?_; rintro e w2 ⟨rfl, m2, rfl⟩))
        go_wp2_with fail
        go_ret
        exact ⟨_, _, _, rfl, by rw [List.length_append, hn1]; rfl, hown5, ((below_drewN (((Below.refl _ _).drew).trans hb1) m2).alloc (by exact hb1.size) _).trans hb5⟩

def conProof (xs : List Int) (m : Int) : List Int := if okL xs = true ∧ inB m 1 (xs.length : Int) = true then grow xs m true else []
theorem conProof_yes {xs : List Int} {m : Int} (h : okL xs = true) (h2 : inB m 1 (xs.length : Int) = true) : conProof xs m = grow xs m true := by unfold conProof; rw [if_pos ⟨h, h2⟩]
theorem conProof_no {xs : List Int} {m : Int} (h : ¬ (okL xs = true ∧ inB m 1 (xs.length : Int) = true)) : conProof xs m = [] := by unfold conProof; rw [if_neg h]

set_option maxHeartbeats 400000 in
theorem ConProof_any (A : Option Addr) (n c L : Nat) (m : Int) (xs : List Int) (w : World) (hl : xs.length = n) (hc : n ≤ c) (hm2 : n ≤ 2000000) (hr : RI w L A xs) :
    Calls Try.prog 34 #[.slice A n c, .int .i64 m] w (OwnRes w (conProof xs m)) := by
  have HL := Lib.hid hl
  by_cases h : okL xs = true ∧ inB m 1 (xs.length : Int) = true
  · rw [conProof_yes h.1 h.2]
    obtain ⟨h1, h2⟩ := h
    rw [hl] at h2
    obtain ⟨i0, i1⟩ := inB_iff.1 h2
    have HO := Lib.hid h1
    clear hl
    go_enter Try.func34, Try.ntmps34
    go_wp2_with (first | (go_at_call 56; refine (in_any _ _ _ _).mono ?_; rintro e w' ⟨rfl, rfl⟩) | (go_at_call 20; refine (TreOk_any _ _ _ L xs _ HL.out hr hm2).mono ?_; rintro e w' ⟨rfl, rfl⟩) | (go_at_call 63; refine (growth_any n _ _ _ L _ _ xs _ (Nat.le_refl _) HL.out hc hr HO.out (by omega) (by omega)).mono ?_; rintro e w1 ⟨A1, n1, c1, rfl, hn1, hown1, hb1⟩))
    go_ret
    exact ⟨_, _, _, rfl, hn1, hown1, hb1⟩
  · rw [conProof_no h]
    have h' : okL xs = false ∨ (okL xs = true ∧ inB m 1 (n : Int) = false) := by
      rw [hl] at h
      cases ha : okL xs <;> cases hb : inB m 1 (n : Int) <;> simp_all
    clear h hl
    rcases h' with h1 | ⟨h1, h2⟩
    all_goals
      go_enter Try.func34, Try.ntmps34
      go_wp2_with (first | (go_at_call 56; refine (in_any _ _ _ _).mono ?_; rintro e w' ⟨rfl, rfl⟩) | (go_at_call 20; refine (TreOk_any _ _ _ L xs _ HL.out hr hm2).mono ?_; rintro e w' ⟨rfl, rfl⟩))
      go_ret
      exact ⟨none, 0, 0, rfl, rfl, World.ownsRow_nil _ _ _ _, Below.refl _ _⟩

set_option maxHeartbeats 400000 in
theorem sConProof_any (A : Option Addr) (n c L : Nat) (m : Int) (xs : List Int) (w : World) (hl : xs.length = n) (hc : n ≤ c) (hm2 : n ≤ 2000000) (hr : RI w L A xs) :
    Calls Try.prog 33 #[.slice A n c, .int .i64 m] w (OwnRes w (conProof xs m)) := by
  have HL := Lib.hid hl
  by_cases h : okL xs = true ∧ inB m 1 (xs.length : Int) = true
  · rw [conProof_yes h.1 h.2]
    obtain ⟨h1, h2⟩ := h
    rw [hl] at h2
    obtain ⟨i0, i1⟩ := inB_iff.1 h2
    have HO := Lib.hid h1
    clear hl
    go_enter Try.func33, Try.ntmps33
    go_wp2_with (first | (go_at_call 54; refine (l1In_any _ _ _ _).mono ?_; rintro e w' ⟨rfl, rfl⟩) | (go_at_call 19; refine (sTreOk_any _ _ _ L xs _ HL.out hr hm2).mono ?_; rintro e w' ⟨rfl, rfl⟩) | (go_at_call 62; refine (l3Proof_any n _ _ _ L _ _ xs _ (Nat.le_refl _) HL.out hc hr HO.out (by omega) (by omega)).mono ?_; rintro e w1 ⟨A1, n1, c1, rfl, hn1, hown1, hb1⟩))
    go_ret
    exact ⟨_, _, _, rfl, hn1, hown1, hb1⟩
  · rw [conProof_no h]
    have h' : okL xs = false ∨ (okL xs = true ∧ inB m 1 (n : Int) = false) := by
      rw [hl] at h
      cases ha : okL xs <;> cases hb : inB m 1 (n : Int) <;> simp_all
    clear h hl
    rcases h' with h1 | ⟨h1, h2⟩
    all_goals
      go_enter Try.func33, Try.ntmps33
      go_wp2_with (first | (go_at_call 54; refine (l1In_any _ _ _ _).mono ?_; rintro e w' ⟨rfl, rfl⟩) | (go_at_call 19; refine (sTreOk_any _ _ _ L xs _ HL.out hr hm2).mono ?_; rintro e w' ⟨rfl, rfl⟩))
      go_ret
      exact ⟨_, 0, 0, rfl, rfl, World.ownsRow_made w #[] 0 (Nat.le_refl _) (by decide) rfl, (Below.refl _ _).alloc (Nat.le_refl _) _⟩
end Go.Proofs.Ytjacddjmconfaaa
