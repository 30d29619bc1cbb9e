/- Contracts: a tree's root. -/
import Derived.Test.YtjacddjmconfaaaTok
namespace Go.Proofs.Ytjacddjmconfaaa
set_option linter.unusedVariables false
open Go.RowKit Pl

theorem quiet_add {P : Program} {f : FuncId} {args : Array Value} {w : World} {a n : Nat} {v : Value}
    (h : Calls P f args (w.drewN (a + n)) fun e w' => e = .returned v ∧ ∃ m, w' = (w.drewN (a + n)).drewN m) :
    Calls P f args (w.drewN (a + n)) fun e w'' => e = .returned v ∧ ∃ m, w'' = w.drewN (a + m) :=
  h.mono fun _ _ ⟨he, m, hm⟩ => ⟨he, n + m, by rw [hm, World.drewN_drewN, Nat.add_assoc]⟩
theorem quiet_add_left {P : Program} {f : FuncId} {args : Array Value} {w : World} {a n : Nat} {v : Value}
    (h : Calls P f args (w.drewN (a + n)) fun e w' => e = .returned v ∧ w.drewN (a + n) = w') :
    Calls P f args (w.drewN (a + n)) fun e w'' => e = .returned v ∧ ∃ m, w'' = w.drewN (a + m) :=
  h.mono fun _ _ ⟨he, hm⟩ => ⟨he, n, hm.symm⟩
theorem quiet_left {P : Program} {f : FuncId} {args : Array Value} {w : World} {n : Nat} {v : Value}
    (h : Calls P f args (w.drewN n) fun e w' => e = .returned v ∧ w.drewN n = w') : Calls P f args (w.drewN n) fun e w'' => e = .returned v ∧ ∃ m, w'' = w.drewN m :=
  h.mono fun _ _ ⟨he, hm⟩ => ⟨he, n, hm.symm⟩

set_option maxHeartbeats 400000 in
theorem root_any (f : Nat) : ∀ (A : Option Addr) (n c L : Nat) (xs : List Int) (w : World), n ≤ f → xs.length = n → n ≤ c → RI w L A xs → okL xs = true →
    Calls Try.prog 53 #[.slice A n c] w fun e w' => e = .returned (.int .i64 (root xs)) ∧ ∃ m, w' = w.drewN m := by
  induction f with
  | zero =>
    intro A n c L xs w hf hl hc hr hok
    obtain rfl : n = 0 := by omega
    rw [root_len0 hl]
    clear hl hr hok
    go_enter Try.func53, Try.ntmps53
    go_wp2_with fail
    go_ret
    exact ⟨rfl, 0, rfl⟩
  | succ f ih =>
    intro A n c L xs w hf hl hc hr hok
    by_cases h0 : n = 0
    · subst h0
      rw [root_len0 hl]
      clear hl hr hok ih
      go_enter Try.func53, Try.ntmps53
      go_wp2_with fail
      go_ret
      exact ⟨rfl, 0, rfl⟩
    · obtain ⟨b, o, rfl, _, _, hcell⟩ := hr.at_ (j := 0) (by omega)
      by_cases h1 : n = 1
      · subst h1
        rw [root_len1 hl]
        generalize xs.getD 0 0 = z at *
        clear hl hr hok ih
        have hcell' : w.cell? ⟨b, o, none⟩ = some (.int .i64 z) := hcell
        clear hcell
        go_enter Try.func53, Try.ntmps53
        go_wp2_with fail
        go_ret
        exact ⟨rfl, 0, rfl⟩
      · have hn40 : n ≤ 40 := by have := (okL_iff.1 hok).1; omega
        have hsp := split_pos n
        have hsl := split_lt (n := n) (by omega)
        have hroot := root_two (l := xs) (by omega)
        rw [hl] at hroot
        have T1 := Lib.hid (hr.take (splitN n))
        have T2 := Lib.hid (hr.drop (splitN n))
        have O1 := Lib.hid (okL_take hok (splitN n))
        have O2 := Lib.hid (okL_drop hok (splitN n))
        have L1 := Lib.hid (show (xs.take (splitN n)).length = splitN n by simp; omega)
        have L2 := Lib.hid (show (xs.drop (splitN n)).length = n - splitN n by simp; omega)
        have R1 := okI_iff.1 (root_ok O1.out)
        have R2 := okI_iff.1 (root_ok O2.out)
        obtain ⟨r1, r2⟩ := R1
        obtain ⟨r3, r4⟩ := R2
        have IH := Lib.hid ih
        rw [hroot]
        clear hl hr hok hcell ih hroot
        have g0 : ((n : Int) == 0) = false := by simp; omega
        have g1 : ((n : Int) == 1) = false := by simp; omega
        have g2 : splitI (n : Int) = (splitN n : Int) := splitI_cast n
        have g3 : ¬ c = splitN n := by omega
        generalize splitN n = k at *
        go_enter Try.func53, Try.ntmps53
        go_wp2_with (go_at_call 65; refine (split_any _ _ (by omega) (by omega)).mono ?_; rintro e w' ⟨rfl, rfl⟩)
        go_quiet (first
          | (go_at_call 53; apply Calls.quiet_of; (with_reducible exact IH.out _ _ _ L (xs.take k) _ (by omega) L1.out (by omega) (T1.out.drewN _) O1.out))
          | (go_at_call 53; apply Calls.quiet_of; (with_reducible exact IH.out _ _ _ L (xs.drop k) _ (by omega) L2.out (by omega) (T2.out.drewN _) O2.out))
          | (go_at_call 81; exact quiet_left (pair_any _ _ _ (by omega) (by omega) (by omega) (by omega))))
        go_wp2
        go_ret
        exact ⟨rfl, _, rfl⟩
set_option maxHeartbeats 400000 in
theorem l2Root_any (f : Nat) : ∀ (A : Option Addr) (n c L : Nat) (xs : List Int) (w : World), n ≤ f → xs.length = n → n ≤ c → RI w L A xs → okL xs = true →
    Calls Try.prog 52 #[.slice A n c] w fun e w' => e = .returned (.int .i64 (root xs)) ∧ ∃ m, w' = w.drewN m := by
  induction f with
  | zero =>
    intro A n c L xs w hf hl hc hr hok
    obtain rfl : n = 0 := by omega
    rw [root_len0 hl]
    clear hl hr hok
    go_enter Try.func52, Try.ntmps52
    go_wp2_with fail
    go_ret
    exact ⟨rfl, 0, rfl⟩
  | succ f ih =>
    intro A n c L xs w hf hl hc hr hok
    by_cases h0 : n = 0
    · subst h0
      rw [root_len0 hl]
      clear hl hr hok ih
      go_enter Try.func52, Try.ntmps52
      go_wp2_with fail
      go_ret
      exact ⟨rfl, 0, rfl⟩
    · obtain ⟨b, o, rfl, _, _, hcell⟩ := hr.at_ (j := 0) (by omega)
      by_cases h1 : n = 1
      · subst h1
        rw [root_len1 hl]
        generalize xs.getD 0 0 = z at *
        clear hl hr hok ih
        have hcell' : w.cell? ⟨b, o, none⟩ = some (.int .i64 z) := hcell
        clear hcell
        go_enter Try.func52, Try.ntmps52
        go_wp2_with fail
        go_ret
        exact ⟨rfl, 0, rfl⟩
      · have hn40 : n ≤ 40 := by have := (okL_iff.1 hok).1; omega
        have hsp := split_pos n
        have hsl := split_lt (n := n) (by omega)
        have hroot := root_two (l := xs) (by omega)
        rw [hl] at hroot
        have T1 := Lib.hid (hr.take (splitN n))
        have T2 := Lib.hid (hr.drop (splitN n))
        have O1 := Lib.hid (okL_take hok (splitN n))
        have O2 := Lib.hid (okL_drop hok (splitN n))
        have L1 := Lib.hid (show (xs.take (splitN n)).length = splitN n by simp; omega)
        have L2 := Lib.hid (show (xs.drop (splitN n)).length = n - splitN n by simp; omega)
        have Y1 := Lib.hid (root_ok O1.out)
        have Y2 := Lib.hid (root_ok O2.out)
        have R1 := okI_iff.1 (root_ok O1.out)
        have R2 := okI_iff.1 (root_ok O2.out)
        obtain ⟨r1, r2⟩ := R1
        obtain ⟨r3, r4⟩ := R2
        have IH := Lib.hid ih
        rw [hroot]
        clear hl hr hok hcell ih hroot
        have g0 : ((n : Int) == 0) = false := by simp; omega
        have g1 : ((n : Int) == 1) = false := by simp; omega
        have g2 : splitI (n : Int) = (splitN n : Int) := splitI_cast n
        have g3 : ¬ c = splitN n := by omega
        generalize splitN n = k at *
        go_enter Try.func52, Try.ntmps52
        go_wp2_with (go_at_call 79; refine (sTreSplit_yes _ _ (by omega) (by omega)).mono ?_; rintro e w' ⟨rfl, rfl⟩)
        go_quiet (first
          | (go_at_call 52; apply Calls.quiet_of; (with_reducible exact IH.out _ _ _ L (xs.take k) _ (by omega) L1.out (by omega) (T1.out.drewN _) O1.out))
          | (go_at_call 52; apply Calls.quiet_of; (with_reducible exact IH.out _ _ _ L (xs.drop k) _ (by omega) L2.out (by omega) (T2.out.drewN _) O2.out))
          | (go_at_call 80; exact quiet_left (sMixPair_yes _ _ _ Y1.out Y2.out)))
        go_wp2
        go_ret
        exact ⟨rfl, _, rfl⟩

theorem okL_len {xs : List Int} (h : okL xs = true) : xs.length ≤ 40 := (okL_iff.1 h).1
def treeRoot (xs : List Int) : Int := if okL xs = true then root xs else 0

theorem TreRoot_any (A : Option Addr) (n c L : Nat) (xs : List Int) (w : World) (hl : xs.length = n) (hc : n ≤ c) (hr : RI w L A xs) (hn : n ≤ 2000000) :
    Calls Try.prog 22 #[.slice A n c] w fun e w' => e = .returned (.int .i64 (treeRoot xs)) ∧ ∃ m, w' = w.drewN m := by
  cases hok : okL xs
  · have e : treeRoot xs = 0 := by simp [treeRoot, hok]
    have HL := Lib.hid hl
    rw [e]
    clear e hl
    go_enter Try.func22, Try.ntmps22
    go_wp2_with (go_at_call 20; refine (TreOk_any _ _ _ L xs _ HL.out hr hn).mono ?_; rintro e w' ⟨rfl, rfl⟩)
    go_ret
    exact ⟨rfl, 0, rfl⟩
  · have e : treeRoot xs = root xs := by simp [treeRoot, hok]
    have HL := Lib.hid hl
    have HO := Lib.hid hok
    rw [e]
    clear e hl
    go_enter Try.func22, Try.ntmps22
    go_wp2_with (first | (go_at_call 20; refine (TreOk_any _ _ _ L xs _ HL.out hr hn).mono ?_; rintro e w' ⟨rfl, rfl⟩) | (go_at_call 53; refine (root_any n _ _ _ L xs _ (Nat.le_refl _) HL.out hc hr HO.out).mono ?_; rintro e w' ⟨rfl, m, rfl⟩))
    go_ret
    exact ⟨rfl, _, rfl⟩

theorem sTreRoot_any (A : Option Addr) (n c L : Nat) (xs : List Int) (w : World) (hl : xs.length = n) (hc : n ≤ c) (hr : RI w L A xs) (hn : n ≤ 2000000) :
    Calls Try.prog 21 #[.slice A n c] w fun e w' => e = .returned (.int .i64 (treeRoot xs)) ∧ ∃ m, w' = w.drewN m := by
  cases hok : okL xs
  · have e : treeRoot xs = 0 := by simp [treeRoot, hok]
    have HL := Lib.hid hl
    rw [e]
    clear e hl
    go_enter Try.func21, Try.ntmps21
    go_wp2_with (go_at_call 19; refine (sTreOk_any _ _ _ L xs _ HL.out hr hn).mono ?_; rintro e w' ⟨rfl, rfl⟩)
    go_ret
    exact ⟨rfl, 0, rfl⟩
  · have e : treeRoot xs = root xs := by simp [treeRoot, hok]
    have HL := Lib.hid hl
    have HO := Lib.hid hok
    rw [e]
    clear e hl
    go_enter Try.func21, Try.ntmps21
    go_wp2_with (first | (go_at_call 19; refine (sTreOk_any _ _ _ L xs _ HL.out hr hn).mono ?_; rintro e w' ⟨rfl, rfl⟩) | (go_at_call 52; refine (l2Root_any n _ _ _ L xs _ (Nat.le_refl _) HL.out hc hr HO.out).mono ?_; rintro e w' ⟨rfl, m, rfl⟩))
    go_ret
    exact ⟨rfl, _, rfl⟩
end Go.Proofs.Ytjacddjmconfaaa
