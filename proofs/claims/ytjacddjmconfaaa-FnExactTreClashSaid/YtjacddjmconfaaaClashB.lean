/- Contracts: a clash found, program and reference, whole. -/
import Derived.Test.YtjacddjmconfaaaClash
namespace Go.Proofs.Ytjacddjmconfaaa
set_option linter.unusedVariables false
open Go.RowKit Pl

def lenOf (v : Value) : Nat := match v with | .slice _ n _ => n | _ => 0
theorem lenOf_slice (A : Option Addr) (n c : Nat) : lenOf (.slice A n c) = n := rfl
/-- the loop's relation -/
def SeekAt (leaf : Int) (CL : List Int) (L : Nat) (w : World) (l i p : Value) (wr : World) : Prop :=
  ∃ (A : Option Addr) (n c : Nat) (xs : List Int) (I : Int) (A2 : Option Addr) (m c2 : Nat) (pp : List Int) (d : Nat), l = .slice A n c ∧ i = .int .i64 I ∧ p = .slice A2 m c2 ∧ Seek leaf CL L w A n c xs I A2 m c2 pp ∧ wr = w.drewN d
theorem nil_res (w : World) (k : Nat) : OwnRes w [] (.returned (.slice none 0 0)) (w.drewN k) := ⟨none, 0, 0, rfl, rfl, World.ownsRow_nil _ _ _ _, below_drewN (Below.refl _ w) k⟩
theorem nil_res0 (w : World) : OwnRes w [] (.returned (.slice none 0 0)) w := ⟨none, 0, 0, rfl, rfl, World.ownsRow_nil _ _ _ _, Below.refl _ w⟩
theorem empty_res (w : World) (k : Nat) : OwnRes w [] (.returned (.slice (some ⟨w.heap.size, 0, none⟩) 0 0)) ((w.drewN k).alloc (.cells #[] 3)) :=
  ⟨_, 0, 0, rfl, rfl, World.ownsRow_made (w.drewN k) #[] 0 (Nat.le_refl _) (by decide) rfl, (below_drewN (Below.refl _ w) k).alloc (Nat.le_refl _) _⟩
theorem empty_res0 (w : World) : OwnRes w [] (.returned (.slice (some ⟨w.heap.size, 0, none⟩) 0 0)) (w.alloc (.cells #[] 3)) :=
  ⟨_, 0, 0, rfl, rfl, World.ownsRow_made w #[] 0 (Nat.le_refl _) (by decide) rfl, (Below.refl _ w).alloc (Nat.le_refl _) _⟩
/-- what the guard leaves -/
theorem guardC (xs : List Int) (i leaf : Int) (p : List Int) : okL xs = false ∨ (okL xs = true ∧ ((treUp xs.length i leaf p).2 && (treUp xs.length i leaf p).1 == treeRoot xs) = false) ∨
    (okL xs = true ∧ ((treUp xs.length i leaf p).2 && (treUp xs.length i leaf p).1 == treeRoot xs) = true ∧ (xs.getD i.toNat 0 == leaf) = true) ∨ clashG xs i leaf p := by
  unfold clashG
  cases okL xs <;> cases ((treUp xs.length i leaf p).2 && (treUp xs.length i leaf p).1 == treeRoot xs) <;> cases (xs.getD i.toNat 0 == leaf) <;> simp
theorem seek_of {w : World} {A A2 : Option Addr} {n c m c2 L : Nat} {xs p : List Int} {i leaf : Int} (hl : xs.length = n) (hc : n ≤ c) (hr : RI w L A xs) (hpl : p.length = m) (hpc : m ≤ c2) (hpr : RI w L A2 p) (hm : m ≤ 2000000) (h : clashG xs i leaf p) :
    Seek leaf (treClash xs i leaf p) L w A n c xs i A2 m c2 p := by
  obtain ⟨h1, h2, h3, h4, h5, h6, h7, h8⟩ := clashG_true h
  refine ⟨hl, hc, hr, h1, hpl, hpc, hpr, (okL_iff.1 h6).2, h3, by omega, by rw [← hl, h7], (treClash_yes h).symm, hm⟩
set_option maxHeartbeats 8000000 in
set_option maxRecDepth 100000 in
theorem TreClash_yes (A A2 : Option Addr) (n c m c2 L : Nat) (xs p : List Int) (i leaf : Int) (w : World) (hl : xs.length = n) (hc : n ≤ c) (hr : RI w L A xs) (hpl : p.length = m) (hpc : m ≤ c2) (hpr : RI w L A2 p) (hm : m ≤ 2000000) (h : clashG xs i leaf p) :
    Calls Try.prog 36 #[.slice A n c, .int .i64 i, .int .i64 leaf, .slice A2 m c2] w (OwnRes w (treClash xs i leaf p)) := by
  have S := Lib.hid (seek_of hl hc hr hpl hpc hpr hm h)
  obtain ⟨g1, g2, g3⟩ := h
  obtain ⟨h1, h2, h3, h4, h5, h6, h7, h8⟩ := clashG_true ⟨g1, g2, g3⟩
  have HLf := Lib.hid h5
  obtain ⟨j, rfl⟩ := Int.eq_ofNat_of_zero_le h3
  rw [Int.toNat_natCast] at g3
  have hj : j < n := by omega
  have hn40 : n ≤ 40 := by have := okL_len g1; omega
  obtain ⟨b, o, rfl, _, hbs, hcell⟩ := hr.at_ (j := j) (by omega)
  rw [hl] at g2
  have HL := Lib.hid hl
  have HR := Lib.hid hr
  have HP := Lib.hid hpl
  have HPR := Lib.hid hpr
  have G1 := Lib.hid g1
  have G2 := Lib.hid g2
  obtain ⟨CL, hCL⟩ : ∃ CL, CL = treClash xs (j : Int) leaf p := ⟨_, rfl⟩
  rw [← hCL]
  rw [← hCL] at S
  generalize xs.getD j 0 = z at *
  clear hl hr hpl hpr g1 g2 h1 h2 h3 h4 h5 h6 h7 h8 hCL
  go_enter Try.func36, Try.ntmps36
  go_wp2_with (first
    | (go_at_call 20; refine (TreOk_any _ _ _ _ xs _ HL.out HR.out (by omega)).mono ?_; rw [G1.out]; rintro e w' ⟨rfl, rfl⟩)
    | (go_at_call 22; refine (TreRoot_any _ _ _ _ xs _ HL.out hc HR.out (by omega)).mono ?_; rintro e w' ⟨rfl, d0, rfl⟩)
    | (go_at_call 28; refine (TreCheck_any _ _ _ _ _ _ _ _ p _ HP.out hpc hm (HPR.out.drewN _)).mono ?_; rw [G2.out]; rintro e w' ⟨rfl, rfl⟩))
  go_loopw [0, 1, 3] (fun l i p wr => SeekAt leaf CL L w l i p wr) (fun l _ _ _ => lenOf l)
  case atStart => exact ⟨_, _, _, xs, _, _, _, _, p, _, rfl, rfl, rfl, S.out, rfl⟩
  case round =>
    clear hj hn40 hcell g3 hbs hc hpc hm S HL HR HP HPR G1 G2
    obtain ⟨A, n, c, xs, i, A2, m, c2, p, d, rfl, rfl, rfl, S, rfl⟩ := hrel
    have S0 := Lib.hid S
    obtain ⟨hl, hc, hr, hok, hpl, hpc, hpr, hpok, i0, i1, hu, hcl, hm2⟩ := S
    by_cases h1 : n = 1
    · subst h1
      rw [clash_small (by omega)] at hcl
      have HC := Lib.hid hcl
      clear hl hr hok hpr hpok hu hpl S0 hcl
      go_wp2_with fail
      go_ret
      rw [← HC.out]
      exact nil_res w _
    · have hn2 : 2 ≤ n := by omega
      obtain ⟨p, q, rfl⟩ := snoc_of hu (by omega)
      rw [app_len] at hpl
      subst hpl
      have hn40 : n ≤ 40 := by have := (okL_iff.1 hok).1; omega
      obtain ⟨b, o, rfl, _, hbs, hcell⟩ := hr.at_ (j := 0) (by omega)
      obtain ⟨b2, o2, rfl, _, hbs2, hcell2⟩ := hpr.at_ (j := p.length) (by rw [app_len]; omega)
      rw [app_get] at hcell2
      have PL := Lib.hid (fun h => part_left S0.out hn2 h)
      have PR := Lib.hid (fun h => part_right S0.out hn2 h)
      have hsp := split_pos n
      have hsl := split_lt (n := n) (by omega)
      have T1 := Lib.hid (hr.take (splitN n))
      have T2 := Lib.hid (hr.drop (splitN n))
      have O1 := Lib.hid (okL_take hok (splitN n))
      have O2 := Lib.hid (okL_drop hok (splitN n))
      have L1 := Lib.hid (show (xs.take (splitN n)).length = splitN n by simp; omega)
      have L2 := Lib.hid (show (xs.drop (splitN n)).length = n - splitN n by simp; omega)
      have T := Lib.hid (show RI w L (some ⟨b2, o2, none⟩) p by have := hpr.take p.length; simpa using this)
      have K := Lib.hid (show ∀ x ∈ p, okI x = true from fun x hx => hpok x (by simp [hx]))
      have g2 : splitI (n : Int) = (splitN n : Int) := splitI_cast n
      have g3 : ¬ c = splitN n := by omega
      have k1 : splitN n ≤ c := by omega
      have y3 : (0 : Int) ≤ (splitN n : Int) := by omega
      have y4 : (splitN n : Int) ≤ (n : Int) := by omega
      have y5 : (splitN n : Int) ≤ (c : Int) := by omega
      have y9 : (1 : Int) < (n : Int) := by omega
      clear hl hr hok hcell hpr hpok hu hcl h1 S0
      generalize splitN n = k at *
      have tok1 : True := trivial
      have tok2 : True := trivial
      by_cases hi : i < (k : Int)
      · have Q := Lib.hid (PL.out hi)
        cases h1 : ((up (k : Int) i leaf p).1 != root (xs.take k))
        · cases h2 : (q != root (xs.drop k))
          · have SK := Lib.hid (Q.out.left hi h1 h2)
            clear Q PL PR
            go_wp2_with (go_at_call 65; refine (split_any _ _ (by omega) (by omega)).mono ?_; rintro e w' ⟨rfl, rfl⟩)
            go_region_held3 (fun _ => True) (trivial)
              (first
              | (go_at_call 53; have _t := tok1; refine Calls.mono (root_any n _ k _ L (xs.take k) _ (by omega) L1.out (by omega) (T1.out.drewN _) O1.out) ?_; rintro e w5 ⟨rfl, d1, rfl⟩; clear tok1)
              | (go_at_call 53; have _t := tok2; refine Calls.mono (root_any n _ (n - k) _ L (xs.drop k) _ (by omega) L2.out (by omega) (T2.out.drewN _) O2.out) ?_; rintro e w5 ⟨rfl, d2, rfl⟩; clear tok2))
            go_wp2_with (go_at_call 57; refine (upW_any _ HLf.out p _ _ _ _ _ L _ rfl (by omega) (by omega) (T.out.drewN _) K.out (by omega) (by omega) (by omega) (by omega)).mono ?_; rintro e w' ⟨rfl, rfl⟩)
            go_roundw
            case rel => exact ⟨_, _, _, _, _, _, _, _, p, _, rfl, rfl, rfl, SK.out, rfl⟩
            case measure => simp [lenOf]; omega
          · have hc := Lib.hid (Q.out.hit (.inr ⟨h1, h2⟩))
            clear Q PL PR
            go_wp2_with (go_at_call 65; refine (split_any _ _ (by omega) (by omega)).mono ?_; rintro e w' ⟨rfl, rfl⟩)
            go_region_held3 (fun _ => True) (trivial)
              (first
              | (go_at_call 53; have _t := tok1; refine Calls.mono (root_any n _ k _ L (xs.take k) _ (by omega) L1.out (by omega) (T1.out.drewN _) O1.out) ?_; rintro e w5 ⟨rfl, d1, rfl⟩; clear tok1)
              | (go_at_call 53; have _t := tok2; refine Calls.mono (root_any n _ (n - k) _ L (xs.drop k) _ (by omega) L2.out (by omega) (T2.out.drewN _) O2.out) ?_; rintro e w5 ⟨rfl, d2, rfl⟩; clear tok2))
            go_wp2_with (go_at_call 57; refine (upW_any _ HLf.out p _ _ _ _ _ L _ rfl (by omega) (by omega) (T.out.drewN _) K.out (by omega) (by omega) (by omega) (by omega)).mono ?_; rintro e w' ⟨rfl, rfl⟩)
            go_ret
            exact lit_res w _ _ _ _ _ CL hc.out
        · have hc := Lib.hid (Q.out.hit (.inl h1))
          clear Q PL PR
          go_wp2_with (go_at_call 65; refine (split_any _ _ (by omega) (by omega)).mono ?_; rintro e w' ⟨rfl, rfl⟩)
          go_region_held3 (fun _ => True) (trivial)
            (first
            | (go_at_call 53; have _t := tok1; refine Calls.mono (root_any n _ k _ L (xs.take k) _ (by omega) L1.out (by omega) (T1.out.drewN _) O1.out) ?_; rintro e w5 ⟨rfl, d1, rfl⟩; clear tok1)
            | (go_at_call 53; have _t := tok2; refine Calls.mono (root_any n _ (n - k) _ L (xs.drop k) _ (by omega) L2.out (by omega) (T2.out.drewN _) O2.out) ?_; rintro e w5 ⟨rfl, d2, rfl⟩; clear tok2))
          go_wp2_with (go_at_call 57; refine (upW_any _ HLf.out p _ _ _ _ _ L _ rfl (by omega) (by omega) (T.out.drewN _) K.out (by omega) (by omega) (by omega) (by omega)).mono ?_; rintro e w' ⟨rfl, rfl⟩)
          go_ret
          exact lit_res w _ _ _ _ _ CL hc.out
      · have hi : (k : Int) ≤ i := by omega
        have Q := Lib.hid (PR.out hi)
        cases h1 : (q != root (xs.take k))
        · cases h2 : ((up ((n : Int) - (k : Int)) (i - (k : Int)) leaf p).1 != root (xs.drop k))
          · have SK := Lib.hid (Q.out.right hi h1 h2)
            clear Q PL PR
            go_wp2_with (go_at_call 65; refine (split_any _ _ (by omega) (by omega)).mono ?_; rintro e w' ⟨rfl, rfl⟩)
            go_region_held3 (fun _ => True) (trivial)
              (first
              | (go_at_call 53; have _t := tok1; refine Calls.mono (root_any n _ k _ L (xs.take k) _ (by omega) L1.out (by omega) (T1.out.drewN _) O1.out) ?_; rintro e w5 ⟨rfl, d1, rfl⟩; clear tok1)
              | (go_at_call 53; have _t := tok2; refine Calls.mono (root_any n _ (n - k) _ L (xs.drop k) _ (by omega) L2.out (by omega) (T2.out.drewN _) O2.out) ?_; rintro e w5 ⟨rfl, d2, rfl⟩; clear tok2))
            go_wp2_with (go_at_call 57; refine (upW_any _ HLf.out p _ _ _ _ _ L _ rfl (by omega) (by omega) (T.out.drewN _) K.out (by omega) (by omega) (by omega) (by omega)).mono ?_; rintro e w' ⟨rfl, rfl⟩)
            go_roundw
            case rel => exact ⟨_, _, _, _, _, _, _, _, p, _, rfl, rfl, rfl, SK.out, rfl⟩
            case measure => simp [lenOf]; omega
          · have hc := Lib.hid (Q.out.hit (.inr ⟨h1, h2⟩))
            clear Q PL PR
            go_wp2_with (go_at_call 65; refine (split_any _ _ (by omega) (by omega)).mono ?_; rintro e w' ⟨rfl, rfl⟩)
            go_region_held3 (fun _ => True) (trivial)
              (first
              | (go_at_call 53; have _t := tok1; refine Calls.mono (root_any n _ k _ L (xs.take k) _ (by omega) L1.out (by omega) (T1.out.drewN _) O1.out) ?_; rintro e w5 ⟨rfl, d1, rfl⟩; clear tok1)
              | (go_at_call 53; have _t := tok2; refine Calls.mono (root_any n _ (n - k) _ L (xs.drop k) _ (by omega) L2.out (by omega) (T2.out.drewN _) O2.out) ?_; rintro e w5 ⟨rfl, d2, rfl⟩; clear tok2))
            go_wp2_with (go_at_call 57; refine (upW_any _ HLf.out p _ _ _ _ _ L _ rfl (by omega) (by omega) (T.out.drewN _) K.out (by omega) (by omega) (by omega) (by omega)).mono ?_; rintro e w' ⟨rfl, rfl⟩)
            go_ret
            exact lit_res w _ _ _ _ _ CL hc.out
        · have hc := Lib.hid (Q.out.hit (.inl h1))
          clear Q PL PR
          go_wp2_with (go_at_call 65; refine (split_any _ _ (by omega) (by omega)).mono ?_; rintro e w' ⟨rfl, rfl⟩)
          go_region_held3 (fun _ => True) (trivial)
            (first
            | (go_at_call 53; have _t := tok1; refine Calls.mono (root_any n _ k _ L (xs.take k) _ (by omega) L1.out (by omega) (T1.out.drewN _) O1.out) ?_; rintro e w5 ⟨rfl, d1, rfl⟩; clear tok1)
            | (go_at_call 53; have _t := tok2; refine Calls.mono (root_any n _ (n - k) _ L (xs.drop k) _ (by omega) L2.out (by omega) (T2.out.drewN _) O2.out) ?_; rintro e w5 ⟨rfl, d2, rfl⟩; clear tok2))
          go_wp2_with (go_at_call 57; refine (upW_any _ HLf.out p _ _ _ _ _ L _ rfl (by omega) (by omega) (T.out.drewN _) K.out (by omega) (by omega) (by omega) (by omega)).mono ?_; rintro e w' ⟨rfl, rfl⟩)
          go_ret
          exact lit_res w _ _ _ _ _ CL hc.out
end Go.Proofs.Ytjacddjmconfaaa
