/- Contracts: a clash out of a proof of a leaf that is not there. -/
import Derived.Test.YtjacddjmconfaaaIncl
import Derived.Test.YtjacddjmconfaaaPlainE
import Derived.Deep.RegionHeld3
import Derived.IntWalk
namespace Go.Proofs.Ytjacddjmconfaaa
set_option linter.unusedVariables false
open Go.RowKit Pl

/-- what a round of the search stands on -/
structure Seek (leaf : Int) (CL : List Int) (L : Nat) (w : World) (A : Option Addr) (n c : Nat) (xs : List Int) (i : Int) (A2 : Option Addr) (m c2 : Nat) (p : List Int) : Prop where
  len : xs.length = n
  cap : n ≤ c
  reads : RI w L A xs
  ok : okL xs = true
  plen : p.length = m
  pcap : m ≤ c2
  preads : RI w L A2 p
  pok : ∀ x ∈ p, okI x = true
  i0 : 0 ≤ i
  i1 : i < n
  leads : (up n i leaf p).2 = true
  same : clash xs i leaf p = CL
  few : m ≤ 2000000
theorem Seek.drewN {leaf : Int} {CL : List Int} {L : Nat} {w : World} {A : Option Addr} {n c : Nat} {xs : List Int} {i : Int} {A2 : Option Addr} {m c2 : Nat} {p : List Int} (h : Seek leaf CL L w A n c xs i A2 m c2 p) (k : Nat) : Seek leaf CL L (w.drewN k) A n c xs i A2 m c2 p :=
  ⟨h.len, h.cap, h.reads, h.ok, h.plen, h.pcap, h.preads, h.pok, h.i0, h.i1, h.leads, h.same, h.few⟩
theorem Seek.drew {leaf : Int} {CL : List Int} {L : Nat} {w : World} {A : Option Addr} {n c : Nat} {xs : List Int} {i : Int} {A2 : Option Addr} {m c2 : Nat} {p : List Int} (h : Seek leaf CL L w A n c xs i A2 m c2 p) : Seek leaf CL L w.drew A n c xs i A2 m c2 p := h.drewN 1
/-- both parts' values at a round, and what follows -/
structure Part (leaf : Int) (CL : List Int) (L : Nat) (w : World) (b o c b2 o2 c2 k n : Nat) (xs : List Int) (i : Int) (p : List Int) (q a1 a2 : Int) : Prop where
  hit : (a1 != root (xs.take k)) = true ∨ ((a1 != root (xs.take k)) = false ∧ (a2 != root (xs.drop k)) = true) → CL = [a1, a2, root (xs.take k), root (xs.drop k)]
  left : i < k → (a1 != root (xs.take k)) = false → (a2 != root (xs.drop k)) = false → Seek leaf CL L w (some ⟨b, o, none⟩) k c (xs.take k) i (some ⟨b2, o2, none⟩) p.length c2 p
  right : (k : Int) ≤ i → (a1 != root (xs.take k)) = false → (a2 != root (xs.drop k)) = false → Seek leaf CL L w (some ⟨b, o + k, none⟩) (n - k) (c - k) (xs.drop k) (i - k) (some ⟨b2, o2, none⟩) p.length c2 p
theorem part_left {leaf : Int} {CL : List Int} {L : Nat} {w : World} {b o c b2 o2 c2 n : Nat} {xs : List Int} {i : Int} {p : List Int} {q : Int} (h : Seek leaf CL L w (some ⟨b, o, none⟩) n c xs i (some ⟨b2, o2, none⟩) (p.length + 1) c2 (p ++ [q])) (h2 : 2 ≤ n) (hi : i < (splitN n : Int)) :
    Part leaf CL L w b o c b2 o2 c2 (splitN n) n xs i p q (up (splitN n : Int) i leaf p).1 q := by
  obtain ⟨hl, hc, hr, hok, hpl, hpc, hpr, hpok, i0, i1, hu, hcl, hm2⟩ := h
  have hsp := split_pos n
  have hsl := split_lt h2
  have g2 : splitI (n : Int) = (splitN n : Int) := splitI_cast n
  rw [clash_left (by omega) _ _ (by rw [hl, g2]; exact hi), show (p ++ [q]).dropLast = p by simp, show (p ++ [q]).getLastD 0 = q by simp, hl, g2] at hcl
  rw [up_left _ _ _ (by omega) (by rw [g2]; exact hi), g2] at hu
  refine ⟨fun hh => ?_, fun _ h1 h3 => ?_, fun h => by omega⟩
  · rw [if_pos (by rcases hh with hh | ⟨_, hh⟩; exact .inl (by simpa using hh); exact .inr (by simpa using hh))] at hcl
    exact hcl.symm
  · rw [if_neg (by simp at h1 h3; simp [h1, h3])] at hcl
    exact ⟨by simp; omega, by omega, hr.take _, okL_take hok _, rfl, by omega, by have := hpr.take p.length; simpa using this, fun x hx => hpok x (by simp [hx]), i0, by omega, hu, hcl, by omega⟩
theorem part_right {leaf : Int} {CL : List Int} {L : Nat} {w : World} {b o c b2 o2 c2 n : Nat} {xs : List Int} {i : Int} {p : List Int} {q : Int} (h : Seek leaf CL L w (some ⟨b, o, none⟩) n c xs i (some ⟨b2, o2, none⟩) (p.length + 1) c2 (p ++ [q])) (h2 : 2 ≤ n) (hi : (splitN n : Int) ≤ i) :
    Part leaf CL L w b o c b2 o2 c2 (splitN n) n xs i p q q (up ((n : Int) - (splitN n : Int)) (i - (splitN n : Int)) leaf p).1 := by
  obtain ⟨hl, hc, hr, hok, hpl, hpc, hpr, hpok, i0, i1, hu, hcl, hm2⟩ := h
  have hsp := split_pos n
  have hsl := split_lt h2
  have g2 : splitI (n : Int) = (splitN n : Int) := splitI_cast n
  rw [clash_right (by omega) _ _ (by rw [hl, g2]; exact hi), show (p ++ [q]).dropLast = p by simp, show (p ++ [q]).getLastD 0 = q by simp, hl, g2] at hcl
  rw [up_right _ _ _ (by omega) (by rw [g2]; exact hi), g2] at hu
  refine ⟨fun hh => ?_, fun h => by omega, fun _ h1 h3 => ?_⟩
  · rw [if_pos (by rcases hh with hh | ⟨_, hh⟩; exact .inl (by simpa using hh); exact .inr (by simpa using hh))] at hcl
    exact hcl.symm
  · rw [if_neg (by simp at h1 h3; simp [h1, h3])] at hcl
    exact ⟨by simp; omega, by omega, hr.drop _, okL_drop hok _, rfl, by omega, by have := hpr.take p.length; simpa using this, fun x hx => hpok x (by simp [hx]), by omega, by omega, by rw [show (((n - splitN n : Nat) : Nat) : Int) = (n : Int) - (splitN n : Int) by omega]; exact hu, hcl, by omega⟩
theorem lit_res (w : World) (k : Nat) (a b c d : Int) (CL : List Int) (h : CL = [a, b, c, d]) : OwnRes w CL (.returned (.slice (some ⟨w.heap.size, 0, none⟩) 4 4)) ((w.drewN k).alloc (.cells #[.int .i64 a, .int .i64 b, .int .i64 c, .int .i64 d] 3)) := by
  subst h
  exact ⟨_, 4, 4, rfl, rfl, own_lit (w.drewN k) w.heap.size [a, b, c, d] _ (Nat.le_refl _) rfl (by simp), (below_drewN (Below.refl _ w) k).alloc (Nat.le_refl _) _⟩
theorem res_behind {w w' : World} {k : Nat} {CL : List Int} {e : Ending} (h : OwnRes (w.drewN k) CL e w') : OwnRes w CL e w' := by
  obtain ⟨A, n, c, rfl, hl, ho, hb⟩ := h
  exact ⟨A, n, c, rfl, hl, ho, (below_drewN (Below.refl _ w) k).trans hb⟩

set_option maxHeartbeats 4000000 in
theorem l2Clash_any (f : Nat) : ∀ (A A2 : Option Addr) (n c m c2 L : Nat) (xs p : List Int) (i leaf : Int) (CL : List Int) (w : World), n ≤ f → okI leaf = true → Seek leaf CL L w A n c xs i A2 m c2 p →
    Calls Try.prog 64 #[.slice A n c, .int .i64 i, .int .i64 leaf, .slice A2 m c2] w (OwnRes w CL) := by
  induction f with
  | zero => intro A A2 n c m c2 L xs p i leaf CL w hf hl S; have := S.i0; have := S.i1; omega
  | succ f ih =>
    intro A A2 n c m c2 L xs p i leaf CL w hf hleaf S
    have S0 := Lib.hid S
    obtain ⟨hl, hc, hr, hok, hpl, hpc, hpr, hpok, i0, i1, hu, hcl, hm2⟩ := S
    by_cases h1 : n = 1
    · subst h1
      rw [clash_small (by omega)] at hcl
      subst hcl
      clear hl hr hok ih hpr hpok hu hpl hleaf S0
      go_enter Try.func64, Try.ntmps64
      go_wp2_with fail
      go_ret
      exact ⟨_, 0, 0, rfl, rfl, World.ownsRow_made w #[] 0 (Nat.le_refl _) (by decide) rfl, (Below.refl _ _).alloc (Nat.le_refl _) _⟩
    · have hn2 : 2 ≤ n := by omega
      obtain ⟨p, q, rfl⟩ := snoc_of hu (by omega)
      rw [app_len] at hpl
      subst hpl
      have hn40 : n ≤ 40 := by have := (okL_iff.1 hok).1; omega
      obtain ⟨b, o, rfl, _, hbs, hcell⟩ := hr.at_ (j := 0) (by omega)
      obtain ⟨b2, o2, rfl, _, hbs2, hcell2⟩ := hpr.at_ (j := p.length) (by rw [app_len]; omega)
      rw [app_get] at hcell2
      have PL := Lib.hid (fun h => part_left S0.out hn2 h)
      have PR := Lib.hid (fun h => part_right S0.out hn2 h)
      have hsp := split_pos n
      have hsl := split_lt (n := n) (by omega)
      have T1 := Lib.hid (hr.take (splitN n))
      have T2 := Lib.hid (hr.drop (splitN n))
      have O1 := Lib.hid (okL_take hok (splitN n))
      have O2 := Lib.hid (okL_drop hok (splitN n))
      have L1 := Lib.hid (show (xs.take (splitN n)).length = splitN n by simp; omega)
      have L2 := Lib.hid (show (xs.drop (splitN n)).length = n - splitN n by simp; omega)
      have T := Lib.hid (show RI w L (some ⟨b2, o2, none⟩) p by have := hpr.take p.length; simpa using this)
      have K := Lib.hid (show ∀ x ∈ p, okI x = true from fun x hx => hpok x (by simp [hx]))
      have HLf := Lib.hid hleaf
      have IH := Lib.hid ih
      have g2 : splitI (n : Int) = (splitN n : Int) := splitI_cast n
      have g3 : ¬ c = splitN n := by omega
      have k1 : splitN n ≤ c := by omega
      clear hl hr hok hcell ih hpr hpok hu hleaf hcl h1 S0
      generalize splitN n = k at *
      by_cases hi : i < (k : Int)
      · have Q := Lib.hid (PL.out hi)
        have hu0 := up_rng HLf.out p (k : Int) i
        clear hu0
        cases h1 : ((up (k : Int) i leaf p).1 != root (xs.take k))
        · cases h2 : (q != root (xs.drop k))
          · have SK := Lib.hid (Q.out.left hi h1 h2)
            clear Q PL PR
            go_enter Try.func64, Try.ntmps64
            go_wp2_with (go_at_call 79; refine (sTreSplit_yes _ _ (by omega) (by omega)).mono ?_; rintro e w' ⟨rfl, rfl⟩)
            go_quiet (first
              | (go_at_call 52; apply Calls.quiet_of; (with_reducible exact l2Root_any n _ _ _ L (xs.take k) _ (by omega) L1.out (by omega) (T1.out.drewN _) O1.out))
              | (go_at_call 52; apply Calls.quiet_of; (with_reducible exact l2Root_any n _ _ _ L (xs.drop k) _ (by omega) L2.out (by omega) (T2.out.drewN _) O2.out)))
            go_wp2_with (go_at_call 55; refine (l2Up_any _ HLf.out p _ _ _ _ _ L _ rfl (by omega) (by omega) (T.out.drewN _) K.out (by omega) (by omega) (by omega) (by omega)).mono ?_; rintro e w' ⟨rfl, rfl⟩)
            have y1 : (0 : Int) ≤ (p.length : Int) := by omega
            have y2 : (p.length : Int) ≤ (c2 : Int) := by omega
            have y3 : (0 : Int) ≤ (k : Int) := by omega
            have y4 : (k : Int) ≤ (n : Int) := by omega
            have y5 : (k : Int) ≤ (c : Int) := by omega
            have y6 : IntKind.i64.wrap (p.length : Int) = (p.length : Int) := IntWalk.i64_in _ (by omega)
            have y7 : IntKind.i64.wrap ((p.length : Int) + 1 - 1) = (p.length : Int) := by rw [show (p.length : Int) + 1 - 1 = (p.length : Int) by omega]; exact y6
            have y8 : IntKind.i64.wrap (i - (k : Int)) = i - (k : Int) := IntWalk.i64_in _ (by omega)
            go_region_held3 (fun _ => True) (trivial) (first | (go_at_call 64; refine Calls.mono (IH.out _ _ k c p.length c2 L (xs.take k) p i leaf CL _ (by omega) HLf.out (SK.out.drewN _)) ?_; rintro e w9 h9; have R9 := Lib.hid (res_behind h9); obtain ⟨A9, n9, c9, rfl, hl9, ho9, hb9⟩ := h9; clear hl9 ho9 hb9))
            go_wp2_with fail
            go_ret
            exact R9.out
          · have hc := Lib.hid (Q.out.hit (.inr ⟨h1, h2⟩))
            clear Q PL PR
            go_enter Try.func64, Try.ntmps64
            go_wp2_with (go_at_call 79; refine (sTreSplit_yes _ _ (by omega) (by omega)).mono ?_; rintro e w' ⟨rfl, rfl⟩)
            go_quiet (first
              | (go_at_call 52; apply Calls.quiet_of; (with_reducible exact l2Root_any n _ _ _ L (xs.take k) _ (by omega) L1.out (by omega) (T1.out.drewN _) O1.out))
              | (go_at_call 52; apply Calls.quiet_of; (with_reducible exact l2Root_any n _ _ _ L (xs.drop k) _ (by omega) L2.out (by omega) (T2.out.drewN _) O2.out)))
            go_wp2_with (go_at_call 55; refine (l2Up_any _ HLf.out p _ _ _ _ _ L _ rfl (by omega) (by omega) (T.out.drewN _) K.out (by omega) (by omega) (by omega) (by omega)).mono ?_; rintro e w' ⟨rfl, rfl⟩)
            go_ret
            exact lit_res w _ _ _ _ _ CL hc.out
        · have hc := Lib.hid (Q.out.hit (.inl h1))
          clear Q PL PR
          go_enter Try.func64, Try.ntmps64
          go_wp2_with (go_at_call 79; refine (sTreSplit_yes _ _ (by omega) (by omega)).mono ?_; rintro e w' ⟨rfl, rfl⟩)
          go_quiet (first
            | (go_at_call 52; apply Calls.quiet_of; (with_reducible exact l2Root_any n _ _ _ L (xs.take k) _ (by omega) L1.out (by omega) (T1.out.drewN _) O1.out))
            | (go_at_call 52; apply Calls.quiet_of; (with_reducible exact l2Root_any n _ _ _ L (xs.drop k) _ (by omega) L2.out (by omega) (T2.out.drewN _) O2.out)))
          go_wp2_with (go_at_call 55; refine (l2Up_any _ HLf.out p _ _ _ _ _ L _ rfl (by omega) (by omega) (T.out.drewN _) K.out (by omega) (by omega) (by omega) (by omega)).mono ?_; rintro e w' ⟨rfl, rfl⟩)
          go_ret
          exact lit_res w _ _ _ _ _ CL hc.out
      · have hi : (k : Int) ≤ i := by omega
        have Q := Lib.hid (PR.out hi)
        have hu0 := up_rng HLf.out p ((n : Int) - (k : Int)) (i - (k : Int))
        clear hu0
        cases h1 : (q != root (xs.take k))
        · cases h2 : ((up ((n : Int) - (k : Int)) (i - (k : Int)) leaf p).1 != root (xs.drop k))
          · have SK := Lib.hid (Q.out.right hi h1 h2)
            clear Q PL PR
            go_enter Try.func64, Try.ntmps64
            go_wp2_with (go_at_call 79; refine (sTreSplit_yes _ _ (by omega) (by omega)).mono ?_; rintro e w' ⟨rfl, rfl⟩)
            go_quiet (first
              | (go_at_call 52; apply Calls.quiet_of; (with_reducible exact l2Root_any n _ _ _ L (xs.take k) _ (by omega) L1.out (by omega) (T1.out.drewN _) O1.out))
              | (go_at_call 52; apply Calls.quiet_of; (with_reducible exact l2Root_any n _ _ _ L (xs.drop k) _ (by omega) L2.out (by omega) (T2.out.drewN _) O2.out)))
            go_wp2_with (go_at_call 55; refine (l2Up_any _ HLf.out p _ _ _ _ _ L _ rfl (by omega) (by omega) (T.out.drewN _) K.out (by omega) (by omega) (by omega) (by omega)).mono ?_; rintro e w' ⟨rfl, rfl⟩)
            have y1 : (0 : Int) ≤ (p.length : Int) := by omega
            have y2 : (p.length : Int) ≤ (c2 : Int) := by omega
            have y3 : (0 : Int) ≤ (k : Int) := by omega
            have y4 : (k : Int) ≤ (n : Int) := by omega
            have y5 : (k : Int) ≤ (c : Int) := by omega
            have y6 : IntKind.i64.wrap (p.length : Int) = (p.length : Int) := IntWalk.i64_in _ (by omega)
            have y7 : IntKind.i64.wrap ((p.length : Int) + 1 - 1) = (p.length : Int) := by rw [show (p.length : Int) + 1 - 1 = (p.length : Int) by omega]; exact y6
            have y8 : IntKind.i64.wrap (i - (k : Int)) = i - (k : Int) := IntWalk.i64_in _ (by omega)
            go_region_held3 (fun _ => True) (trivial) (first | (go_at_call 64; refine Calls.mono (IH.out _ _ (n - k) (c - k) p.length c2 L (xs.drop k) p (i - k) leaf CL _ (by omega) HLf.out (SK.out.drewN _)) ?_; rintro e w9 h9; have R9 := Lib.hid (res_behind h9); obtain ⟨A9, n9, c9, rfl, hl9, ho9, hb9⟩ := h9; clear hl9 ho9 hb9))
            go_wp2_with fail
            go_ret
            exact R9.out
          · have hc := Lib.hid (Q.out.hit (.inr ⟨h1, h2⟩))
            clear Q PL PR
            go_enter Try.func64, Try.ntmps64
            go_wp2_with (go_at_call 79; refine (sTreSplit_yes _ _ (by omega) (by omega)).mono ?_; rintro e w' ⟨rfl, rfl⟩)
            go_quiet (first
              | (go_at_call 52; apply Calls.quiet_of; (with_reducible exact l2Root_any n _ _ _ L (xs.take k) _ (by omega) L1.out (by omega) (T1.out.drewN _) O1.out))
              | (go_at_call 52; apply Calls.quiet_of; (with_reducible exact l2Root_any n _ _ _ L (xs.drop k) _ (by omega) L2.out (by omega) (T2.out.drewN _) O2.out)))
            go_wp2_with (go_at_call 55; refine (l2Up_any _ HLf.out p _ _ _ _ _ L _ rfl (by omega) (by omega) (T.out.drewN _) K.out (by omega) (by omega) (by omega) (by omega)).mono ?_; rintro e w' ⟨rfl, rfl⟩)
            go_ret
            exact lit_res w _ _ _ _ _ CL hc.out
        · have hc := Lib.hid (Q.out.hit (.inl h1))
          clear Q PL PR
          go_enter Try.func64, Try.ntmps64
          go_wp2_with (go_at_call 79; refine (sTreSplit_yes _ _ (by omega) (by omega)).mono ?_; rintro e w' ⟨rfl, rfl⟩)
          go_quiet (first
            | (go_at_call 52; apply Calls.quiet_of; (with_reducible exact l2Root_any n _ _ _ L (xs.take k) _ (by omega) L1.out (by omega) (T1.out.drewN _) O1.out))
            | (go_at_call 52; apply Calls.quiet_of; (with_reducible exact l2Root_any n _ _ _ L (xs.drop k) _ (by omega) L2.out (by omega) (T2.out.drewN _) O2.out)))
          go_wp2_with (go_at_call 55; refine (l2Up_any _ HLf.out p _ _ _ _ _ L _ rfl (by omega) (by omega) (T.out.drewN _) K.out (by omega) (by omega) (by omega) (by omega)).mono ?_; rintro e w' ⟨rfl, rfl⟩)
          go_ret
          exact lit_res w _ _ _ _ _ CL hc.out
end Go.Proofs.Ytjacddjmconfaaa
