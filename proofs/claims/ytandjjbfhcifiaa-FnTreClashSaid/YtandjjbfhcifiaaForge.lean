/- Contracts: a proof bent so that it shows another leaf (reference, layer 20). -/
import Derived.Test.YtandjjbfhcifiaaLaw
import Derived.Test.YtandjjbfhcifiaaPlainD
import Derived.Deep.RegionHeld3
namespace Go.Proofs.Ytandjjbfhcifiaa
set_option linter.unusedVariables false
open Go.RowKit Pl

/-- a number below the modulus -/
def SmallRes (w : World) (e : Ending) (w' : World) : Prop := ∃ v : Int, e = .returned (.int .i64 v) ∧ 0 ≤ v ∧ v < 65521 ∧ w = w'
theorem rem_twice (n : Int) : 0 ≤ (n.tmod 65521 + 65521).tmod 65521 ∧ (n.tmod 65521 + 65521).tmod 65521 < 65521 := by
  obtain ⟨_, a, b⟩ := tmod_or n
  rw [Int.tmod_eq_emod_of_nonneg (by omega)]
  omega
set_option maxHeartbeats 1000000 in
theorem inv_any (n : Int) (w : World) (h0 : -1000000 ≤ n) (h1 : n ≤ 1000000) : Calls Try.prog 80 #[.int .i64 n] w (SmallRes w) := by
  obtain ⟨_, t0, t1⟩ := tmod_or n
  have R := rem_twice n
  obtain ⟨r0, r1⟩ := R
  go_enter Try.func80, Try.ntmps80
  go_wp2
  go_loop [3, 4, 5] (fun x b k => ∃ (X B : Int) (K : Nat), x = .int .i64 X ∧ 0 ≤ X ∧ X < 65521 ∧ b = .int .i64 B ∧ 0 ≤ B ∧ B < 65521 ∧ k = .int .i64 K ∧ K ≤ 65519) (fun _ _ k => (intOf k).toNat)
  case atStart => exact ⟨1, _, 65519, rfl, by omega, by omega, rfl, by omega, by omega, rfl, by omega⟩
  case round =>
    obtain ⟨X, B, K, rfl, x0, x1, rfl, b0, b1, rfl, hk⟩ := hrel
    obtain ⟨m0, m1⟩ := mul_hi x0 x1 b0 b1
    obtain ⟨m2, m3⟩ := mul_hi b0 b1 b0 b1
    have e1 := Int.emod_nonneg (X * B) (show (65521 : Int) ≠ 0 by decide)
    have e2 := Int.emod_lt_of_pos (X * B) (show (0 : Int) < 65521 by decide)
    have e3 := Int.emod_nonneg (B * B) (show (65521 : Int) ≠ 0 by decide)
    have e4 := Int.emod_lt_of_pos (B * B) (show (0 : Int) < 65521 by decide)
    by_cases hk0 : 0 < K
    · go_wp2
      all_goals
        go_round
        case rel => exact ⟨_, _, K / 2, rfl, by omega, by omega, rfl, by omega, by omega, by go_num, by omega⟩
        case measure => simp [intOf]; omega
    · go_wp2
      go_ret
      exact ⟨X, rfl, x0, x1, rfl⟩

/-- a bool, whichever -/
def SomeBool (w : World) (e : Ending) (w' : World) : Prop := ∃ b : Bool, e = .returned (.bool b) ∧ w = w'
set_option maxHeartbeats 1000000 in
theorem left_any (n i : Int) (w : World) (n1 : 1 ≤ n) (n2 : n ≤ 40) (i0 : 0 ≤ i) (i1 : i < n) : Calls Try.prog 79 #[.int .i64 n, .int .i64 i] w (SomeBool w) := by
  go_enter Try.func79, Try.ntmps79
  go_wp2
  go_loop [0, 1, 5] (fun n i l => ∃ (N I : Int) (b : Bool), n = .int .i64 N ∧ i = .int .i64 I ∧ l = .bool b ∧ 1 ≤ N ∧ N ≤ 40 ∧ 0 ≤ I ∧ I < N) (fun n _ _ => (intOf n).toNat)
  case atStart => exact ⟨n, i, true, rfl, rfl, rfl, n1, n2, i0, i1⟩
  case round =>
    clear n1 n2 i0 i1
    obtain ⟨N, I, b, rfl, rfl, rfl, n1, n2, i0, i1⟩ := hrel
    by_cases hN : 1 < N
    · have s1 := splitI_pos N
      have s2 := splitI_lt (n := N) (by omega)
      by_cases hI : I < splitI N
      · go_wp2_with (go_at_call 28; refine (sTreSplit_yes _ _ (by omega) (by omega)).mono ?_; rintro e w' ⟨rfl, rfl⟩)
        go_round
        case rel => exact ⟨splitI N, I, _, rfl, rfl, rfl, by omega, by omega, by omega, by omega⟩
        case measure => simp [intOf]; omega
      · go_wp2_with (go_at_call 28; refine (sTreSplit_yes _ _ (by omega) (by omega)).mono ?_; rintro e w' ⟨rfl, rfl⟩)
        go_round
        case rel => exact ⟨N - splitI N, I - splitI N, _, rfl, rfl, rfl, by omega, by omega, by omega, by omega⟩
        case measure => simp [intOf]; omega
    · go_wp2_with fail
      go_ret
      exact ⟨b, rfl, rfl⟩

/-- a leaf and a proof of as many numbers, in a row of the call's own -/
def ForgeRes (w : World) (m : Nat) (e : Ending) (w' : World) : Prop := ∃ (leaf : Int) (A : Option Addr) (c : Nat) (p : List Int), e = .returned (.tuple #[.int .i64 leaf, .slice A m c]) ∧ OwnI w' w.heap.size A m c p ∧ Below w.heap.size w w'
set_option maxHeartbeats 2000000 in
theorem forge_any (A A2 : Option Addr) (n c m c2 L L2 : Nat) (xs p : List Int) (i : Nat) (w : World) (hl : xs.length = n) (hr : RI w L A xs) (hok : okL xs = true) (hi : i < n) (hpl : p.length = m) (hm : 1 ≤ m) (hm2 : m ≤ 1000) (hpr : RI w L2 A2 p) (hpk : okL p = true) :
    Calls Try.prog 78 #[.slice A n c, .int .i64 (i : Int), .slice A2 m c2] w (ForgeRes w m) := by
  have hm0 : (0 : Int) < (m : Int) := by omega
  have hm0' : 0 < m := by omega
  have hi0 : (i : Int) < (n : Int) := by omega
  obtain ⟨b, o, rfl, _, hbs, hc1⟩ := hr.at_ (j := i) (by omega)
  obtain ⟨b2, o2, rfl, _, hbs2, hc2⟩ := hpr.at_ (j := 0) (by omega)
  have hcells : Hid (∀ j, j < m → w.cell? ⟨b2, o2 + j, none⟩ = some (.int .i64 (p.getD j 0))) := Lib.hid (fun j hj => by
    obtain ⟨b', o', e, _, _, hc⟩ := hpr.at_ (j := j) (by omega)
    injection e with e; injection e with e1 e2; subst e1 e2; exact hc)
  have hzk := leaf_at hok (i := i) (by omega)
  have hqk := leaf_at hpk (i := 0) (by omega)
  have hn40 : n ≤ 40 := by have := okL_len hok; omega
  have HPL := Lib.hid hpl
  generalize xs.getD i 0 = z at *
  generalize hq : p.getD 0 0 = q at *
  clear hq
  obtain ⟨z0, z1⟩ := okI_iff.1 hzk
  obtain ⟨q0, q1⟩ := okI_iff.1 hqk
  have ZK := Lib.hid hzk
  have QK := Lib.hid hqk
  have p0 := pair_lo z q
  have p1 := pair_hi z q
  have p2 := pair_lo q z
  have p3 := pair_hi q z
  have hc1' : w.cell? ⟨b, o + i, none⟩ = some (.int .i64 z) := hc1
  have hc2' : w.cell? ⟨b2, o2, none⟩ = some (.int .i64 q) := hc2
  have C1 := Lib.hid hc1'
  have C2 := Lib.hid hc2'
  have hown0 := own_lit w w.heap.size [] #[] (Nat.le_refl _) rfl (by simp)
  clear hl hr hok hpl hpr hpk hc1 hc2 hzk hqk hc1' hc2'
  go_enter Try.func78, Try.ntmps78
  go_wp2_with (at_builtin; refine wpList_spread rfl _ _ rfl w.heap.size _ 0 0 [] b2 o2 m c2 p rfl rfl hown0 HPL.out (by omega) (fun j hj => by rw [World.cell?_alloc_lt _ _ _ hbs2]; exact hcells.out j hj) (by omega) (by simp) ?_; intro g c' w5 hown5 hb5 hg5; rw [List.nil_append, Nat.zero_add] at hown5; have hd1 := (hb5.cell (p := ⟨b, o + i, none⟩) (by exact hbs)).trans ((World.cell?_alloc_lt _ _ _ hbs).trans C1.out); have hd2 := (hb5.cell (p := ⟨b2, o2, none⟩) (by exact hbs2)).trans ((World.cell?_alloc_lt _ _ _ hbs2).trans C2.out); have O5 := Lib.hid hown5; have B5 := Lib.hid (((Below.refl w.heap.size w).alloc (Nat.le_refl _) _).trans hb5); clear hown5 hb5 hg5)
  refine (left_any _ _ _ (by omega) (by omega) (by omega) (by omega)).mono ?_
  rintro e w' ⟨bl, rfl, rfl⟩
  have hgb := own_base O5.out
  have hcg := own_cell O5.out (j := 0) (by omega)
  have hfg := World.ownsRow.frozenAt O5.out 0
  generalize p.getD 0 0 = u at *
  cases bl
  · go_wp2_with fail
    go_region_held3 (fun w' => w'.cell? ⟨b, o + i, none⟩ = some (.int .i64 z) ∧ w'.cell? ⟨b2, o2, none⟩ = some (.int .i64 q)) (first | exact ⟨hd1, hd2⟩ | go_keep)
      (first | (go_at_call 19; refine (sMixPair_yes _ _ _ QK.out ZK.out).mono ?_; rintro e w' ⟨rfl, rfl⟩))
    generalize IntKind.i64.wrap (IntKind.i64.wrap (pairI q z - 31) - IntKind.i64.wrap ((z + 1) % 65521 * 127)) = want
    obtain ⟨_, t0, t1⟩ := tmod_or want
    obtain ⟨r0, r1⟩ := rem_twice want
    clear hd1 hd2
    go_wp2_with (go_at_call 80; refine (inv_any _ _ (by omega) (by omega)).mono ?_; rintro e w' ⟨v, rfl, v0, v1, rfl⟩; obtain ⟨m0, m1⟩ := mul_hi r0 r1 v0 v1)
    go_ret2
    exact ⟨_, _, _, _, rfl, (own_stored (World.ownsRow.drew O5.out) 0 _).1, (B5.out.drew).setCell (p := ⟨g, 0, none⟩) (show w.heap.size ≤ g from hgb.1) _⟩
  · go_wp2_with fail
    go_region_held3 (fun w' => w'.cell? ⟨b, o + i, none⟩ = some (.int .i64 z) ∧ w'.cell? ⟨b2, o2, none⟩ = some (.int .i64 q)) (first | exact ⟨hd1, hd2⟩ | go_keep)
      (first | (go_at_call 19; refine (sMixPair_yes _ _ _ ZK.out QK.out).mono ?_; rintro e w' ⟨rfl, rfl⟩))
    generalize IntKind.i64.wrap (IntKind.i64.wrap (pairI z q - 31) - IntKind.i64.wrap ((z + 1) % 65521 * 8191)) = want
    obtain ⟨_, t0, t1⟩ := tmod_or want
    obtain ⟨r0, r1⟩ := rem_twice want
    clear hd1 hd2
    go_wp2_with (go_at_call 80; refine (inv_any _ _ (by omega) (by omega)).mono ?_; rintro e w' ⟨v, rfl, v0, v1, rfl⟩; obtain ⟨m0, m1⟩ := mul_hi r0 r1 v0 v1)
    go_ret2
    exact ⟨_, _, _, _, rfl, (own_stored (World.ownsRow.drew O5.out) 0 _).1, (B5.out.drew).setCell (p := ⟨g, 0, none⟩) (show w.heap.size ≤ g from hgb.1) _⟩
end Go.Proofs.Ytandjjbfhcifiaa
