/- Contracts: whether a proof of growth leads to both roots (program). -/
import Derived.Test.YtjacddjmconfaaaBoth
import Derived.Deep.RegionHeld3
namespace Go.Proofs.Ytjacddjmconfaaa
set_option linter.unusedVariables false
open Go.RowKit Pl
attribute [local go_sem ↓] Go.wp_at_zero Go.wp_at_succ

/-- both roots, in new memory or none -/
def GrownRes (w : World) (x : (Int × Int) × Bool) (e : Ending) (w' : World) : Prop := e = .returned (.tuple #[.agg #[.int .i64 x.1.1, .int .i64 x.1.2], .bool x.2]) ∧ Below w.heap.size w w'

theorem new_cell (w : World) (cs : Array Value) (T : TypeId) (H i : Nat) (hH : w.heap.size = H) : ((w.alloc (.cells cs T)).drew).cell? ⟨H, i, none⟩ = cs[i]? := by
  subst hH
  exact cell_of_row _ _ _ _ _ _ (heap_alloc_new w (.cells cs T))
theorem two_cells_0 {w1 : World} {g : Nat} {x y u v : Value} (hz : g < w1.heap.size) (h0 : w1.cell? ⟨g, 0, none⟩ = some u) (h1 : w1.cell? ⟨g, 1, none⟩ = some v) (o : Obj) :
    ((((w1.setCell ⟨g, 0, none⟩ x).setCell ⟨g, 1, none⟩ y).alloc o).drew).cell? ⟨g, 0, none⟩ = some x := by
  show (((w1.setCell ⟨g, 0, none⟩ x).setCell ⟨g, 1, none⟩ y).alloc o).cell? ⟨g, 0, none⟩ = some x
  rw [World.cell?_alloc_lt _ _ _ (by simpa [World.setCell] using hz), World.cell?_setCell_other _ _ _ _ (by simp)]
  exact World.cell?_setCell_same _ _ _ h0
theorem two_cells_1 {w1 : World} {g : Nat} {x y u v : Value} (hz : g < w1.heap.size) (h0 : w1.cell? ⟨g, 0, none⟩ = some u) (h1 : w1.cell? ⟨g, 1, none⟩ = some v) (o : Obj) :
    ((((w1.setCell ⟨g, 0, none⟩ x).setCell ⟨g, 1, none⟩ y).alloc o).drew).cell? ⟨g, 1, none⟩ = some y := by
  show (((w1.setCell ⟨g, 0, none⟩ x).setCell ⟨g, 1, none⟩ y).alloc o).cell? ⟨g, 1, none⟩ = some y
  rw [World.cell?_alloc_lt _ _ _ (by simpa [World.setCell] using hz)]
  exact World.cell?_setCell_same _ _ _ (u := v) (by rw [World.cell?_setCell_other _ _ _ _ (by simp), h1])
/-- what is known behind a call, of the two cells that lie just below it, and of an older cell -/
theorem behind_two {w w1 : World} {x y v : Value} {T : TypeId} {b o : Nat} (hb1 : Below (w.alloc (.cells #[x, y] T)).heap.size (w.alloc (.cells #[x, y] T)) w1) (hbs : b < w.heap.size) (hc : w.cell? ⟨b, o, none⟩ = some v) :
    w.heap.size < w1.heap.size ∧ w1.cell? ⟨w.heap.size, 0, none⟩ = some x ∧ w1.cell? ⟨w.heap.size, 1, none⟩ = some y ∧ w1.frozen? ⟨w.heap.size, 0, none⟩ = false ∧ w1.frozen? ⟨w.heap.size, 1, none⟩ = false ∧ w1.cell? ⟨b, o, none⟩ = some v := by
  have hs := hb1.size
  simp at hs
  have hn := heap_alloc_new w (.cells #[x, y] T)
  refine ⟨by omega, ?_, ?_, ?_, ?_, ?_⟩
  · rw [hb1.cell (by simp), cell_of_row _ _ _ _ _ _ hn]; rfl
  · rw [hb1.cell (by simp), cell_of_row _ _ _ _ _ _ hn]; rfl
  · rw [hb1.frozen (by simp)]; unfold World.frozen?; rw [hn]; rfl
  · rw [hb1.frozen (by simp)]; unfold World.frozen?; rw [hn]; rfl
  · rw [hb1.cell (by simp; omega), World.cell?_alloc_lt _ _ _ hbs, hc]

set_option maxHeartbeats 1000000 in
theorem grownW_any (old : Int) (hold : okI old = true) (p : List Int) : ∀ (A : Option Addr) (m n : Int) (kn : Bool) (q c L : Nat) (w : World), p.length = q → q ≤ c → q ≤ 2000000 → RI w L A p → (∀ x ∈ p, okI x = true) → n ≤ 40 → 1 ≤ m → m ≤ n →
    Calls Try.prog 59 #[.int .i64 m, .int .i64 n, .int .i64 old, .slice A q c, .bool kn] w (GrownRes w (grown m n old p kn)) := by
  induction p using snoc_ind with
  | h0 =>
    intro A m n kn q c L w hq hc _ _ _ n40 m1 mn
    obtain rfl : q = 0 := by simpa using hq.symm
    clear hq
    by_cases h : m = n
    · subst h
      have g1 : (m == m) = true := by simp
      cases kn
      · rw [grown_nil _ (by simp)]
        go_enter Try.func59, Try.ntmps59
        go_wp2_with fail
        go_returns
        exact ⟨rfl, (Below.refl _ _).alloc (Nat.le_refl _) _⟩
      · rw [grown_known]
        go_enter Try.func59, Try.ntmps59
        go_wp2_with fail
        go_returns
        exact ⟨rfl, (Below.refl _ _).alloc (Nat.le_refl _) _⟩
    · rw [grown_nil _ (by simp [h])]
      have g1 : (m == n) = false := by simp; omega
      clear h
      go_enter Try.func59, Try.ntmps59
      go_wp2_with fail
      go_returns
      exact ⟨rfl, (Below.refl _ _).alloc (Nat.le_refl _) _⟩
  | h1 p q ih =>
    intro A m n kn pq c L w hm hc hm2 hr hok n40 m1 mn
    rw [app_len] at hm
    subst hm
    obtain ⟨b, o, rfl, _, hbs, hcell⟩ := hr.at_ (j := p.length) (by rw [app_len]; omega)
    rw [app_get] at hcell
    have hnew := World.new_ne w _ hcell
    have g3 : (((p.length + 1 : Nat) : Int) == 0) = false := by simp; omega
    by_cases h : m = n
    · subst h
      have g1 : (m == m) = true := by simp
      cases kn
      · rw [grown_one _ _ (by simp)]
        obtain ⟨_, _, e0, _, _, hcell0⟩ := hr.at_ (j := 0) (by rw [app_len]; omega)
        injection e0 with e0
        injection e0 with e1 e2
        subst e1 e2
        generalize (p ++ [q]).getD 0 0 = z at *
        have hcell' : w.cell? ⟨b, o, none⟩ = some (.int .i64 z) := hcell0
        have hlen : Hid (decide ((p ++ [q]).length = 1) = ((p.length : Int) == 0)) := Lib.hid (by rw [app_len, Bool.eq_iff_iff]; simp only [decide_eq_true_eq, beq_iff_eq]; omega)
        rw [hlen.out]
        have g4 : (0 : Int) < (p.length : Int) + 1 := by omega
        clear hr hok ih hcell hcell0 hlen
        go_enter Try.func59, Try.ntmps59
        go_wp2_with fail
        go_region_held3 (fun w' => w'.cell? ⟨b, o, none⟩ = some (.int .i64 z)) (go_keep) (fail)
        go_wp2_with fail
        go_returns
        exact ⟨rfl, ((Below.refl _ _).alloc (Nat.le_refl _) _).drew⟩
      · rw [grown_known, show (p ++ [q]).isEmpty = false by simp]
        clear hr hok ih hcell
        go_enter Try.func59, Try.ntmps59
        go_wp2_with fail
        go_returns
        exact ⟨rfl, (Below.refl _ _).alloc (Nat.le_refl _) _⟩
    · have h2 : 2 ≤ n := by omega
      have g1 : (m == n) = false := by simp; omega
      have hs1 := splitI_pos n
      have hs2 := splitI_lt h2
      have T := Lib.hid (show RI w L (some ⟨b, o, none⟩) p by have := hr.take p.length; simpa using this)
      have K := Lib.hid (show ∀ x ∈ p, okI x = true from fun x hx => hok x (by simp [hx]))
      have Y2 := Lib.hid (hok q (by simp))
      have IH := Lib.hid ih
      have mn' : m < n := by omega
      obtain ⟨q0, q1⟩ := okI_iff.1 Y2.out
      clear hr hok ih
      by_cases hi : m ≤ splitI n
      · have Y1 := Lib.hid (grown_rng hold p m (splitI n) kn K.out)
        obtain ⟨u0, u1⟩ := okI_iff.1 Y1.out.2
        have E := Lib.hid (grown_left old p q kn h hi)
        rw [E.out]
        clear h
        go_enter Try.func59, Try.ntmps59
        go_wp2_with (go_at_call 65; refine (split_any _ _ (by omega) (by omega)).mono ?_; rintro e w' ⟨rfl, rfl⟩)
        refine (IH.out _ _ _ _ _ _ L _ rfl (by omega) (by omega) (T.out.alloc _) K.out (by omega) (by omega) (by omega)).mono ?_
        rintro e w1 ⟨rfl, hb1⟩
        obtain ⟨hz1, hk0, hk1, hf0, hf1, hkq⟩ := behind_two hb1 hbs hcell
        have HB := Lib.hid hb1
        clear hb1 hcell
        go_wp2_with fail
        have hn1 : w1.heap.size ≠ w.heap.size := by omega
        have hn2 : w.heap.size ≠ w1.heap.size := by omega
        have hn3 : ¬ b = w1.heap.size := by omega
        have hp0 : (0 : Int) ≤ (p.length : Int) := by omega
        have hp1 : (p.length : Int) < (p.length : Int) + 1 := by omega
        go_region_held3 (fun w' => w'.cell? ⟨b, o + p.length, none⟩ = some (.int .i64 q) ∧ w'.cell? ⟨w1.heap.size, 0, none⟩ = some (.int .i64 (grown m (splitI n) old p kn).1.1) ∧ w'.cell? ⟨w1.heap.size, 1, none⟩ = some (.int .i64 (grown m (splitI n) old p kn).1.2)) (refine ⟨?_, ?_, ?_⟩ <;> first | (go_keep; done) | (rw [new_cell _ _ _ _ _ (by simp)]; rfl))
          (first | (go_at_call 81; refine (pair_any _ _ _ (by omega) (by omega) (by omega) (by omega)).mono ?_; rintro e w' ⟨rfl, rfl⟩))
        go_wp2_with fail
        have hc0 := two_cells_0 (x := .int .i64 (grown m (splitI n) old p kn).1.1) (y := .int .i64 (pairI (grown m (splitI n) old p kn).1.2 q)) hz1 hk0 hk1 (.cells #[.int .i64 (grown m (splitI n) old p kn).1.1, .int .i64 (grown m (splitI n) old p kn).1.2] 61)
        have hc1 := two_cells_1 (x := .int .i64 (grown m (splitI n) old p kn).1.1) (y := .int .i64 (pairI (grown m (splitI n) old p kn).1.2 q)) hz1 hk0 hk1 (.cells #[.int .i64 (grown m (splitI n) old p kn).1.1, .int .i64 (grown m (splitI n) old p kn).1.2] 61)
        refine bodyPost_ret (v := .tuple #[.agg #[.int .i64 (grown m (splitI n) old p kn).1.1, .int .i64 (pairI (grown m (splitI n) old p kn).1.2 q)], .bool (grown m (splitI n) old p kn).2]) (by simp [results, Try.results59, go_sem, hc0, hc1]) rfl ⟨rfl, ?_⟩
        have hB := HB.out
        exact ((((((Below.refl _ _).alloc (Nat.le_refl _) _).trans (hB.mono (by simp))).setCell (p := ⟨w.heap.size, 0, none⟩) (Nat.le_refl _) _).setCell (p := ⟨w.heap.size, 1, none⟩) (Nat.le_refl _) _).alloc (by simp [World.setCell]; omega) _).drew
      · have hi' : splitI n < m := by omega
        have Y1 := Lib.hid (grown_rng hold p (m - splitI n) (n - splitI n) false K.out)
        obtain ⟨u0, u1⟩ := okI_iff.1 Y1.out.2
        obtain ⟨u2, u3⟩ := okI_iff.1 Y1.out.1
        have E := Lib.hid (grown_right old p q kn h hi')
        rw [E.out]
        clear h hi
        go_enter Try.func59, Try.ntmps59
        go_wp2_with (go_at_call 65; refine (split_any _ _ (by omega) (by omega)).mono ?_; rintro e w' ⟨rfl, rfl⟩)
        refine (IH.out _ _ _ _ _ _ L _ rfl (by omega) (by omega) (T.out.alloc _) K.out (by omega) (by omega) (by omega)).mono ?_
        rintro e w1 ⟨rfl, hb1⟩
        obtain ⟨hz1, hk0, hk1, hf0, hf1, hkq⟩ := behind_two hb1 hbs hcell
        have HB := Lib.hid hb1
        clear hb1 hcell
        go_wp2_with fail
        have hn1 : w1.heap.size ≠ w.heap.size := by omega
        have hn2 : w.heap.size ≠ w1.heap.size := by omega
        have hn3 : ¬ b = w1.heap.size := by omega
        have hp0 : (0 : Int) ≤ (p.length : Int) := by omega
        have hp1 : (p.length : Int) < (p.length : Int) + 1 := by omega
        go_region_held3 (fun w' => w'.cell? ⟨b, o + p.length, none⟩ = some (.int .i64 q) ∧ w'.cell? ⟨w1.heap.size, 0, none⟩ = some (.int .i64 (grown (m - splitI n) (n - splitI n) old p false).1.1) ∧ w'.cell? ⟨w1.heap.size, 1, none⟩ = some (.int .i64 (grown (m - splitI n) (n - splitI n) old p false).1.2)) (refine ⟨?_, ?_, ?_⟩ <;> first | (go_keep; done) | (rw [new_cell _ _ _ _ _ (by simp)]; rfl))
          (first | (go_at_call 81; refine (pair_any _ _ _ (by omega) (by omega) (by omega) (by omega)).mono ?_; rintro e w' ⟨rfl, rfl⟩))
        go_wp2_with fail
        have hc0 := two_cells_0 (x := .int .i64 (pairI q (grown (m - splitI n) (n - splitI n) old p false).1.1)) (y := .int .i64 (pairI q (grown (m - splitI n) (n - splitI n) old p false).1.2)) hz1 hk0 hk1 (.cells #[.int .i64 (grown (m - splitI n) (n - splitI n) old p false).1.1, .int .i64 (grown (m - splitI n) (n - splitI n) old p false).1.2] 61)
        have hc1 := two_cells_1 (x := .int .i64 (pairI q (grown (m - splitI n) (n - splitI n) old p false).1.1)) (y := .int .i64 (pairI q (grown (m - splitI n) (n - splitI n) old p false).1.2)) hz1 hk0 hk1 (.cells #[.int .i64 (grown (m - splitI n) (n - splitI n) old p false).1.1, .int .i64 (grown (m - splitI n) (n - splitI n) old p false).1.2] 61)
        refine bodyPost_ret (v := .tuple #[.agg #[.int .i64 (pairI q (grown (m - splitI n) (n - splitI n) old p false).1.1), .int .i64 (pairI q (grown (m - splitI n) (n - splitI n) old p false).1.2)], .bool (grown (m - splitI n) (n - splitI n) old p false).2]) (by simp [results, Try.results59, go_sem, hc0, hc1]) rfl ⟨rfl, ?_⟩
        have hB := HB.out
        exact ((((((Below.refl _ _).alloc (Nat.le_refl _) _).trans (hB.mono (by simp))).setCell (p := ⟨w.heap.size, 0, none⟩) (Nat.le_refl _) _).setCell (p := ⟨w.heap.size, 1, none⟩) (Nat.le_refl _) _).alloc (by simp [World.setCell]; omega) _).drew
end Go.Proofs.Ytjacddjmconfaaa
