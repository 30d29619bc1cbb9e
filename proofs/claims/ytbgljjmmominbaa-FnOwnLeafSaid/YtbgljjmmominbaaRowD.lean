/- Contracts: how a ticket stands, drawn (reference, layer 20). -/
import Derived.Test.YtbgljjmmominbaaNext
import Derived.Deep.RegionLaw
namespace Go.Proofs.Ytbgljjmmominbaa
set_option linter.unusedVariables false
open Go.RowKit Pl
/-- on the way: the reader, the frame, the result's block -/
structure LSt (w : World) (g P : Nat) (wk : World) : Prop where
  rd : Rd wk g P
  grown : w.grownBy wk (some g)
  rb : RBox w.heap.size wk 0 0 false
section
variable {w w1 w2 : World} {g P Q : Nat}
theorem LSt.start (h : Rd w g P) : LSt w g P (w.alloc (.cells #[.int .i64 0, .int .i64 0, .bool false] 31)) := ⟨h.alloc _, grownBy_alloc (World.grownBy.refl w (some g)) _, RBox.new w _ _ _⟩
theorem LSt.step (h : LSt w g P w1) (hgl : g < w.heap.size) (hr : Rd w2 g Q) (hg : w1.grownBy w2 (some g)) : LSt w g Q w2 := ⟨hr, grownBy_trans h.grown hg, h.rb.read hg (by omega)⟩
theorem LSt.alloc (h : LSt w g P w1) (o : Obj) : LSt w g P (w1.alloc o) := ⟨h.rd.alloc o, grownBy_alloc h.grown o, h.rb.alloc o⟩
theorem LSt.drew (h : LSt w g P w1) : LSt w g P w1.drew := ⟨h.rd.drew, grownBy_drew h.grown, h.rb.drew⟩
theorem LSt.laid (h : LSt w g P w1) (hgl : g < w.heap.size) (a b c : Value) : Rd (((w1.setCell ⟨w.heap.size, 0, none⟩ a).setCell ⟨w.heap.size, 1, none⟩ b).setCell ⟨w.heap.size, 2, none⟩ c) g P ∧ w.grownBy (((w1.setCell ⟨w.heap.size, 0, none⟩ a).setCell ⟨w.heap.size, 1, none⟩ b).setCell ⟨w.heap.size, 2, none⟩ c) (some g) := by
  have hb : Below w.heap.size w1 (((w1.setCell ⟨w.heap.size, 0, none⟩ a).setCell ⟨w.heap.size, 1, none⟩ b).setCell ⟨w.heap.size, 2, none⟩ c) :=
    (((Below.refl _ _).setCell (p := ⟨w.heap.size, 0, none⟩) (Nat.le_refl _) a).setCell (p := ⟨w.heap.size, 1, none⟩) (Nat.le_refl _) b).setCell (p := ⟨w.heap.size, 2, none⟩) (Nat.le_refl _) c
  exact ⟨h.rd.below hb hgl, grownBy_below h.grown hb (Nat.le_refl _)⟩
end
theorem row_cells {R : Nat} {X : World} {u0 f0 : Int} {b0 : Bool} (h : RBox R X u0 f0 b0) (u f : Int) (b : Bool) :
    RBox R (((X.setCell ⟨R, 0, none⟩ (.int .i64 u)).setCell ⟨R, 1, none⟩ (.int .i64 f)).setCell ⟨R, 2, none⟩ (.bool b)) u f b := ((h.set0 u).set1 f).set2 b
theorem cell_far {w w' : World} {g H i : Nat} {v : Value} (hg : w.grownBy w' (some g)) (hH : H < w.heap.size) (hne : H ≠ g) (h : w.cell? ⟨H, i, none⟩ = some v) : w'.cell? ⟨H, i, none⟩ = some v :=
  (hg.cell_far ⟨H, i, none⟩ hH (by simpa using hne)).trans h
theorem row_results (tmps : Array Value) (W : World) (H : Nat) (u f : Int) (b : Bool) (hp : tmps[2]?.getD undef = .pointer (some ⟨H, 0, none⟩)) (y : RBox H W u f b) :
    (results Try.f83 tmps).run Try.prog W = .ok (.agg #[.int .i64 u, .int .i64 f, .bool b]) W := by
  obtain ⟨y0, y1, y2⟩ := y.cells
  simp [results, Try.results83, go_sem, hp, y0, y1, y2]
def RowRes (w : World) (g P : Nat) (e : Ending) (w' : World) : Prop := ∃ (u f : Int) (b : Bool), e = .returned (.agg #[.int .i64 u, .int .i64 f, .bool b]) ∧ -1 ≤ u ∧ u ≤ 5 ∧ Rd w' g (P + 3) ∧ w.grownBy w' (some g)
set_option maxHeartbeats 4000000 in
theorem row_any (w : World) (g P : Nat) (h : Rd w g P) (hP : P ≤ 900000) : Calls Try.prog 83 #[.pointer (some ⟨g, 0, none⟩)] w (RowRes w g P) := by
  have hgl := h.lt
  have S0 := Lib.hid (LSt.start h)
  have hz0 : (w.alloc (.cells #[.int .i64 0, .int .i64 0, .bool false] 31)).heap.size = w.heap.size + 1 := by simp
  have Z0 := Lib.hid hz0
  clear h hz0
  go_enter Try.func83, Try.ntmps83
  go_wp2_with fail
  have tok1 : True := trivial
  have tok2 : True := trivial
  have tok3 : True := trivial
  generalize w.alloc (.cells #[.int .i64 0, .int .i64 0, .bool false] 31) = w0 at *
  have hs0 : g < w0.heap.size := by have := Z0.out; omega
  go_region_law (first
    | (go_simp; go_at_call 82; have _t := tok1; first
      | (refine Calls.mono (pick_any _ g _ _ S0.out.rd.drew (by omega) (by omega)) ?_; rintro e w1 ⟨a, rfl, ha1, _, hr1, hg1⟩; have ha := ha1 (by omega); have S1 := Lib.hid (S0.out.drew.step hgl hr1 hg1); have hs1 := S1.out.rd.lt; clear tok1 ha1 hr1 hg1)
      | (refine Calls.mono (pick_any _ g _ _ (S0.out.rd.drew.alloc _) (by omega) (by omega)) ?_; rintro e w1 ⟨a, rfl, ha1, _, hr1, hg1⟩; have ha := ha1 (by omega); have S1 := Lib.hid ((S0.out.drew.alloc _).step hgl hr1 hg1); have hs1 := S1.out.rd.lt; have T1 := Lib.hid (show w1.heap[w0.heap.size]? = some (.cells #[.int .i64 0, .int .i64 10, .int .i64 50, .int .i64 51, .int .i64 (-1)] 3) from block_kept (new_block w0.drew _) hg1 (Nat.ne_of_gt hs0)); clear tok1 ha1 hr1 hg1))
    | (go_simp; go_at_call 82; have _t := tok2; first
      | (refine Calls.mono (pick_any _ g _ _ S1.out.rd (by omega) (by omega)) ?_; rintro e w2 ⟨v, rfl, hv1, _, hr2, hg2⟩; have hv := hv1 (by omega); have S2 := Lib.hid (S1.out.step hgl hr2 hg2); have hs2 := S2.out.rd.lt; have T2 := Lib.hid (block_kept T1.out hg2 (Nat.ne_of_gt hs0)); obtain ⟨z, hz, _⟩ := table_at [0, 10, 50, 51, -1] _ rfl T2.out (v := v) (by simp; omega); clear tok2 hv1 hr2 hg2)
      | (refine Calls.mono (pick_any _ g _ _ S1.out.rd (by omega) (by omega)) ?_; rintro e w2 ⟨v, rfl, hv1, _, hr2, hg2⟩; have hv := hv1 (by omega); have S2 := Lib.hid (S1.out.step hgl hr2 hg2); have hs2 := S2.out.rd.lt; obtain ⟨z, hz, _⟩ := table_at [0, 10, 50, 51, -1] #[.int .i64 0, .int .i64 10, .int .i64 50, .int .i64 51, .int .i64 (-1)] rfl (new_block w2 (.cells #[.int .i64 0, .int .i64 10, .int .i64 50, .int .i64 51, .int .i64 (-1)] 3)) (v := v) (by simp; omega); clear tok2 hv1 hr2 hg2)
      | (refine Calls.mono (pick_any _ g _ _ (S1.out.rd.alloc _) (by omega) (by omega)) ?_; rintro e w2 ⟨v, rfl, hv1, _, hr2, hg2⟩; have hv := hv1 (by omega); have S2 := Lib.hid ((S1.out.alloc _).step hgl hr2 hg2); have hs2 := S2.out.rd.lt; have T2 := Lib.hid (block_kept (new_block w1 _) hg2 (Nat.ne_of_gt hs1)); obtain ⟨z, hz, _⟩ := table_at [0, 10, 50, 51, -1] _ rfl T2.out (v := v) (by simp; omega); clear tok2 hv1 hr2 hg2))
    | (go_simp; go_at_call 82; have _t := tok3; first
      | (refine Calls.mono (pick_any _ g _ _ S2.out.rd (by omega) (by omega)) ?_; rintro e w3 ⟨x, rfl, hx1, _, hr3, hg3⟩; have S3 := Lib.hid (S2.out.step hgl hr3 hg3); have hz3 := cell_far hg3 (Array.getElem?_eq_some_iff.1 T2.out).1 (by first | exact Nat.ne_of_gt hs0 | exact Nat.ne_of_gt hs1) hz; obtain ⟨j0, j1, j2⟩ := S3.out.rb.cells; obtain ⟨f0, f1, f2⟩ := S3.out.rb.free; obtain ⟨k0, k1, k2⟩ := (S3.out.alloc (.cells #[.int .i64 0, .int .i64 10, .int .i64 50, .int .i64 51, .int .i64 (-1)] 3)).rb.cells; obtain ⟨l0, l1, l2⟩ := (S3.out.alloc (.cells #[.int .i64 0, .int .i64 10, .int .i64 50, .int .i64 51, .int .i64 (-1)] 3)).rb.free; clear tok3 hx1 hr3 hg3)
      | (refine Calls.mono (pick_any _ g _ _ S2.out.rd (by omega) (by omega)) ?_; rintro e w3 ⟨x, rfl, hx1, _, hr3, hg3⟩; have S3 := Lib.hid (S2.out.step hgl hr3 hg3); clear hz; obtain ⟨z, hz3, _⟩ := table_at [0, 10, 50, 51, -1] #[.int .i64 0, .int .i64 10, .int .i64 50, .int .i64 51, .int .i64 (-1)] rfl (new_block w3 (.cells #[.int .i64 0, .int .i64 10, .int .i64 50, .int .i64 51, .int .i64 (-1)] 3)) (v := v) (by simp; omega); obtain ⟨j0, j1, j2⟩ := S3.out.rb.cells; obtain ⟨f0, f1, f2⟩ := S3.out.rb.free; obtain ⟨k0, k1, k2⟩ := (S3.out.alloc (.cells #[.int .i64 0, .int .i64 10, .int .i64 50, .int .i64 51, .int .i64 (-1)] 3)).rb.cells; obtain ⟨l0, l1, l2⟩ := (S3.out.alloc (.cells #[.int .i64 0, .int .i64 10, .int .i64 50, .int .i64 51, .int .i64 (-1)] 3)).rb.free; clear tok3 hx1 hr3 hg3)
      | (refine Calls.mono (pick_any _ g _ _ (S2.out.rd.alloc _) (by omega) (by omega)) ?_; rintro e w3 ⟨x, rfl, hx1, _, hr3, hg3⟩; have S3 := Lib.hid ((S2.out.alloc _).step hgl hr3 hg3); have hz3 := cell_far hg3 (by simp) (Nat.ne_of_gt hs2) hz; obtain ⟨j0, j1, j2⟩ := S3.out.rb.cells; obtain ⟨f0, f1, f2⟩ := S3.out.rb.free; obtain ⟨k0, k1, k2⟩ := (S3.out.alloc (.cells #[.int .i64 0, .int .i64 10, .int .i64 50, .int .i64 51, .int .i64 (-1)] 3)).rb.cells; obtain ⟨l0, l1, l2⟩ := (S3.out.alloc (.cells #[.int .i64 0, .int .i64 10, .int .i64 50, .int .i64 51, .int .i64 (-1)] 3)).rb.free; clear tok3 hx1 hr3 hg3)))
  all_goals
    have hw : IntKind.i64.wrap ((a : Int) - 1) = (a : Int) - 1 := IntWalk.i64_in _ (by omega)
    have HW := Lib.hid hw
    clear hw hz3 j0 j1 j2 f0 f1 f2 k0 k1 k2 l0 l1 l2
    generalize IntKind.i64.wrap ((a : Int) - 1) = u at *
    generalize ((x : Int) == 0) = bx at *
    first
    | (have RF := Lib.hid (row_cells S3.out.rb u z bx)
       have LD := Lib.hid (S3.out.laid hgl (.int .i64 u) (.int .i64 z) (.bool bx))
       generalize ((w3.setCell ⟨w.heap.size, 0, none⟩ (.int .i64 u)).setCell ⟨w.heap.size, 1, none⟩ (.int .i64 z)).setCell ⟨w.heap.size, 2, none⟩ (.bool bx) = wz at *
       (with_reducible show Exit.then _ _ Exit.normal _ wz)
       go_wp2_with fail
       refine bodyPost_ret (row_results _ _ _ _ _ _ (by rfl) RF.out) rfl ?_
       exact ⟨_, _, _, rfl, by rw [HW.out]; omega, by rw [HW.out]; omega, LD.out.1.more (by omega), LD.out.2⟩)
    | (have RF := Lib.hid (row_cells (S3.out.alloc (.cells #[.int .i64 0, .int .i64 10, .int .i64 50, .int .i64 51, .int .i64 (-1)] 3)).rb u z bx)
       have LD := Lib.hid ((S3.out.alloc (.cells #[.int .i64 0, .int .i64 10, .int .i64 50, .int .i64 51, .int .i64 (-1)] 3)).laid hgl (.int .i64 u) (.int .i64 z) (.bool bx))
       generalize (((w3.alloc (.cells #[.int .i64 0, .int .i64 10, .int .i64 50, .int .i64 51, .int .i64 (-1)] 3)).setCell ⟨w.heap.size, 0, none⟩ (.int .i64 u)).setCell ⟨w.heap.size, 1, none⟩ (.int .i64 z)).setCell ⟨w.heap.size, 2, none⟩ (.bool bx) = wz at *
       (with_reducible show Exit.then _ _ Exit.normal _ wz)
       go_wp2_with fail
       refine bodyPost_ret (row_results _ _ _ _ _ _ (by rfl) RF.out) rfl ?_
       exact ⟨_, _, _, rfl, by rw [HW.out]; omega, by rw [HW.out]; omega, LD.out.1.more (by omega), LD.out.2⟩)
structure DSt (w : World) (g P : Nat) (wk : World) : Prop where
  rd : Rd wk g P
  below : Below w.heap.size w wk
  rb : RBox w.heap.size wk 0 0 false
section
variable {w w1 w2 : World} {g P Q : Nat}
theorem DSt.step (h : DSt w g P w1) (hgl : w.heap.size < g) (hr : Rd w2 g Q) (hg : w1.grownBy w2 (some g)) : DSt w g Q w2 := ⟨hr, h.below.trans ((below_of_grown hg (Nat.le_of_lt h.rd.lt)).mono (Nat.le_of_lt hgl)), h.rb.read hg (by omega)⟩
theorem DSt.alloc (h : DSt w g P w1) (o : Obj) : DSt w g P (w1.alloc o) := ⟨h.rd.alloc o, h.below.alloc h.below.size o, h.rb.alloc o⟩
theorem DSt.drew (h : DSt w g P w1) : DSt w g P w1.drew := ⟨h.rd.drew, below_drewN h.below 1, h.rb.drew⟩
theorem DSt.laid (h : DSt w g P w1) (a b c : Value) : Below w.heap.size w (((w1.setCell ⟨w.heap.size, 0, none⟩ a).setCell ⟨w.heap.size, 1, none⟩ b).setCell ⟨w.heap.size, 2, none⟩ c) :=
  h.below.trans ((((Below.refl _ _).setCell (p := ⟨w.heap.size, 0, none⟩) (Nat.le_refl _) a).setCell (p := ⟨w.heap.size, 1, none⟩) (Nat.le_refl _) b).setCell (p := ⟨w.heap.size, 2, none⟩) (Nat.le_refl _) c)
end
theorem mod4 {v q : Nat} (h : q = v % 4) : (v : Int) % 4 = (q : Int) := by omega
theorem tmod4 {v q : Nat} (h : q = v % 4) : Int.tmod (v : Int) 4 = (q : Int) := by rw [Int.tmod_eq_emod_of_nonneg (by omega)]; omega
theorem leaf_results (tmps : Array Value) (W : World) (H : Nat) (s : Value) (u f : Int) (b : Bool) (hs : tmps[2]?.getD undef = s) (hp : tmps[3]?.getD undef = .pointer (some ⟨H, 0, none⟩)) (y : RBox H W u f b) :
    (results Try.f56 tmps).run Try.prog W = .ok (.tuple #[s, .agg #[.int .i64 u, .int .i64 f, .bool b]]) W := by
  obtain ⟨y0, y1, y2⟩ := y.cells
  simp [results, Try.results56, go_sem, hs, hp, y0, y1, y2]
/-- a ticket, whichever, and a row -/
def TickRow (w : World) (e : Ending) (w' : World) : Prop := ∃ (t u f : Int) (b : Bool), e = .returned (.tuple #[.int .i64 t, .agg #[.int .i64 u, .int .i64 f, .bool b]]) ∧ -1 ≤ u ∧ u ≤ 5 ∧ Below w.heap.size w w'
set_option maxHeartbeats 4000000 in
theorem DrawOwnLeaf_any (w : World) (A : Option Addr) (n c : Nat) (bs : List Int) (h : Bytes w A n c bs) (hn : n ≤ 140737488351232) : Calls Try.prog 56 #[.slice A n c] w (TickRow w) := by
  have RB := Lib.hid (RBox.new w 0 0 false)
  go_enter Try.func56, Try.ntmps56
  go_wp2_with fail
  refine (open_any _ A n c bs (h.alloc _) hn).mono ?_
  rintro e w0 ⟨rfl, hr1, hb1⟩
  have R1 := Lib.hid (RB.out.below hb1)
  have B1 := Lib.hid (((Below.refl w.heap.size w).alloc (Nat.le_refl _) (.cells #[.int .i64 0, .int .i64 0, .bool false] 31)).trans (hb1.mono (by simp)))
  have hs0 := hr1.lt
  have hs : (w.alloc (.cells #[.int .i64 0, .int .i64 0, .bool false] 31)).heap.size = w.heap.size + 1 := by simp
  rw [hs] at hr1 hs0
  have S0 := Lib.hid (show DSt w (w.heap.size + 1) 0 w0 from ⟨hr1, B1.out, R1.out⟩)
  have hgl : w.heap.size < w.heap.size + 1 := Nat.lt_succ_self _
  clear hb1 RB h hs hr1 B1 R1
  have tok1 : True := trivial
  have tok2 : True := trivial
  have tok3 : True := trivial
  go_wp2_with fail
  generalize hgg : w.heap.size + 1 = g at *
  clear hgg
  go_region_law (first
    | (go_simp; go_at_call 82; have _t := tok1; refine Calls.mono (pick_any _ g _ _ S0.out.rd.drew (by omega) (by omega)) ?_; rintro e w1 ⟨a, rfl, ha1, _, hr1, hg1⟩; have S1 := Lib.hid (S0.out.drew.step hgl hr1 hg1); have hs1 := S1.out.rd.lt; clear tok1 ha1 hr1 hg1)
    | (go_simp; go_at_call 82; have _t := tok2; first
      | (refine Calls.mono (pick_any _ g _ _ S1.out.rd (by omega) (by omega)) ?_; rintro e w2 ⟨v, rfl, hv1, _, hr2, hg2⟩; have hv := hv1 (by omega); have S2 := Lib.hid (S1.out.step hgl hr2 hg2); have hs2 := S2.out.rd.lt; obtain ⟨q, hq⟩ : ∃ q, q = v % 4 := ⟨_, rfl⟩; have hq4 : q < 4 := (by omega); have hq5 : (q : Int) < 4 := (by omega); have m1 := mod4 hq; have m2 := tmod4 hq; obtain ⟨z, hz, _⟩ := table_at [(a : Int), -1, 8, 9223372036854775807] #[.int .i64 (a : Int), .int .i64 (-1), .int .i64 8, .int .i64 9223372036854775807] rfl (new_block w2 (.cells #[.int .i64 (a : Int), .int .i64 (-1), .int .i64 8, .int .i64 9223372036854775807] 3)) (v := q) (by simp; omega); clear tok2 hv1 hr2 hg2 hq)
      | (refine Calls.mono (pick_any _ g _ _ (S1.out.rd.alloc _) (by omega) (by omega)) ?_; rintro e w2 ⟨v, rfl, hv1, _, hr2, hg2⟩; have hv := hv1 (by omega); have S2 := Lib.hid ((S1.out.alloc _).step hgl hr2 hg2); have hs2 := S2.out.rd.lt; obtain ⟨q, hq⟩ : ∃ q, q = v % 4 := ⟨_, rfl⟩; have hq4 : q < 4 := (by omega); have hq5 : (q : Int) < 4 := (by omega); have m1 := mod4 hq; have m2 := tmod4 hq; have T2 := Lib.hid (block_kept (new_block w1 (.cells #[.int .i64 (a : Int), .int .i64 (-1), .int .i64 8, .int .i64 9223372036854775807] 3)) hg2 (Nat.ne_of_gt hs1)); obtain ⟨z, hz, _⟩ := table_at [(a : Int), -1, 8, 9223372036854775807] #[.int .i64 (a : Int), .int .i64 (-1), .int .i64 8, .int .i64 9223372036854775807] rfl T2.out (v := q) (by simp; omega); clear tok2 hv1 hr2 hg2 hq))
    | (go_simp; go_at_call 83; have _t := tok3; first
      | (refine Calls.mono (row_any _ g _ S2.out.rd (by omega)) ?_; rintro e w3 ⟨u, f, bx, rfl, hu0, hu1, hr3, hg3⟩; have S3 := Lib.hid (S2.out.step hgl hr3 hg3); have hz3 := cell_far hg3 (Array.getElem?_eq_some_iff.1 T2.out).1 (Nat.ne_of_gt hs1) hz; obtain ⟨j0, j1, j2⟩ := S3.out.rb.cells; obtain ⟨f0, f1, f2⟩ := S3.out.rb.free; obtain ⟨k0, k1, k2⟩ := (S3.out.alloc (.cells #[.int .i64 (a : Int), .int .i64 (-1), .int .i64 8, .int .i64 9223372036854775807] 3)).rb.cells; obtain ⟨l0, l1, l2⟩ := (S3.out.alloc (.cells #[.int .i64 (a : Int), .int .i64 (-1), .int .i64 8, .int .i64 9223372036854775807] 3)).rb.free; clear tok3 hr3 hg3)
      | (refine Calls.mono (row_any _ g _ S2.out.rd (by omega)) ?_; rintro e w3 ⟨u, f, bx, rfl, hu0, hu1, hr3, hg3⟩; have S3 := Lib.hid (S2.out.step hgl hr3 hg3); clear hz; obtain ⟨z, hz3, _⟩ := table_at [(a : Int), -1, 8, 9223372036854775807] #[.int .i64 (a : Int), .int .i64 (-1), .int .i64 8, .int .i64 9223372036854775807] rfl (new_block w3 (.cells #[.int .i64 (a : Int), .int .i64 (-1), .int .i64 8, .int .i64 9223372036854775807] 3)) (v := q) (by simp; omega); obtain ⟨j0, j1, j2⟩ := S3.out.rb.cells; obtain ⟨f0, f1, f2⟩ := S3.out.rb.free; obtain ⟨k0, k1, k2⟩ := (S3.out.alloc (.cells #[.int .i64 (a : Int), .int .i64 (-1), .int .i64 8, .int .i64 9223372036854775807] 3)).rb.cells; obtain ⟨l0, l1, l2⟩ := (S3.out.alloc (.cells #[.int .i64 (a : Int), .int .i64 (-1), .int .i64 8, .int .i64 9223372036854775807] 3)).rb.free; clear tok3 hr3 hg3)
      | (refine Calls.mono (row_any _ g _ (S2.out.rd.alloc _) (by omega)) ?_; rintro e w3 ⟨u, f, bx, rfl, hu0, hu1, hr3, hg3⟩; have S3 := Lib.hid ((S2.out.alloc _).step hgl hr3 hg3); have hz3 := cell_far hg3 (by simp) (Nat.ne_of_gt hs2) hz; obtain ⟨j0, j1, j2⟩ := S3.out.rb.cells; obtain ⟨f0, f1, f2⟩ := S3.out.rb.free; obtain ⟨k0, k1, k2⟩ := (S3.out.alloc (.cells #[.int .i64 (a : Int), .int .i64 (-1), .int .i64 8, .int .i64 9223372036854775807] 3)).rb.cells; obtain ⟨l0, l1, l2⟩ := (S3.out.alloc (.cells #[.int .i64 (a : Int), .int .i64 (-1), .int .i64 8, .int .i64 9223372036854775807] 3)).rb.free; clear tok3 hr3 hg3)))
  all_goals
    clear hz3 j0 j1 j2 f0 f1 f2 k0 k1 k2 l0 l1 l2
    first
    | (have RF := Lib.hid (row_cells S3.out.rb u f bx)
       have LD := Lib.hid (S3.out.laid (.int .i64 u) (.int .i64 f) (.bool bx))
       generalize ((w3.setCell ⟨w.heap.size, 0, none⟩ (.int .i64 u)).setCell ⟨w.heap.size, 1, none⟩ (.int .i64 f)).setCell ⟨w.heap.size, 2, none⟩ (.bool bx) = wz at *
       (with_reducible show Exit.then _ _ Exit.normal _ wz)
       go_wp2_with fail
       refine bodyPost_ret (leaf_results _ _ _ _ _ _ _ rfl (by rfl) RF.out) rfl ?_
       exact ⟨_, _, _, _, rfl, hu0, hu1, LD.out⟩)
    | (have RF := Lib.hid (row_cells (S3.out.alloc (.cells #[.int .i64 (a : Int), .int .i64 (-1), .int .i64 8, .int .i64 9223372036854775807] 3)).rb u f bx)
       have LD := Lib.hid ((S3.out.alloc (.cells #[.int .i64 (a : Int), .int .i64 (-1), .int .i64 8, .int .i64 9223372036854775807] 3)).laid (.int .i64 u) (.int .i64 f) (.bool bx))
       generalize (((w3.alloc (.cells #[.int .i64 (a : Int), .int .i64 (-1), .int .i64 8, .int .i64 9223372036854775807] 3)).setCell ⟨w.heap.size, 0, none⟩ (.int .i64 u)).setCell ⟨w.heap.size, 1, none⟩ (.int .i64 f)).setCell ⟨w.heap.size, 2, none⟩ (.bool bx) = wz at *
       (with_reducible show Exit.then _ _ Exit.normal _ wz)
       go_wp2_with fail
       refine bodyPost_ret (leaf_results _ _ _ _ _ _ _ rfl (by rfl) RF.out) rfl ?_
       exact ⟨_, _, _, _, rfl, hu0, hu1, LD.out⟩)
end Go.Proofs.Ytbgljjmmominbaa

