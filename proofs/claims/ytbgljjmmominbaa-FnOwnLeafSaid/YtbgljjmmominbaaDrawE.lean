/- Contracts: an entry drawn, how a ticket stands drawn (reference, layer 20). -/
import Derived.Test.YtbgljjmmominbaaLaw
import Derived.Test.YtbgljjmmominbaaStr
import Derived.Test.YtbgljjmmominbaaEnt
import Derived.Deep.Cut
namespace Go.Proofs.Ytbgljjmmominbaa
set_option linter.unusedVariables false
open Go.RowKit Pl
/-- a block of four numbers -/
def EBox (H : Nat) (w : World) (k t u p : Int) : Prop := w.heap[H]? = some (.cells #[.int .i64 k, .int .i64 t, .int .i64 u, .int .i64 p] 25 (0, 0))
section
variable {H g : Nat} {w w' : World} {k t u p : Int}
theorem EBox.lt (h : EBox H w k t u p) : H < w.heap.size := (Array.getElem?_eq_some_iff.1 h).1
theorem EBox.cells (h : EBox H w k t u p) : w.cell? ⟨H, 0, none⟩ = some (.int .i64 k) ∧ w.cell? ⟨H, 1, none⟩ = some (.int .i64 t) ∧ w.cell? ⟨H, 2, none⟩ = some (.int .i64 u) ∧ w.cell? ⟨H, 3, none⟩ = some (.int .i64 p) := by
  refine ⟨?_, ?_, ?_, ?_⟩
  all_goals
    rw [cell_of_row w H _ _ _ _ h]; rfl
theorem EBox.free (h : EBox H w k t u p) : w.frozen? ⟨H, 0, none⟩ = false ∧ w.frozen? ⟨H, 1, none⟩ = false ∧ w.frozen? ⟨H, 2, none⟩ = false ∧ w.frozen? ⟨H, 3, none⟩ = false := by
  refine ⟨?_, ?_, ?_, ?_⟩
  all_goals
    unfold World.frozen?; rw [h]; rfl
theorem EBox.read (h : EBox H w k t u p) (hg : w.grownBy w' (some g)) (hne : H ≠ g) : EBox H w' k t u p := (hg.block H h.lt (by simpa using hne)).trans h
theorem EBox.alloc (h : EBox H w k t u p) (o : Obj) : EBox H (w.alloc o) k t u p := (((Below.refl w.heap.size w).alloc (Nat.le_refl _) o).block H h.lt).trans h
theorem EBox.new (w : World) (k t u p : Int) : EBox w.heap.size (w.alloc (.cells #[.int .i64 k, .int .i64 t, .int .i64 u, .int .i64 p] 25)) k t u p := heap_alloc_new w _
theorem EBox.far (h : EBox H w k t u p) {a : Addr} (ha : a.block ≠ H) (v : Value) : EBox H (w.setCell a v) k t u p := (Below.heap_setCell w a v H (fun e => ha e.symm)).trans h
theorem EBox.drew (h : EBox H w k t u p) : EBox H w.drew k t u p := h
theorem EBox.drewN (h : EBox H w k t u p) (n : Nat) : EBox H (w.drewN n) k t u p := h
theorem EBox.below (h : EBox H w k t u p) (hb : Below w.heap.size w w') : EBox H w' k t u p := (hb.block H h.lt).trans h
theorem EBox.set0 (h : EBox H w k t u p) (z : Int) : EBox H (w.setCell ⟨H, 0, none⟩ (.int .i64 z)) z t u p := by
  unfold EBox at *; simp [World.setCell, Array.getElem?_modify, h]
theorem EBox.set1 (h : EBox H w k t u p) (z : Int) : EBox H (w.setCell ⟨H, 1, none⟩ (.int .i64 z)) k z u p := by
  unfold EBox at *; simp [World.setCell, Array.getElem?_modify, h]
theorem EBox.set2 (h : EBox H w k t u p) (z : Int) : EBox H (w.setCell ⟨H, 2, none⟩ (.int .i64 z)) k t z p := by
  unfold EBox at *; simp [World.setCell, Array.getElem?_modify, h]
theorem EBox.set3 (h : EBox H w k t u p) (z : Int) : EBox H (w.setCell ⟨H, 3, none⟩ (.int .i64 z)) k t u z := by
  unfold EBox at *; simp [World.setCell, Array.getElem?_modify, h]
end
/-- on the way: the reader, the frame, the entry's block, the result's block -/
structure St (w : World) (g P : Nat) (wk : World) (H : Nat) (k t u p : Int) : Prop where
  rd : Rd wk g P
  grown : w.grownBy wk (some g)
  eb : EBox H wk k t u p
  rb : EBox w.heap.size wk 0 0 0 0
  lt : w.heap.size < H
section
variable {w w1 w2 : World} {g P Q H : Nat} {k t u p : Int}
theorem St.step (h : St w g P w1 H k t u p) (hgl : g < w.heap.size) (hr : Rd w2 g Q) (hg : w1.grownBy w2 (some g)) : St w g Q w2 H k t u p :=
  ⟨hr, grownBy_trans h.grown hg, h.eb.read hg (by have := h.lt; omega), h.rb.read hg (by omega), h.lt⟩
theorem St.alloc (h : St w g P w1 H k t u p) (o : Obj) : St w g P (w1.alloc o) H k t u p := ⟨h.rd.alloc o, grownBy_alloc h.grown o, h.eb.alloc o, h.rb.alloc o, h.lt⟩
theorem St.wrote (h : St w g P w1 H k t u p) (hgl : g < w.heap.size) (i : Nat) (v : Value) {k' t' u' p' : Int} (he : EBox H (w1.setCell ⟨H, i, none⟩ v) k' t' u' p') : St w g P (w1.setCell ⟨H, i, none⟩ v) H k' t' u' p' := by
  have hb : Below w.heap.size w1 (w1.setCell ⟨H, i, none⟩ v) := (Below.refl _ _).setCell (show w.heap.size ≤ H from Nat.le_of_lt h.lt) v
  exact ⟨h.rd.below hb hgl, grownBy_below h.grown hb (Nat.le_refl _), he, h.rb.far (show H ≠ w.heap.size by have := h.lt; omega) v, h.lt⟩
/-- the result laid -/
theorem St.laid (h : St w g P w1 H k t u p) (hgl : g < w.heap.size) (a b c d : Value) :
    Rd ((((w1.setCell ⟨w.heap.size, 0, none⟩ a).setCell ⟨w.heap.size, 1, none⟩ b).setCell ⟨w.heap.size, 2, none⟩ c).setCell ⟨w.heap.size, 3, none⟩ d) g P ∧
    w.grownBy ((((w1.setCell ⟨w.heap.size, 0, none⟩ a).setCell ⟨w.heap.size, 1, none⟩ b).setCell ⟨w.heap.size, 2, none⟩ c).setCell ⟨w.heap.size, 3, none⟩ d) (some g) := by
  have hb : Below w.heap.size w1 ((((w1.setCell ⟨w.heap.size, 0, none⟩ a).setCell ⟨w.heap.size, 1, none⟩ b).setCell ⟨w.heap.size, 2, none⟩ c).setCell ⟨w.heap.size, 3, none⟩ d) :=
    ((((Below.refl _ _).setCell (p := ⟨w.heap.size, 0, none⟩) (Nat.le_refl _) a).setCell (p := ⟨w.heap.size, 1, none⟩) (Nat.le_refl _) b).setCell (p := ⟨w.heap.size, 2, none⟩) (Nat.le_refl _) c).setCell (p := ⟨w.heap.size, 3, none⟩) (Nat.le_refl _) d
  exact ⟨h.rd.below hb hgl, grownBy_below h.grown hb (Nat.le_refl _)⟩
end
theorem ent_results (tmps : Array Value) (W : World) (H : Nat) (k t u p : Int) (hp : tmps[4]?.getD undef = .pointer (some ⟨H, 0, none⟩)) (y0 : W.cell? ⟨H, 0, none⟩ = some (.int .i64 k)) (y1 : W.cell? ⟨H, 1, none⟩ = some (.int .i64 t)) (y2 : W.cell? ⟨H, 2, none⟩ = some (.int .i64 u)) (y3 : W.cell? ⟨H, 3, none⟩ = some (.int .i64 p)) :
    (results Try.f86 tmps).run Try.prog W = .ok (.agg #[.int .i64 k, .int .i64 t, .int .i64 u, .int .i64 p]) W := by
  simp [results, Try.results86, go_sem, hp, y0, y1, y2, y3]
/-- an entry, whichever -/
def EntRes (w : World) (g P : Nat) (e : Ending) (w' : World) : Prop := ∃ k t u p : Int, e = .returned (.agg #[.int .i64 k, .int .i64 t, .int .i64 u, .int .i64 p]) ∧ Rd w' g (P + 30) ∧ w.grownBy w' (some g)
set_option maxHeartbeats 8000000 in
theorem entry_any (w : World) (g P : Nat) (n : Int) (h : Rd w g P) (hP : P ≤ 800000) (hn : n ≤ 1000000) (hn0 : 0 ≤ n) : Calls Try.prog 86 #[.pointer (some ⟨g, 0, none⟩), .int .i64 n] w (EntRes w g P) := by
  have hgl := h.lt
  have RB := Lib.hid (EBox.new w 0 0 0 0)
  have hc50 : capI 50 = 60 := by decide
  go_enter Try.func86, Try.ntmps86
  go_wp2_with fail
  refine (pick_any _ g P _ (h.alloc _) (by omega) (by omega)).mono ?_
  rintro e w1 ⟨v1, rfl, hv1, _, hr1, hg1⟩
  have hk := hv1 (by omega)
  have R1 := Lib.hid (RB.out.read hg1 (by omega))
  have G1 := Lib.hid (grownBy_trans (grownBy_alloc (World.grownBy.refl w (some g)) _) hg1)
  have D1 := Lib.hid hr1
  clear hv1 hr1 hg1 RB h
  go_wp2_with fail
  refine (pick_any _ g _ _ D1.out (by omega) (by omega)).mono ?_
  rintro e w2 ⟨v2, rfl, hv2, _, hr2, hg2⟩
  have R2 := Lib.hid (R1.out.read hg2 (by omega))
  have G2 := Lib.hid (grownBy_trans G1.out hg2)
  have D2 := Lib.hid hr2
  have hv8 := hv2 (by omega)
  clear hr2 hg2 hv2 R1 G1 D1
  go_wp2_with fail
  refine (pick_any _ g _ _ D2.out (by omega) (by omega)).mono ?_
  rintro e w3 ⟨v3, rfl, hv3, _, hr3, hg3⟩
  have hv5 := hv3 (by omega)
  have hlt3 := (R2.out.read hg3 (by omega)).lt
  have S3 := Lib.hid (show St w g (P + 3) (w3.alloc (.cells #[.int .i64 (1 + (v1 : Int)), .int .i64 (v2 : Int), .int .i64 (1 + (v3 : Int)), .int .i64 0] 25)) w3.heap.size (1 + (v1 : Int)) v2 (1 + (v3 : Int)) 0 from
    ⟨hr3.alloc _, grownBy_alloc (grownBy_trans G2.out hg3) _, EBox.new w3 _ _ _ _, (R2.out.read hg3 (by omega)).alloc _, hlt3⟩)
  clear hr3 hg3 hv3 R2 G2 D2
  by_cases h2 : v1 = 2
  · subst h2
    have S4 := Lib.hid S3.out
    clear S3
    go_wp2_with fail
    refine (odd_any _ g _ n S4.out.rd (by omega) hn hn0).mono ?_
    rintro e w5 ⟨b, rfl, hr5, hg5⟩
    have S5 := Lib.hid (S4.out.step hgl hr5 hg5)
    clear hr5 hg5 S4
    cases b
    · obtain ⟨c0, c1, c2, c3⟩ := S5.out.eb.cells
      obtain ⟨f0, f1, f2, f3⟩ := S5.out.rb.free
      obtain ⟨z0, z1, z2, z3⟩ := S5.out.rb.cells
      have LD := Lib.hid (S5.out.laid hgl (.int .i64 (3)) (.int .i64 ((v2 : Int))) (.int .i64 (1 + (v3 : Int))) (.int .i64 (0)))
      have RF := Lib.hid ((((S5.out.rb.set0 (3)).set1 ((v2 : Int))).set2 (1 + (v3 : Int))).set3 (0))
      go_wp2_with fail
      obtain ⟨y0, y1, y2, y3⟩ := RF.out.cells
      refine bodyPost_ret (ent_results _ _ _ _ _ _ _ (by rfl) y0 y1 y2 y3) rfl ?_
      exact ⟨_, _, _, _, rfl, LD.out.1.more (by omega), LD.out.2⟩
    · go_wp2_with fail
      refine (pick_any _ g _ _ S5.out.rd (by omega) (by omega)).mono ?_
      rintro e w6 ⟨v6, rfl, hv6, _, hr6, hg6⟩
      have h6 := hv6 (by omega)
      have S6 := Lib.hid (S5.out.step hgl hr6 hg6)
      clear hr6 hg6 S5 hv6
      have h6c : v6 = 0 ∨ v6 = 1 ∨ v6 = 2 ∨ v6 = 3 := by omega
      rcases h6c with rfl | rfl | rfl | rfl
      · go_wp2_with fail
        refine (pick_any _ g _ _ (S6.out.rd.alloc _) (by omega) (by omega)).mono ?_
        rintro e w7 ⟨v7, rfl, hv7, _, hr7, hg7⟩
        have h7 := hv7 (by omega)
        obtain ⟨z, hz, _⟩ := table_at [0, 4, -1] _ rfl (block_kept (new_block w6 _) hg7 (by have := S6.out.rd.lt; omega)) (v := v7) (by simp; omega)
        have S7 := Lib.hid ((S6.out.alloc _).step hgl hr7 hg7)
        have a0 := S7.out.eb.free.1
        have c0 := S7.out.eb.cells.1
        have S8 := Lib.hid (S7.out.wrote hgl 0 (.int .i64 z) (S7.out.eb.set0 z))
        clear hr7 hg7 hv7 S6 S7
        go_upto_region 13 with fail
        clear a0 c0 hz h7
        generalize w7.setCell ⟨w3.heap.size, 0, none⟩ (.int .i64 z) = w8 at *
        obtain ⟨c0, c1, c2, c3⟩ := S8.out.eb.cells
        obtain ⟨f0, f1, f2, f3⟩ := S8.out.rb.free
        obtain ⟨z0, z1, z2, z3⟩ := S8.out.rb.cells
        have LD := Lib.hid (S8.out.laid hgl (.int .i64 (z)) (.int .i64 ((v2 : Int))) (.int .i64 (1 + (v3 : Int))) (.int .i64 (0)))
        have RF := Lib.hid ((((S8.out.rb.set0 (z)).set1 ((v2 : Int))).set2 (1 + (v3 : Int))).set3 (0))
        go_wp2_with fail
        obtain ⟨y0, y1, y2, y3⟩ := RF.out.cells
        refine bodyPost_ret (ent_results _ _ _ _ _ _ _ (by rfl) y0 y1 y2 y3) rfl ?_
        exact ⟨_, _, _, _, rfl, LD.out.1.more (by omega), LD.out.2⟩
      · go_wp2_with fail
        refine (pick_any _ g _ _ (S6.out.rd.alloc _) (by omega) (by omega)).mono ?_
        rintro e w7 ⟨v7, rfl, hv7, _, hr7, hg7⟩
        have h7 := hv7 (by omega)
        obtain ⟨z, hz, _⟩ := table_at [-1, 8] _ rfl (block_kept (new_block w6 _) hg7 (by have := S6.out.rd.lt; omega)) (v := v7) (by simp; omega)
        have S7 := Lib.hid ((S6.out.alloc _).step hgl hr7 hg7)
        have a0 := S7.out.eb.free.2.1
        have c0 := S7.out.eb.cells.2.1
        have S8 := Lib.hid (S7.out.wrote hgl 1 (.int .i64 z) (S7.out.eb.set1 z))
        clear hr7 hg7 hv7 S6 S7
        go_upto_region 13 with fail
        clear a0 c0 hz h7
        generalize w7.setCell ⟨w3.heap.size, 1, none⟩ (.int .i64 z) = w8 at *
        obtain ⟨c0, c1, c2, c3⟩ := S8.out.eb.cells
        obtain ⟨f0, f1, f2, f3⟩ := S8.out.rb.free
        obtain ⟨z0, z1, z2, z3⟩ := S8.out.rb.cells
        have LD := Lib.hid (S8.out.laid hgl (.int .i64 (3)) (.int .i64 (z)) (.int .i64 (1 + (v3 : Int))) (.int .i64 (0)))
        have RF := Lib.hid ((((S8.out.rb.set0 (3)).set1 (z)).set2 (1 + (v3 : Int))).set3 (0))
        go_wp2_with fail
        obtain ⟨y0, y1, y2, y3⟩ := RF.out.cells
        refine bodyPost_ret (ent_results _ _ _ _ _ _ _ (by rfl) y0 y1 y2 y3) rfl ?_
        exact ⟨_, _, _, _, rfl, LD.out.1.more (by omega), LD.out.2⟩
      · go_wp2_with fail
        refine (pick_any _ g _ _ (S6.out.rd.alloc _) (by omega) (by omega)).mono ?_
        rintro e w7 ⟨v7, rfl, hv7, _, hr7, hg7⟩
        have h7 := hv7 (by omega)
        obtain ⟨z, hz, _⟩ := table_at [0, 6] _ rfl (block_kept (new_block w6 _) hg7 (by have := S6.out.rd.lt; omega)) (v := v7) (by simp; omega)
        have S7 := Lib.hid ((S6.out.alloc _).step hgl hr7 hg7)
        have a0 := S7.out.eb.free.2.2.1
        have c0 := S7.out.eb.cells.2.2.1
        have S8 := Lib.hid (S7.out.wrote hgl 2 (.int .i64 z) (S7.out.eb.set2 z))
        clear hr7 hg7 hv7 S6 S7
        go_upto_region 13 with fail
        clear a0 c0 hz h7
        generalize w7.setCell ⟨w3.heap.size, 2, none⟩ (.int .i64 z) = w8 at *
        obtain ⟨c0, c1, c2, c3⟩ := S8.out.eb.cells
        obtain ⟨f0, f1, f2, f3⟩ := S8.out.rb.free
        obtain ⟨z0, z1, z2, z3⟩ := S8.out.rb.cells
        have LD := Lib.hid (S8.out.laid hgl (.int .i64 (3)) (.int .i64 ((v2 : Int))) (.int .i64 (z)) (.int .i64 (0)))
        have RF := Lib.hid ((((S8.out.rb.set0 (3)).set1 ((v2 : Int))).set2 (z)).set3 (0))
        go_wp2_with fail
        obtain ⟨y0, y1, y2, y3⟩ := RF.out.cells
        refine bodyPost_ret (ent_results _ _ _ _ _ _ _ (by rfl) y0 y1 y2 y3) rfl ?_
        exact ⟨_, _, _, _, rfl, LD.out.1.more (by omega), LD.out.2⟩
      · go_wp2_with (go_at_call 54; refine (sEntCap_any _ _).mono ?_; rw [hc50]; rintro e w' ⟨rfl, rfl⟩)
        refine (pick_any _ g _ _ (S6.out.rd.alloc _) (by omega) (by omega)).mono ?_
        rintro e w7 ⟨v7, rfl, hv7, _, hr7, hg7⟩
        have h7 := hv7 (by omega)
        obtain ⟨z, hz, _⟩ := table_at [0, -1, 51, 60, 61] _ rfl (block_kept (new_block w6 _) hg7 (by have := S6.out.rd.lt; omega)) (v := v7) (by simp; omega)
        have S7 := Lib.hid ((S6.out.alloc _).step hgl hr7 hg7)
        have a0 := S7.out.eb.free.2.2.2
        have c0 := S7.out.eb.cells.2.2.2
        have S8 := Lib.hid (S7.out.wrote hgl 3 (.int .i64 z) (S7.out.eb.set3 z))
        clear hr7 hg7 hv7 S6 S7
        go_upto_region 13 with fail
        clear a0 c0 hz h7
        generalize w7.setCell ⟨w3.heap.size, 3, none⟩ (.int .i64 z) = w8 at *
        obtain ⟨c0, c1, c2, c3⟩ := S8.out.eb.cells
        obtain ⟨f0, f1, f2, f3⟩ := S8.out.rb.free
        obtain ⟨z0, z1, z2, z3⟩ := S8.out.rb.cells
        have LD := Lib.hid (S8.out.laid hgl (.int .i64 (3)) (.int .i64 ((v2 : Int))) (.int .i64 (1 + (v3 : Int))) (.int .i64 (z)))
        have RF := Lib.hid ((((S8.out.rb.set0 (3)).set1 ((v2 : Int))).set2 (1 + (v3 : Int))).set3 (z))
        go_wp2_with fail
        obtain ⟨y0, y1, y2, y3⟩ := RF.out.cells
        refine bodyPost_ret (ent_results _ _ _ _ _ _ _ (by rfl) y0 y1 y2 y3) rfl ?_
        exact ⟨_, _, _, _, rfl, LD.out.1.more (by omega), LD.out.2⟩
  · have hkn : ((1 + (v1 : Int)) != 3) = true := by simp; omega
    have hke : ((1 + (v1 : Int)) == 3) = false := by simp; omega
    clear h2
    go_wp2_with fail
    refine (pick_any _ g _ _ (S3.out.rd.alloc _) (by omega) (by omega)).mono ?_
    rintro e w4 ⟨v4, rfl, hv4, _, hr4, hg4⟩
    have h4 := hv4 (by omega)
    obtain ⟨pz, hpz, _⟩ := table_at [1, 10, 20, 50] _ rfl (block_kept (new_block (w3.alloc (.cells #[.int .i64 (1 + (v1 : Int)), .int .i64 (v2 : Int), .int .i64 (1 + (v3 : Int)), .int .i64 0] 25)) _) hg4 (by have := S3.out.rd.lt; omega)) (v := v4) (by simp; omega)
    have S4a := Lib.hid ((S3.out.alloc _).step hgl hr4 hg4)
    obtain ⟨b0, b1, b2, b3⟩ := S4a.out.eb.free
    obtain ⟨e0, e1, e2, e3⟩ := S4a.out.eb.cells
    have S4 := Lib.hid (S4a.out.wrote hgl 3 (.int .i64 pz) (S4a.out.eb.set3 pz))
    have hpz2 : w4.cell? ⟨w3.heap.size + 1, v4, none⟩ = some (.int .i64 pz) := by simpa using hpz
    clear hr4 hg4 hv4 S3 S4a hpz
    go_upto_region 4 with fail
    clear b0 b1 b2 b3 e0 e1 e2 e3 hpz2 h4
    generalize w4.setCell ⟨w3.heap.size, 3, none⟩ (.int .i64 pz) = w4b at *
    go_wp2_with fail
    refine (odd_any _ g _ n S4.out.rd (by omega) hn hn0).mono ?_
    rintro e w5 ⟨b, rfl, hr5, hg5⟩
    have S5 := Lib.hid (S4.out.step hgl hr5 hg5)
    clear hr5 hg5 S4
    cases b
    · obtain ⟨c0, c1, c2, c3⟩ := S5.out.eb.cells
      obtain ⟨f0, f1, f2, f3⟩ := S5.out.rb.free
      obtain ⟨z0, z1, z2, z3⟩ := S5.out.rb.cells
      have LD := Lib.hid (S5.out.laid hgl (.int .i64 (1 + (v1 : Int))) (.int .i64 ((v2 : Int))) (.int .i64 (1 + (v3 : Int))) (.int .i64 (pz)))
      have RF := Lib.hid ((((S5.out.rb.set0 (1 + (v1 : Int))).set1 ((v2 : Int))).set2 (1 + (v3 : Int))).set3 (pz))
      go_wp2_with fail
      obtain ⟨y0, y1, y2, y3⟩ := RF.out.cells
      refine bodyPost_ret (ent_results _ _ _ _ _ _ _ (by rfl) y0 y1 y2 y3) rfl ?_
      exact ⟨_, _, _, _, rfl, LD.out.1.more (by omega), LD.out.2⟩
    · go_wp2_with fail
      refine (pick_any _ g _ _ S5.out.rd (by omega) (by omega)).mono ?_
      rintro e w6 ⟨v6, rfl, hv6, _, hr6, hg6⟩
      have h6 := hv6 (by omega)
      have S6 := Lib.hid (S5.out.step hgl hr6 hg6)
      clear hr6 hg6 S5 hv6
      have h6c : v6 = 0 ∨ v6 = 1 ∨ v6 = 2 ∨ v6 = 3 := by omega
      rcases h6c with rfl | rfl | rfl | rfl
      · go_wp2_with fail
        refine (pick_any _ g _ _ (S6.out.rd.alloc _) (by omega) (by omega)).mono ?_
        rintro e w7 ⟨v7, rfl, hv7, _, hr7, hg7⟩
        have h7 := hv7 (by omega)
        obtain ⟨z, hz, _⟩ := table_at [0, 4, -1] _ rfl (block_kept (new_block w6 _) hg7 (by have := S6.out.rd.lt; omega)) (v := v7) (by simp; omega)
        have S7 := Lib.hid ((S6.out.alloc _).step hgl hr7 hg7)
        have a0 := S7.out.eb.free.1
        have c0 := S7.out.eb.cells.1
        have S8 := Lib.hid (S7.out.wrote hgl 0 (.int .i64 z) (S7.out.eb.set0 z))
        clear hr7 hg7 hv7 S6 S7
        go_upto_region 13 with fail
        clear a0 c0 hz h7
        generalize w7.setCell ⟨w3.heap.size, 0, none⟩ (.int .i64 z) = w8 at *
        obtain ⟨c0, c1, c2, c3⟩ := S8.out.eb.cells
        obtain ⟨f0, f1, f2, f3⟩ := S8.out.rb.free
        obtain ⟨z0, z1, z2, z3⟩ := S8.out.rb.cells
        have LD := Lib.hid (S8.out.laid hgl (.int .i64 (z)) (.int .i64 ((v2 : Int))) (.int .i64 (1 + (v3 : Int))) (.int .i64 (pz)))
        have RF := Lib.hid ((((S8.out.rb.set0 (z)).set1 ((v2 : Int))).set2 (1 + (v3 : Int))).set3 (pz))
        go_wp2_with fail
        obtain ⟨y0, y1, y2, y3⟩ := RF.out.cells
        refine bodyPost_ret (ent_results _ _ _ _ _ _ _ (by rfl) y0 y1 y2 y3) rfl ?_
        exact ⟨_, _, _, _, rfl, LD.out.1.more (by omega), LD.out.2⟩
      · go_wp2_with fail
        refine (pick_any _ g _ _ (S6.out.rd.alloc _) (by omega) (by omega)).mono ?_
        rintro e w7 ⟨v7, rfl, hv7, _, hr7, hg7⟩
        have h7 := hv7 (by omega)
        obtain ⟨z, hz, _⟩ := table_at [-1, 8] _ rfl (block_kept (new_block w6 _) hg7 (by have := S6.out.rd.lt; omega)) (v := v7) (by simp; omega)
        have S7 := Lib.hid ((S6.out.alloc _).step hgl hr7 hg7)
        have a0 := S7.out.eb.free.2.1
        have c0 := S7.out.eb.cells.2.1
        have S8 := Lib.hid (S7.out.wrote hgl 1 (.int .i64 z) (S7.out.eb.set1 z))
        clear hr7 hg7 hv7 S6 S7
        go_upto_region 13 with fail
        clear a0 c0 hz h7
        generalize w7.setCell ⟨w3.heap.size, 1, none⟩ (.int .i64 z) = w8 at *
        obtain ⟨c0, c1, c2, c3⟩ := S8.out.eb.cells
        obtain ⟨f0, f1, f2, f3⟩ := S8.out.rb.free
        obtain ⟨z0, z1, z2, z3⟩ := S8.out.rb.cells
        have LD := Lib.hid (S8.out.laid hgl (.int .i64 (1 + (v1 : Int))) (.int .i64 (z)) (.int .i64 (1 + (v3 : Int))) (.int .i64 (pz)))
        have RF := Lib.hid ((((S8.out.rb.set0 (1 + (v1 : Int))).set1 (z)).set2 (1 + (v3 : Int))).set3 (pz))
        go_wp2_with fail
        obtain ⟨y0, y1, y2, y3⟩ := RF.out.cells
        refine bodyPost_ret (ent_results _ _ _ _ _ _ _ (by rfl) y0 y1 y2 y3) rfl ?_
        exact ⟨_, _, _, _, rfl, LD.out.1.more (by omega), LD.out.2⟩
      · go_wp2_with fail
        refine (pick_any _ g _ _ (S6.out.rd.alloc _) (by omega) (by omega)).mono ?_
        rintro e w7 ⟨v7, rfl, hv7, _, hr7, hg7⟩
        have h7 := hv7 (by omega)
        obtain ⟨z, hz, _⟩ := table_at [0, 6] _ rfl (block_kept (new_block w6 _) hg7 (by have := S6.out.rd.lt; omega)) (v := v7) (by simp; omega)
        have S7 := Lib.hid ((S6.out.alloc _).step hgl hr7 hg7)
        have a0 := S7.out.eb.free.2.2.1
        have c0 := S7.out.eb.cells.2.2.1
        have S8 := Lib.hid (S7.out.wrote hgl 2 (.int .i64 z) (S7.out.eb.set2 z))
        clear hr7 hg7 hv7 S6 S7
        go_upto_region 13 with fail
        clear a0 c0 hz h7
        generalize w7.setCell ⟨w3.heap.size, 2, none⟩ (.int .i64 z) = w8 at *
        obtain ⟨c0, c1, c2, c3⟩ := S8.out.eb.cells
        obtain ⟨f0, f1, f2, f3⟩ := S8.out.rb.free
        obtain ⟨z0, z1, z2, z3⟩ := S8.out.rb.cells
        have LD := Lib.hid (S8.out.laid hgl (.int .i64 (1 + (v1 : Int))) (.int .i64 ((v2 : Int))) (.int .i64 (z)) (.int .i64 (pz)))
        have RF := Lib.hid ((((S8.out.rb.set0 (1 + (v1 : Int))).set1 ((v2 : Int))).set2 (z)).set3 (pz))
        go_wp2_with fail
        obtain ⟨y0, y1, y2, y3⟩ := RF.out.cells
        refine bodyPost_ret (ent_results _ _ _ _ _ _ _ (by rfl) y0 y1 y2 y3) rfl ?_
        exact ⟨_, _, _, _, rfl, LD.out.1.more (by omega), LD.out.2⟩
      · go_wp2_with (go_at_call 54; refine (sEntCap_any _ _).mono ?_; rw [hc50]; rintro e w' ⟨rfl, rfl⟩)
        refine (pick_any _ g _ _ (S6.out.rd.alloc _) (by omega) (by omega)).mono ?_
        rintro e w7 ⟨v7, rfl, hv7, _, hr7, hg7⟩
        have h7 := hv7 (by omega)
        obtain ⟨z, hz, _⟩ := table_at [0, -1, 51, 60, 61] _ rfl (block_kept (new_block w6 _) hg7 (by have := S6.out.rd.lt; omega)) (v := v7) (by simp; omega)
        have S7 := Lib.hid ((S6.out.alloc _).step hgl hr7 hg7)
        have a0 := S7.out.eb.free.2.2.2
        have c0 := S7.out.eb.cells.2.2.2
        have S8 := Lib.hid (S7.out.wrote hgl 3 (.int .i64 z) (S7.out.eb.set3 z))
        clear hr7 hg7 hv7 S6 S7
        go_upto_region 13 with fail
        clear a0 c0 hz h7
        generalize w7.setCell ⟨w3.heap.size, 3, none⟩ (.int .i64 z) = w8 at *
        obtain ⟨c0, c1, c2, c3⟩ := S8.out.eb.cells
        obtain ⟨f0, f1, f2, f3⟩ := S8.out.rb.free
        obtain ⟨z0, z1, z2, z3⟩ := S8.out.rb.cells
        have LD := Lib.hid (S8.out.laid hgl (.int .i64 (1 + (v1 : Int))) (.int .i64 ((v2 : Int))) (.int .i64 (1 + (v3 : Int))) (.int .i64 (z)))
        have RF := Lib.hid ((((S8.out.rb.set0 (1 + (v1 : Int))).set1 ((v2 : Int))).set2 (1 + (v3 : Int))).set3 (z))
        go_wp2_with fail
        obtain ⟨y0, y1, y2, y3⟩ := RF.out.cells
        refine bodyPost_ret (ent_results _ _ _ _ _ _ _ (by rfl) y0 y1 y2 y3) rfl ?_
        exact ⟨_, _, _, _, rfl, LD.out.1.more (by omega), LD.out.2⟩
end Go.Proofs.Ytbgljjmmominbaa

