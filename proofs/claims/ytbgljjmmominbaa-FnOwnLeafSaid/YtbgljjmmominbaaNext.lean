/- Contracts: an entry drawn that may follow (reference, layer 20). -/
import Derived.Test.YtbgljjmmominbaaRowsD
import Derived.Deep.Cut
namespace Go.Proofs.Ytbgljjmmominbaa
set_option linter.unusedVariables false
open Go.RowKit Pl
/-- a block of a row -/
def RBox (H : Nat) (w : World) (u f : Int) (b : Bool) : Prop := w.heap[H]? = some (.cells #[.int .i64 u, .int .i64 f, .bool b] 31 (0, 0))
section
variable {H g : Nat} {w w' : World} {u f : Int} {b : Bool}
theorem RBox.lt (h : RBox H w u f b) : H < w.heap.size := (Array.getElem?_eq_some_iff.1 h).1
theorem RBox.cells (h : RBox H w u f b) : w.cell? ⟨H, 0, none⟩ = some (.int .i64 u) ∧ w.cell? ⟨H, 1, none⟩ = some (.int .i64 f) ∧ w.cell? ⟨H, 2, none⟩ = some (.bool b) := by
  refine ⟨?_, ?_, ?_⟩
  all_goals
    rw [cell_of_row w H _ _ _ _ h]; rfl
theorem RBox.free (h : RBox H w u f b) : w.frozen? ⟨H, 0, none⟩ = false ∧ w.frozen? ⟨H, 1, none⟩ = false ∧ w.frozen? ⟨H, 2, none⟩ = false := by
  refine ⟨?_, ?_, ?_⟩
  all_goals
    unfold World.frozen?; rw [h]; rfl
theorem RBox.new (w : World) (u f : Int) (b : Bool) : RBox w.heap.size (w.alloc (.cells #[.int .i64 u, .int .i64 f, .bool b] 31)) u f b := heap_alloc_new w _
theorem RBox.read (h : RBox H w u f b) (hg : w.grownBy w' (some g)) (hne : H ≠ g) : RBox H w' u f b := (hg.block H h.lt (by simpa using hne)).trans h
theorem RBox.far (h : RBox H w u f b) {a : Addr} (ha : a.block ≠ H) (v : Value) : RBox H (w.setCell a v) u f b := (Below.heap_setCell w a v H (fun e => ha e.symm)).trans h
theorem RBox.below (h : RBox H w u f b) (hb : Below w.heap.size w w') : RBox H w' u f b := (hb.block H h.lt).trans h
theorem RBox.alloc (h : RBox H w u f b) (o : Obj) : RBox H (w.alloc o) u f b := (((Below.refl w.heap.size w).alloc (Nat.le_refl _) o).block H h.lt).trans h
theorem RBox.drew (h : RBox H w u f b) : RBox H w.drew u f b := h
theorem RBox.set0 (h : RBox H w u f b) (z : Int) : RBox H (w.setCell ⟨H, 0, none⟩ (.int .i64 z)) z f b := by
  unfold RBox at *; simp [World.setCell, Array.getElem?_modify, h]
theorem RBox.set1 (h : RBox H w u f b) (z : Int) : RBox H (w.setCell ⟨H, 1, none⟩ (.int .i64 z)) u z b := by
  unfold RBox at *; simp [World.setCell, Array.getElem?_modify, h]
theorem RBox.set2 (h : RBox H w u f b) (z : Bool) : RBox H (w.setCell ⟨H, 2, none⟩ (.bool z)) u f z := by
  unfold RBox at *; simp [World.setCell, Array.getElem?_modify, h]
end
theorem RV.far {w : World} {L : Nat} {A : Option Addr} {vs : List Value} (h : RV w L A vs) {p : Addr} (hp : p.block < L) (u : Value) : RV (w.setCell p u) L A vs := fun hl => by
  obtain ⟨b, o, e, hL, hlt, hc⟩ := h hl
  refine ⟨b, o, e, hL, by simpa [World.setCell] using hlt, fun j v hv => (World.cell?_setCell_other w p _ u ?_).trans (hc j v hv)⟩
  intro e'
  subst e'
  have hp' : b < L := hp
  omega
theorem St.below {w w1 w2 : World} {g P H : Nat} {k t u p : Int} (h : St w g P w1 H k t u p) (hgl : g < w.heap.size) (hb : Below w1.heap.size w1 w2) : St w g P w2 H k t u p :=
  ⟨h.rd.below hb h.rd.lt, grownBy_below h.grown hb h.grown.size, h.eb.below hb, h.rb.below hb, h.lt⟩
theorem ent_ticket {k t u p : Int} (h : entOk k t u p = true) : 0 ≤ t ∧ t ≤ 7 := okE_t (e := ⟨k, t, u, p⟩) h
theorem next_results (tmps : Array Value) (W : World) (H : Nat) (k t u p : Int) (hp : tmps[4]?.getD undef = .pointer (some ⟨H, 0, none⟩)) (y0 : W.cell? ⟨H, 0, none⟩ = some (.int .i64 k)) (y1 : W.cell? ⟨H, 1, none⟩ = some (.int .i64 t)) (y2 : W.cell? ⟨H, 2, none⟩ = some (.int .i64 u)) (y3 : W.cell? ⟨H, 3, none⟩ = some (.int .i64 p)) :
    (results Try.f90 tmps).run Try.prog W = .ok (.agg #[.int .i64 k, .int .i64 t, .int .i64 u, .int .i64 p]) W := by
  simp [results, Try.results90, go_sem, hp, y0, y1, y2, y3]
def NextRes (w : World) (g P : Nat) (e : Ending) (w' : World) : Prop := ∃ k t u p : Int, e = .returned (.agg #[.int .i64 k, .int .i64 t, .int .i64 u, .int .i64 p]) ∧ Rd w' g (P + 50) ∧ w.grownBy w' (some g)
set_option maxHeartbeats 8000000 in
theorem next_any (w : World) (g P : Nat) (A : Option Addr) (n c L : Nat) (rs : List Orow) (h : Rd w g P) (hP : P ≤ 700000) (hl : rs.length = n) (hr : RV w L A (flatR rs)) (hgL : g < L) (hn : n ≤ 1500000) : Calls Try.prog 90 #[.pointer (some ⟨g, 0, none⟩), .slice A n c] w (NextRes w g P) := by
  have hgl := h.lt
  have HL := Lib.hid hl
  have HR := Lib.hid hr
  have RB := Lib.hid (EBox.new w 0 0 0 0)
  clear hl hr
  go_enter Try.func90, Try.ntmps90
  go_wp2_with fail
  refine (entry_any _ g P _ (h.alloc _) (by omega) (by omega) (by omega)).mono ?_
  rintro e w1 ⟨k, t, u, p, rfl, hr1, hg1⟩
  have hlt1 := (RB.out.read hg1 (by omega)).lt
  have S1 := Lib.hid (show St w g (P + 30) (w1.alloc (.cells #[.int .i64 k, .int .i64 t, .int .i64 u, .int .i64 p] 25)) w1.heap.size k t u p from
    ⟨hr1.alloc _, grownBy_alloc (grownBy_trans (grownBy_alloc (World.grownBy.refl w (some g)) _) hg1) _, EBox.new w1 _ _ _ _, (RB.out.read hg1 (by omega)).alloc _, hlt1⟩)
  have HR1 := Lib.hid ((((HR.out.alloc (.cells #[.int .i64 0, .int .i64 0, .int .i64 0, .int .i64 0] 25)).grown hg1 (fun r e => by injection e with e; omega)).alloc (.cells #[.int .i64 k, .int .i64 t, .int .i64 u, .int .i64 p] 25)))
  clear hr1 hg1 RB HR h
  cases hok : rowsOk rs
  · have HO := Lib.hid hok
    clear hok
    go_wp2_with fail
    refine (sOwnOk_any _ _ _ _ rs _ HL.out HR1.out (by omega)).mono ?_
    rw [HO.out]
    rintro e w2 ⟨rfl, hb2⟩
    have S2 := Lib.hid (S1.out.below hgl hb2)
    have HR2 := Lib.hid (HR1.out.below hb2)
    clear hb2 S1 HR1
    generalize w1.heap.size = H at *
    obtain ⟨c0, c1, c2, c3⟩ := S2.out.eb.cells
    obtain ⟨f0, f1, f2, f3⟩ := S2.out.rb.free
    obtain ⟨z0, z1, z2, z3⟩ := S2.out.rb.cells
    have LD := Lib.hid (S2.out.laid hgl (.int .i64 (k)) (.int .i64 (t)) (.int .i64 (u)) (.int .i64 (p)))
    have RF := Lib.hid ((((S2.out.rb.set0 (k)).set1 (t)).set2 (u)).set3 (p))
    go_wp2_with fail
    obtain ⟨y0, y1, y2, y3⟩ := RF.out.cells
    refine bodyPost_ret (next_results _ _ _ _ _ _ _ (by rfl) y0 y1 y2 y3) rfl ?_
    exact ⟨_, _, _, _, rfl, LD.out.1.more (by omega), LD.out.2⟩
  · have HO := Lib.hid hok
    clear hok
    go_wp2_with fail
    refine (sOwnOk_any _ _ _ _ rs _ HL.out HR1.out (by omega)).mono ?_
    rw [HO.out]
    rintro e w2 ⟨rfl, hb2⟩
    have S2 := Lib.hid (S1.out.below hgl hb2)
    have HR2 := Lib.hid (HR1.out.below hb2)
    clear hb2 S1 HR1
    generalize w1.heap.size = H at *
    cases hE : entOk k t u p
    · have HE := Lib.hid hE
      clear hE
      obtain ⟨c0, c1, c2, c3⟩ := S2.out.eb.cells
      go_wp2_with fail
      refine (sEntOk_any _ _ _ _ _).mono ?_
      rw [HE.out]
      rintro e w3 ⟨rfl, hb3⟩
      have S3 := Lib.hid (S2.out.below hgl hb3)
      have HR3 := Lib.hid (HR2.out.below hb3)
      clear hb3 S2 HR2 c0 c1 c2 c3
      obtain ⟨c0, c1, c2, c3⟩ := S3.out.eb.cells
      obtain ⟨f0, f1, f2, f3⟩ := S3.out.rb.free
      obtain ⟨z0, z1, z2, z3⟩ := S3.out.rb.cells
      have LD := Lib.hid (S3.out.laid hgl (.int .i64 (k)) (.int .i64 (t)) (.int .i64 (u)) (.int .i64 (p)))
      have RF := Lib.hid ((((S3.out.rb.set0 (k)).set1 (t)).set2 (u)).set3 (p))
      go_wp2_with fail
      obtain ⟨y0, y1, y2, y3⟩ := RF.out.cells
      refine bodyPost_ret (next_results _ _ _ _ _ _ _ (by rfl) y0 y1 y2 y3) rfl ?_
      exact ⟨_, _, _, _, rfl, LD.out.1.more (by omega), LD.out.2⟩
    · have HE := Lib.hid hE
      clear hE
      obtain ⟨c0, c1, c2, c3⟩ := S2.out.eb.cells
      go_wp2_with fail
      refine (sEntOk_any _ _ _ _ _).mono ?_
      rw [HE.out]
      rintro e w3 ⟨rfl, hb3⟩
      have S3 := Lib.hid (S2.out.below hgl hb3)
      have HR3 := Lib.hid (HR2.out.below hb3)
      clear hb3 S2 HR2 c0 c1 c2 c3
      go_wp2_with fail
      refine (pick_any _ g _ _ S3.out.rd (by omega) (by omega)).mono ?_
      rintro e w4 ⟨v, rfl, hv1, _, hr4, hg4⟩
      have S4 := Lib.hid (S3.out.step hgl hr4 hg4)
      have HR4 := Lib.hid (HR3.out.grown hg4 (fun r e => by injection e with e; omega))
      clear hr4 hg4 S3 HR3 hv1
      by_cases hv0 : 0 < v
      · have ht := ent_ticket HE.out
        obtain ⟨ht0, ht7⟩ := ht
        obtain ⟨tn, rfl⟩ := Int.eq_ofNat_of_zero_le ht0
        have hl8 := Lib.hid (rowsOk_len8 HO.out)
        have hn8 : n = 8 := by rw [← HL.out]; exact hl8.out
        subst hn8
        have htn : tn < 8 := by omega
        obtain ⟨b, o, rfl, _, hbs, h1, h2, h3⟩ := HR4.out.atR (j := tn) (by rw [HL.out]; exact htn)
        generalize rs.getD tn r0 = r at *
        obtain ⟨ru, rf, rb⟩ := r
        have p0 : (0 : Int) ≤ (tn : Int) := by omega
        have p1 : (tn : Int) < (8 : Nat) := by omega
        have p2 : (tn : Int) < 8 := by omega
        obtain ⟨c0, c1, c2, c3⟩ := S4.out.eb.cells
        have J5 := Lib.hid (RBox.new w4 ru rf rb)
        have S5 := Lib.hid (S4.out.alloc (.cells #[.int .i64 ru, .int .i64 rf, .bool rb] 31))
        have hne : H ≠ w4.heap.size := by have := S4.out.eb.lt; omega
        have hne0 : w.heap.size ≠ w4.heap.size := by have := S4.out.rb.lt; omega
        have hgJ : w4.heap.size ≠ g := by have := S4.out.rd.lt; omega
        clear S4 HR4
        go_upto_region 6 with fail
        clear c0 c1 c2 c3 h1 h2 h3
        generalize w4.heap.size = J at *
        generalize w4.alloc (.cells #[.int .i64 ru, .int .i64 rf, .bool rb] 31) = w5 at *
        obtain ⟨j0, j1, j2⟩ := J5.out.cells
        by_cases hu : ru = 0
        · subst hu
          obtain ⟨c0, c1, c2, c3⟩ := S5.out.eb.cells
          obtain ⟨f0, f1, f2, f3⟩ := S5.out.eb.free
          have S6 := Lib.hid (S5.out.wrote hgl 0 (.int .i64 1) (S5.out.eb.set0 1))
          go_upto_region 8 with fail
          clear c0 c1 c2 c3 f0 f1 f2 f3 j0 j1 j2 J5 S5
          generalize w5.setCell ⟨H, 0, none⟩ (.int .i64 1) = w6 at *
          obtain ⟨c0, c1, c2, c3⟩ := S6.out.eb.cells
          obtain ⟨f0, f1, f2, f3⟩ := S6.out.eb.free
          have S7 := Lib.hid (S6.out.wrote hgl 3 (.int .i64 10) (S6.out.eb.set3 10))
          go_upto_region 11 with fail
          clear c0 c1 c2 c3 f0 f1 f2 f3 S6
          generalize w6.setCell ⟨H, 3, none⟩ (.int .i64 10) = w7 at *
          obtain ⟨c0, c1, c2, c3⟩ := S7.out.eb.cells
          obtain ⟨f0, f1, f2, f3⟩ := S7.out.rb.free
          obtain ⟨z0, z1, z2, z3⟩ := S7.out.rb.cells
          have LD := Lib.hid (S7.out.laid hgl (.int .i64 (1)) (.int .i64 ((tn : Int))) (.int .i64 (u)) (.int .i64 (10)))
          have RF := Lib.hid ((((S7.out.rb.set0 (1)).set1 ((tn : Int))).set2 (u)).set3 (10))
          go_wp2_with fail
          obtain ⟨y0, y1, y2, y3⟩ := RF.out.cells
          refine bodyPost_ret (next_results _ _ _ _ _ _ _ (by rfl) y0 y1 y2 y3) rfl ?_
          exact ⟨_, _, _, _, rfl, LD.out.1.more (by omega), LD.out.2⟩
        · have hue : (ru == 0) = false := by simpa using hu
          clear hu
          go_wp2_with fail
          refine (pick_any _ g _ _ S5.out.rd (by omega) (by omega)).mono ?_
          rintro e w6 ⟨v6, rfl, hv6, _, hr6, hg6⟩
          have S6 := Lib.hid (S5.out.step hgl hr6 hg6)
          have J6 := Lib.hid (J5.out.read hg6 hgJ)
          clear hr6 hg6 hv6 S5 J5 j0 j1 j2
          obtain ⟨j0, j1, j2⟩ := J6.out.cells
          obtain ⟨c0, c1, c2, c3⟩ := S6.out.eb.cells
          obtain ⟨f0, f1, f2, f3⟩ := S6.out.eb.free
          by_cases hz6 : v6 = 0
          · subst hz6
            have S7 := Lib.hid (((((S6.out.wrote hgl 0 (.int .i64 3) (S6.out.eb.set0 3))).wrote hgl 1 (.int .i64 (tn : Int)) ((S6.out.eb.set0 3).set1 _)).wrote hgl 2 (.int .i64 ru) (((S6.out.eb.set0 3).set1 _).set2 _)).wrote hgl 3 (.int .i64 0) ((((S6.out.eb.set0 3).set1 _).set2 _).set3 _))
            go_upto_region 11 with fail
            clear c0 c1 c2 c3 f0 f1 f2 f3 S6 j0 j1 j2
            generalize (((w6.setCell ⟨H, 0, none⟩ (.int .i64 3)).setCell ⟨H, 1, none⟩ (.int .i64 (tn : Int))).setCell ⟨H, 2, none⟩ (.int .i64 ru)).setCell ⟨H, 3, none⟩ (.int .i64 0) = w7 at *
            obtain ⟨c0, c1, c2, c3⟩ := S7.out.eb.cells
            obtain ⟨f0, f1, f2, f3⟩ := S7.out.rb.free
            obtain ⟨z0, z1, z2, z3⟩ := S7.out.rb.cells
            have LD := Lib.hid (S7.out.laid hgl (.int .i64 (3)) (.int .i64 ((tn : Int))) (.int .i64 (ru)) (.int .i64 (0)))
            have RF := Lib.hid ((((S7.out.rb.set0 (3)).set1 ((tn : Int))).set2 (ru)).set3 (0))
            go_wp2_with fail
            obtain ⟨y0, y1, y2, y3⟩ := RF.out.cells
            refine bodyPost_ret (next_results _ _ _ _ _ _ _ (by rfl) y0 y1 y2 y3) rfl ?_
            exact ⟨_, _, _, _, rfl, LD.out.1.more (by omega), LD.out.2⟩
          · have hzn : ((v6 : Int) == 0) = false := by simp; omega
            clear hz6
            have S7 := Lib.hid (S6.out.wrote hgl 0 (.int .i64 2) (S6.out.eb.set0 2))
            have J7 := Lib.hid (J6.out.far (a := ⟨H, 0, none⟩) (by exact hne) (.int .i64 2))
            go_upto_region 5 with fail
            clear c0 c1 c2 c3 f0 f1 f2 f3 S6 j0 j1 j2 J6
            generalize w6.setCell ⟨H, 0, none⟩ (.int .i64 2) = w7 at *
            obtain ⟨j0, j1, j2⟩ := J7.out.cells
            have hcr := capI_rng rf
            obtain ⟨cr0, cr1⟩ := hcr
            go_wp2_with (go_at_call 54; refine (sEntCap_any _ _).mono ?_; rintro e w' ⟨rfl, rfl⟩)
            refine (pick_any _ g _ _ S7.out.rd (by omega) (by omega)).mono ?_
            rintro e w8 ⟨v8, rfl, hv8, _, hr8, hg8⟩
            have h8 := hv8 (by omega)
            have S8 := Lib.hid (S7.out.step hgl hr8 hg8)
            clear hr8 hg8 hv8 S7 J7 j0 j1 j2
            obtain ⟨c0, c1, c2, c3⟩ := S8.out.eb.cells
            obtain ⟨f0, f1, f2, f3⟩ := S8.out.eb.free
            generalize capI rf = cf at *
            have S9 := Lib.hid (S8.out.wrote hgl 3 (.int .i64 (cf + (v8 : Int))) (S8.out.eb.set3 (cf + (v8 : Int))))
            go_upto_region 11 with fail
            clear c0 c1 c2 c3 f0 f1 f2 f3 S8
            generalize w8.setCell ⟨H, 3, none⟩ (.int .i64 (cf + (v8 : Int))) = w9 at *
            obtain ⟨c0, c1, c2, c3⟩ := S9.out.eb.cells
            obtain ⟨f0, f1, f2, f3⟩ := S9.out.rb.free
            obtain ⟨z0, z1, z2, z3⟩ := S9.out.rb.cells
            have LD := Lib.hid (S9.out.laid hgl (.int .i64 (2)) (.int .i64 ((tn : Int))) (.int .i64 (u)) (.int .i64 (cf + (v8 : Int))))
            have RF := Lib.hid ((((S9.out.rb.set0 (2)).set1 ((tn : Int))).set2 (u)).set3 (cf + (v8 : Int)))
            go_wp2_with fail
            obtain ⟨y0, y1, y2, y3⟩ := RF.out.cells
            refine bodyPost_ret (next_results _ _ _ _ _ _ _ (by rfl) y0 y1 y2 y3) rfl ?_
            exact ⟨_, _, _, _, rfl, LD.out.1.more (by omega), LD.out.2⟩
      · have hv00 : v = 0 := by omega
        subst hv00
        clear hv0
        obtain ⟨c0, c1, c2, c3⟩ := S4.out.eb.cells
        obtain ⟨f0, f1, f2, f3⟩ := S4.out.rb.free
        obtain ⟨z0, z1, z2, z3⟩ := S4.out.rb.cells
        have LD := Lib.hid (S4.out.laid hgl (.int .i64 (k)) (.int .i64 (t)) (.int .i64 (u)) (.int .i64 (p)))
        have RF := Lib.hid ((((S4.out.rb.set0 (k)).set1 (t)).set2 (u)).set3 (p))
        go_wp2_with fail
        obtain ⟨y0, y1, y2, y3⟩ := RF.out.cells
        refine bodyPost_ret (next_results _ _ _ _ _ _ _ (by rfl) y0 y1 y2 y3) rfl ?_
        exact ⟨_, _, _, _, rfl, LD.out.1.more (by omega), LD.out.2⟩
/-- rows in new memory, and an entry -/
def RowsEnt (w : World) (e : Ending) (w' : World) : Prop := ∃ (A : Option Addr) (n c : Nat) (rs : List Orow) (k t u p : Int), e = .returned (.tuple #[.slice A n c, .agg #[.int .i64 k, .int .i64 t, .int .i64 u, .int .i64 p]]) ∧ Rows_ w w' A n c rs
theorem fits_results (tmps : Array Value) (W : World) (H : Nat) (s : Value) (k t u p : Int) (hs : tmps[2]?.getD undef = s) (hp : tmps[3]?.getD undef = .pointer (some ⟨H, 0, none⟩)) (y0 : W.cell? ⟨H, 0, none⟩ = some (.int .i64 k)) (y1 : W.cell? ⟨H, 1, none⟩ = some (.int .i64 t)) (y2 : W.cell? ⟨H, 2, none⟩ = some (.int .i64 u)) (y3 : W.cell? ⟨H, 3, none⟩ = some (.int .i64 p)) :
    (results Try.f69 tmps).run Try.prog W = .ok (.tuple #[s, .agg #[.int .i64 k, .int .i64 t, .int .i64 u, .int .i64 p]]) W := by
  simp [results, Try.results69, go_sem, hs, hp, y0, y1, y2, y3]
set_option maxHeartbeats 1000000 in
theorem DrawOwnFits_any (w : World) (A : Option Addr) (n c : Nat) (bs : List Int) (h : Bytes w A n c bs) (hn : n ≤ 140737488351232) : Calls Try.prog 69 #[.slice A n c] w (RowsEnt w) := by
  have RB := Lib.hid (EBox.new w 0 0 0 0)
  go_enter Try.func69, Try.ntmps69
  go_wp2_with fail
  refine (open_any _ A n c bs (h.alloc _) hn).mono ?_
  rintro e w1 ⟨rfl, hr1, hb1⟩
  have R1 := Lib.hid (RB.out.below hb1)
  have B1 := Lib.hid (((Below.refl w.heap.size w).alloc (Nat.le_refl _) (.cells #[.int .i64 0, .int .i64 0, .int .i64 0, .int .i64 0] 25)).trans (hb1.mono (by simp)))
  have hlt1 := hr1.lt
  have hs : (w.alloc (.cells #[.int .i64 0, .int .i64 0, .int .i64 0, .int .i64 0] 25)).heap.size = w.heap.size + 1 := by simp
  rw [hs] at hr1 hlt1
  clear hb1 RB h
  go_wp2_with fail
  refine (rows_any _ _ _ _ hr1 (by omega) (by omega) (by omega)).mono ?_
  rintro e w2 ⟨A2, n2, c2, rs, rfl, hl2, hn2, hc2, hx2, hr2, hg2⟩
  have R2 := Lib.hid (R1.out.read hg2 (by omega))
  have B2 := Lib.hid (B1.out.trans ((below_of_grown hg2 (Nat.le_of_lt hlt1)).mono (by omega)))
  have hs2 := hg2.size
  have HX2 := Lib.hid hx2
  have HL2 := Lib.hid hl2
  clear hg2 R1 B1 hr1 hx2 hl2
  go_wp2_with fail
  refine (next_any _ _ _ _ _ _ _ rs hr2 (by omega) HL2.out HX2.out (by omega) (by omega)).mono ?_
  rintro e w3 ⟨k, t, u, p, rfl, hr3, hg3⟩
  have R3 := Lib.hid (R2.out.read hg3 (by omega))
  have B3 := Lib.hid (B2.out.trans ((below_of_grown hg3 (by omega)).mono (by omega)))
  have HX3 := Lib.hid (HX2.out.grown hg3 (fun r e => by injection e with e; omega))
  clear hr3 hg3 R2 B2 HX2 hr2
  obtain ⟨f0, f1, f2, f3⟩ := R3.out.free
  obtain ⟨z0, z1, z2, z3⟩ := R3.out.cells
  have RF := Lib.hid ((((R3.out.set0 k).set1 t).set2 u).set3 p)
  have BS := Lib.hid (((((Below.refl w.heap.size w3).setCell (p := ⟨w.heap.size, 0, none⟩) (Nat.le_refl _) (.int .i64 k)).setCell (p := ⟨w.heap.size, 1, none⟩) (Nat.le_refl _) (.int .i64 t)).setCell (p := ⟨w.heap.size, 2, none⟩) (Nat.le_refl _) (.int .i64 u)).setCell (p := ⟨w.heap.size, 3, none⟩) (Nat.le_refl _) (.int .i64 p))
  have hL2 : w.heap.size < w1.heap.size := by omega
  have HX4 := Lib.hid ((((HX3.out.far (p := ⟨w.heap.size, 0, none⟩) hL2 (.int .i64 k)).far (p := ⟨w.heap.size, 1, none⟩) hL2 (.int .i64 t)).far (p := ⟨w.heap.size, 2, none⟩) hL2 (.int .i64 u)).far (p := ⟨w.heap.size, 3, none⟩) hL2 (.int .i64 p))
  go_wp2_with fail
  obtain ⟨y0, y1, y2, y3⟩ := RF.out.cells
  refine bodyPost_ret (fits_results _ _ _ _ _ _ _ _ rfl (by rfl) y0 y1 y2 y3) rfl ?_
  exact ⟨_, _, _, rs, _, _, _, _, rfl, HL2.out, hn2, hc2, HX4.out.less (by omega), B3.out.trans BS.out⟩
end Go.Proofs.Ytbgljjmmominbaa

