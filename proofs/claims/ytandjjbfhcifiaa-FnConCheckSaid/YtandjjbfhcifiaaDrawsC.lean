/- Contracts: a proof of growth drawn (reference, layer 20). -/
import Derived.Test.YtandjjbfhcifiaaDrawsB
import Derived.Test.YtandjjbfhcifiaaPlainE
namespace Go.Proofs.Ytandjjbfhcifiaa
set_option linter.unusedVariables false
open Go.RowKit Pl

def ConDraw (w : World) (e : Ending) (w' : World) : Prop :=
  ∃ (m old n r : Int) (A2 : Option Addr) (q c2 : Nat) (p : List Int),
    e = .returned (.tuple #[.int .i64 m, .int .i64 old, .int .i64 n, .int .i64 r, .slice A2 q c2]) ∧ p.length = q ∧ q ≤ 100 ∧ q ≤ c2 ∧ RI w' w.heap.size A2 p ∧ Below w.heap.size w w'
/-- on the way: the reader, numbers read, the frame -/
structure WayL (w : World) (g L P : Nat) (w' : World) (A : Option Addr) (p : List Int) : Prop where
  reads : RI w' L A p
  rd : Rd w' g P
  below : Below w.heap.size w w'
  size : L ≤ w'.heap.size
  base : w.heap.size ≤ L
theorem WayL.step {w w1 w2 : World} {g L P Q : Nat} {A : Option Addr} {p : List Int} (h : WayL w g L P w1 A p) (hgl : g < L) (hgs : w.heap.size ≤ g) (hr : Rd w2 g Q) (hg : w1.grownBy w2 (some g)) : WayL w g L Q w2 A p :=
  ⟨h.reads.kept hg hgl, hr, h.below.trans ⟨hg.os, hg.tape, hg.output, hg.size, fun k hk => hg.block k (by have := h.below.size; omega) (by simp; omega)⟩, Nat.le_trans h.size hg.size, h.base⟩
theorem WayL.alloc {w w1 : World} {g L P : Nat} {A : Option Addr} {p : List Int} (h : WayL w g L P w1 A p) (o : Obj) : WayL w g L P (w1.alloc o) A p :=
  ⟨h.reads.alloc o, h.rd.alloc o, h.below.alloc h.below.size o, by have := h.size; simp; omega, h.base⟩
theorem WayL.drewN {w w1 : World} {g L P : Nat} {A : Option Addr} {p : List Int} (h : WayL w g L P w1 A p) (k : Nat) : WayL w g L P (w1.drewN k) A p := ⟨h.reads.drewN k, h.rd.drewN k, below_drewN h.below k, h.size, h.base⟩
/-- a call has built a row -/
theorem WayL.built {w w1 w2 : World} {g L P : Nat} {A B : Option Addr} {p q : List Int} {n c : Nat} (h : WayL w g L P w1 A p) (hgl : g < L) (ho : OwnI w2 w1.heap.size B n c q) (hb : Below w1.heap.size w1 w2) : WayL w g L P w2 B q :=
  ⟨(RK.of_own ho).less h.size, h.rd.below hb (by have := h.size; omega), h.below.trans (hb.mono h.below.size), Nat.le_trans h.size hb.size, h.base⟩
set_option maxHeartbeats 8000000 in
theorem DrawConCheck_any (w : World) (A : Option Addr) (n c : Nat) (bs : List Int) (h : Bytes w A n c bs) (hn : n ≤ 140737488351232) : Calls Try.prog 52 #[.slice A n c] w (ConDraw w) := by
  go_enter Try.func52, Try.ntmps52
  go_wp2_with fail
  refine (open_any _ A n c bs h hn).mono ?_
  rintro e w1 ⟨rfl, hr1, hb1⟩
  have hgl := hr1.lt
  have hgs := hb1.size
  have HB1 := Lib.hid hb1
  go_wp2_with fail
  refine (leaves_any _ _ _ _ hr1 (by omega) (by omega) (by omega)).mono ?_
  rintro e w2 ⟨A2, n2, c2, xs, rfl, hl, hn2, ho, hr2, hg2⟩
  have W2 := Lib.hid (show WayL w w.heap.size w1.heap.size 300 w2 A2 xs from ⟨RK.of_own ho, hr2.more (by omega), HB1.out.trans (below_of_grown hg2 hgs), hg2.size, hgs⟩)
  have HL := Lib.hid hl
  have hnc := own_cap ho
  clear h hl ho hr1 hb1 hr2 hg2
  by_cases h0 : n2 = 0
  · subst h0
    have W2b := Lib.hid (show WayL w w.heap.size w1.heap.size 300 (w2.alloc (.cells #[.int .i64 4] 3)) (some ⟨w2.heap.size, 0, none⟩) [4] from ⟨(RK.of_own (own_lit w2 w2.heap.size [4] _ (Nat.le_refl _) rfl (by simp))).less W2.out.size, (W2.out.alloc _).rd, (W2.out.alloc _).below, (W2.out.alloc _).size, hgs⟩)
    have HL1 := Lib.hid (show ([4] : List Int).length = 1 from rfl)
    go_wp2_with fail
    refine (pick_any _ _ _ _ W2b.out.rd (by omega) (by omega)).mono ?_
    rintro e w3 ⟨v, rfl, hv1, _, hr3, hg3⟩
    have hv := hv1 (by omega)
    have W3 := Lib.hid (W2b.out.step hgl (Nat.le_refl _) hr3 hg3)
    have LT := Lib.hid (show (([4] : List Int).take (1 + v)).length = 1 + v by have := HL1.out; simp only [List.length_take]; omega)
    have hvc : 1 + v ≤ 1 := by omega
    have hvn : 1 + v ≤ 1 := by omega
    clear hv1 hr3 hg3
    go_wp2_with fail
    refine (sTreRoot_any _ (1 + v) 1 w1.heap.size (([4] : List Int).take (1 + v)) _ LT.out (by omega) (W3.out.reads.take _) (by omega)).mono ?_
    rintro e w4 ⟨rfl, k4, rfl⟩
    go_wp2_with fail
    refine (sTreRoot_any _ 1 1 w1.heap.size ([4] : List Int) _ HL1.out (by omega) (W3.out.drewN _).reads (by omega)).mono ?_
    rintro e w5 ⟨rfl, k5, rfl⟩
    go_wp2_with fail
    refine (sConProof_any _ 1 1 w1.heap.size _ ([4] : List Int) _ HL1.out (by omega) (by omega) (W3.out.drewN _).reads).mono ?_
    rintro e w6 ⟨A6, q, c6, rfl, hq, own6, hb6⟩
    have hq40 : q ≤ 40 := by rw [← hq]; exact conProof_few _ _
    have HQ := Lib.hid hq
    have hqc := own_cap own6
    have N6 := Lib.hid (show A6 = none → q = 0 ∧ c6 = 0 from fun e => by subst e; exact own_none own6)
    have W6 := Lib.hid ((W3.out.drewN _).built hgl own6 hb6)
    clear own6 hb6 hq W3
    generalize conProof _ _ = p at *
    generalize treeRoot _ = r1 at *
    generalize treeRoot _ = r2 at *
    go_wp2_with fail
    refine (pick_any _ _ _ _ W6.out.rd (by omega) (by omega)).mono ?_
    rintro e w7 ⟨u, rfl, hu1, _, hr7, hg7⟩
    have hu := hu1 (by omega)
    have W7 := Lib.hid (W6.out.step hgl (Nat.le_refl _) hr7 hg7)
    have hs7 : w1.heap.size ≤ w7.heap.size := W7.out.size
    have hown0 := own_lit w7 w7.heap.size [] #[] (Nat.le_refl _) rfl (by simp)
    clear hu1 hr7 hg7 W6
    have hu7 : u = 0 ∨ u = 1 ∨ u = 2 ∨ u = 3 ∨ 4 ≤ u := by omega
    rcases hu7 with rfl | rfl | rfl | rfl | hu4
    · go_wp2_with fail
      refine (mix_any _ _ _ _ W7.out.rd (by omega) (by omega) (by omega)).mono ?_
      rintro e w8 ⟨y, rfl, hr8, hg8⟩
      have W8 := Lib.hid (W7.out.step hgl (Nat.le_refl _) hr8 hg8)
      clear hr8 hg8
      go_wp2_with fail
      refine bodyPost_ret (results_tmp5 rfl _ _ _) rfl ?_
      exact ⟨_, _, _, _, _, _, _, p, rfl, HQ.out, by omega, hqc, W8.out.reads.less hgs, W8.out.below⟩
    · go_wp2_with fail
      refine (mix_any _ _ _ _ W7.out.rd (by omega) (by omega) (by omega)).mono ?_
      rintro e w8 ⟨y, rfl, hr8, hg8⟩
      have W8 := Lib.hid (W7.out.step hgl (Nat.le_refl _) hr8 hg8)
      clear hr8 hg8
      go_wp2_with fail
      refine bodyPost_ret (results_tmp5 rfl _ _ _) rfl ?_
      exact ⟨_, _, _, _, _, _, _, p, rfl, HQ.out, by omega, hqc, W8.out.reads.less hgs, W8.out.below⟩
    · by_cases hm0 : q = 0
      · subst hm0
        go_wp2_with fail
        refine bodyPost_ret (results_tmp5 rfl _ _ _) rfl ?_
        exact ⟨_, _, _, _, _, _, _, p, rfl, HQ.out, by omega, hqc, W7.out.reads.less hgs, W7.out.below⟩
      · have hm1 : 0 < q := by omega
        clear hm0
        go_wp2_with (at_builtin; refine wpList_spread_any rfl _ _ rfl w7.heap.size _ 0 0 [] A6 q c6 w1.heap.size p rfl rfl hown0 HQ.out N6.out (W7.out.alloc _).reads (by omega) (by simp) ?_; intro A8 c8 w8 hown8 hb8 hg8; rw [List.nil_append, Nat.zero_add] at hown8; obtain ⟨g8, c8', hv8, hB8, hlt8⟩ := World.ownsRow.form hown8 (by omega); injection hv8 with e1 _ e3; subst e1 e3; have O8 := Lib.hid hown8; have W8 := Lib.hid (W7.out.built hgl hown8 (((Below.refl _ _).alloc (Nat.le_refl _) _).trans hb8)); clear hown8 hb8 hg8)
        refine (pick_any _ _ _ _ W8.out.rd (by omega) (by omega)).mono ?_
        rintro e w9 ⟨x, rfl, hx1, _, hr9, hg9⟩
        have hx := hx1 (by omega)
        have W9 := Lib.hid (W8.out.step hgl (Nat.le_refl _) hr9 hg9)
        have O9 := Lib.hid (own_kept O8.out hg9 (by omega))
        clear hx1 hr9 hg9 W8 O8
        go_wp2_with fail
        refine (mix_any _ _ _ _ W9.out.rd (by omega) (by omega) (by omega)).mono ?_
        rintro e wa ⟨y, rfl, hra, hga⟩
        have Wa := Lib.hid (W9.out.step hgl (Nat.le_refl _) hra hga)
        have Oa := Lib.hid (own_kept O9.out hga (by omega))
        clear hra hga W9 O9
        have hd := own_cell Oa.out (j := x) (by omega)
        have hf := World.ownsRow.frozenAt Oa.out x
        have hst := (own_stored Oa.out x y).1
        have hcc := own_cap Oa.out
        have BE := Lib.hid (Wa.out.below.setCell (p := ⟨g8, x, none⟩) (show w.heap.size ≤ g8 by omega) (.int .i64 y))
        have ST := Lib.hid ((RK.of_own hst).less (show w.heap.size ≤ w7.heap.size by omega))
        clear hst
        generalize p.getD x 0 = pu at *
        go_wp2_with fail
        refine bodyPost_ret (results_tmp5 rfl _ _ _) rfl ?_
        exact ⟨_, _, _, _, _, _, _, p.set x y, rfl, List.length_set.trans HQ.out, by omega, hcc, ST.out, BE.out⟩
    · go_wp2_with fail
      refine (pick_any _ _ _ _ (W7.out.rd.alloc _) (by omega) (by omega)).mono ?_
      rintro e w8 ⟨x, rfl, hx1, _, hr8, hg8⟩
      have hx := hx1 (by omega)
      obtain ⟨z, hz, _⟩ := table_at [0, (1 : Int) + 1, 1 + (v : Int)] _ rfl (block_kept (new_block w7 _) hg8 (by have := W7.out.rd.lt; omega)) (v := x) (by simp; omega)
      have W8 := Lib.hid ((W7.out.alloc _).step hgl (Nat.le_refl _) hr8 hg8)
      clear hr8 hg8 hx1
      go_wp2_with fail
      refine bodyPost_ret (results_tmp5 rfl _ _ _) rfl ?_
      exact ⟨_, _, _, _, _, _, _, p, rfl, HQ.out, by omega, hqc, W8.out.reads.less hgs, W8.out.below⟩
    · have e0 : ((u : Int) == 0) = false := by simp; omega
      have e1 : ((u : Int) == 1) = false := by simp; omega
      have e2 : ((u : Int) == 2) = false := by simp; omega
      have e3 : ((u : Int) == 3) = false := by simp; omega
      go_wp2_with fail
      refine bodyPost_ret (results_tmp5 rfl _ _ _) rfl ?_
      exact ⟨_, _, _, _, _, _, _, p, rfl, HQ.out, by omega, hqc, W7.out.reads.less hgs, W7.out.below⟩
  · have hn1 : 1 ≤ n2 := by omega
    have hnz : ((n2 : Int) == 0) = false := by simp; omega
    go_wp2_with fail
    refine (pick_any _ _ _ _ W2.out.rd (by omega) (by omega)).mono ?_
    rintro e w3 ⟨v, rfl, hv1, _, hr3, hg3⟩
    have hv := hv1 (by omega)
    have W3 := Lib.hid (W2.out.step hgl (Nat.le_refl _) hr3 hg3)
    have LT := Lib.hid (show ((xs).take (1 + v)).length = 1 + v by have := HL.out; simp only [List.length_take]; omega)
    have hvc : 1 + v ≤ c2 := by omega
    have hvn : 1 + v ≤ n2 := by omega
    clear hv1 hr3 hg3
    go_wp2_with fail
    refine (sTreRoot_any _ (1 + v) c2 w1.heap.size ((xs).take (1 + v)) _ LT.out (by omega) (W3.out.reads.take _) (by omega)).mono ?_
    rintro e w4 ⟨rfl, k4, rfl⟩
    go_wp2_with fail
    refine (sTreRoot_any _ n2 c2 w1.heap.size xs _ HL.out (by omega) (W3.out.drewN _).reads (by omega)).mono ?_
    rintro e w5 ⟨rfl, k5, rfl⟩
    go_wp2_with fail
    refine (sConProof_any _ n2 c2 w1.heap.size _ xs _ HL.out (by omega) (by omega) (W3.out.drewN _).reads).mono ?_
    rintro e w6 ⟨A6, q, c6, rfl, hq, own6, hb6⟩
    have hq40 : q ≤ 40 := by rw [← hq]; exact conProof_few _ _
    have HQ := Lib.hid hq
    have hqc := own_cap own6
    have N6 := Lib.hid (show A6 = none → q = 0 ∧ c6 = 0 from fun e => by subst e; exact own_none own6)
    have W6 := Lib.hid ((W3.out.drewN _).built hgl own6 hb6)
    clear own6 hb6 hq W3
    generalize conProof _ _ = p at *
    generalize treeRoot _ = r1 at *
    generalize treeRoot _ = r2 at *
    go_wp2_with fail
    refine (pick_any _ _ _ _ W6.out.rd (by omega) (by omega)).mono ?_
    rintro e w7 ⟨u, rfl, hu1, _, hr7, hg7⟩
    have hu := hu1 (by omega)
    have W7 := Lib.hid (W6.out.step hgl (Nat.le_refl _) hr7 hg7)
    have hs7 : w1.heap.size ≤ w7.heap.size := W7.out.size
    have hown0 := own_lit w7 w7.heap.size [] #[] (Nat.le_refl _) rfl (by simp)
    clear hu1 hr7 hg7 W6
    have hu7 : u = 0 ∨ u = 1 ∨ u = 2 ∨ u = 3 ∨ 4 ≤ u := by omega
    rcases hu7 with rfl | rfl | rfl | rfl | hu4
    · go_wp2_with fail
      refine (mix_any _ _ _ _ W7.out.rd (by omega) (by omega) (by omega)).mono ?_
      rintro e w8 ⟨y, rfl, hr8, hg8⟩
      have W8 := Lib.hid (W7.out.step hgl (Nat.le_refl _) hr8 hg8)
      clear hr8 hg8
      go_wp2_with fail
      refine bodyPost_ret (results_tmp5 rfl _ _ _) rfl ?_
      exact ⟨_, _, _, _, _, _, _, p, rfl, HQ.out, by omega, hqc, W8.out.reads.less hgs, W8.out.below⟩
    · go_wp2_with fail
      refine (mix_any _ _ _ _ W7.out.rd (by omega) (by omega) (by omega)).mono ?_
      rintro e w8 ⟨y, rfl, hr8, hg8⟩
      have W8 := Lib.hid (W7.out.step hgl (Nat.le_refl _) hr8 hg8)
      clear hr8 hg8
      go_wp2_with fail
      refine bodyPost_ret (results_tmp5 rfl _ _ _) rfl ?_
      exact ⟨_, _, _, _, _, _, _, p, rfl, HQ.out, by omega, hqc, W8.out.reads.less hgs, W8.out.below⟩
    · by_cases hm0 : q = 0
      · subst hm0
        go_wp2_with fail
        refine bodyPost_ret (results_tmp5 rfl _ _ _) rfl ?_
        exact ⟨_, _, _, _, _, _, _, p, rfl, HQ.out, by omega, hqc, W7.out.reads.less hgs, W7.out.below⟩
      · have hm1 : 0 < q := by omega
        clear hm0
        go_wp2_with (at_builtin; refine wpList_spread_any rfl _ _ rfl w7.heap.size _ 0 0 [] A6 q c6 w1.heap.size p rfl rfl hown0 HQ.out N6.out (W7.out.alloc _).reads (by omega) (by simp) ?_; intro A8 c8 w8 hown8 hb8 hg8; rw [List.nil_append, Nat.zero_add] at hown8; obtain ⟨g8, c8', hv8, hB8, hlt8⟩ := World.ownsRow.form hown8 (by omega); injection hv8 with e1 _ e3; subst e1 e3; have O8 := Lib.hid hown8; have W8 := Lib.hid (W7.out.built hgl hown8 (((Below.refl _ _).alloc (Nat.le_refl _) _).trans hb8)); clear hown8 hb8 hg8)
        refine (pick_any _ _ _ _ W8.out.rd (by omega) (by omega)).mono ?_
        rintro e w9 ⟨x, rfl, hx1, _, hr9, hg9⟩
        have hx := hx1 (by omega)
        have W9 := Lib.hid (W8.out.step hgl (Nat.le_refl _) hr9 hg9)
        have O9 := Lib.hid (own_kept O8.out hg9 (by omega))
        clear hx1 hr9 hg9 W8 O8
        go_wp2_with fail
        refine (mix_any _ _ _ _ W9.out.rd (by omega) (by omega) (by omega)).mono ?_
        rintro e wa ⟨y, rfl, hra, hga⟩
        have Wa := Lib.hid (W9.out.step hgl (Nat.le_refl _) hra hga)
        have Oa := Lib.hid (own_kept O9.out hga (by omega))
        clear hra hga W9 O9
        have hd := own_cell Oa.out (j := x) (by omega)
        have hf := World.ownsRow.frozenAt Oa.out x
        have hst := (own_stored Oa.out x y).1
        have hcc := own_cap Oa.out
        have BE := Lib.hid (Wa.out.below.setCell (p := ⟨g8, x, none⟩) (show w.heap.size ≤ g8 by omega) (.int .i64 y))
        have ST := Lib.hid ((RK.of_own hst).less (show w.heap.size ≤ w7.heap.size by omega))
        clear hst
        generalize p.getD x 0 = pu at *
        go_wp2_with fail
        refine bodyPost_ret (results_tmp5 rfl _ _ _) rfl ?_
        exact ⟨_, _, _, _, _, _, _, p.set x y, rfl, List.length_set.trans HQ.out, by omega, hcc, ST.out, BE.out⟩
    · go_wp2_with fail
      refine (pick_any _ _ _ _ (W7.out.rd.alloc _) (by omega) (by omega)).mono ?_
      rintro e w8 ⟨x, rfl, hx1, _, hr8, hg8⟩
      have hx := hx1 (by omega)
      obtain ⟨z, hz, _⟩ := table_at [0, (n2 : Int) + 1, 1 + (v : Int)] _ rfl (block_kept (new_block w7 _) hg8 (by have := W7.out.rd.lt; omega)) (v := x) (by simp; omega)
      have W8 := Lib.hid ((W7.out.alloc _).step hgl (Nat.le_refl _) hr8 hg8)
      clear hr8 hg8 hx1
      go_wp2_with fail
      refine bodyPost_ret (results_tmp5 rfl _ _ _) rfl ?_
      exact ⟨_, _, _, _, _, _, _, p, rfl, HQ.out, by omega, hqc, W8.out.reads.less hgs, W8.out.below⟩
    · have e0 : ((u : Int) == 0) = false := by simp; omega
      have e1 : ((u : Int) == 1) = false := by simp; omega
      have e2 : ((u : Int) == 2) = false := by simp; omega
      have e3 : ((u : Int) == 3) = false := by simp; omega
      go_wp2_with fail
      refine bodyPost_ret (results_tmp5 rfl _ _ _) rfl ?_
      exact ⟨_, _, _, _, _, _, _, p, rfl, HQ.out, by omega, hqc, W7.out.reads.less hgs, W7.out.below⟩
end Go.Proofs.Ytandjjbfhcifiaa
