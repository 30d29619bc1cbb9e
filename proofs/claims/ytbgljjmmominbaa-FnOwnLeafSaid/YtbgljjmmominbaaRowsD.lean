/- Contracts: how all tickets stand, drawn (reference, layer 20). -/
import Derived.Test.YtbgljjmmominbaaFold
import Derived.Test.YtbgljjmmominbaaDrawF
namespace Go.Proofs.Ytbgljjmmominbaa
set_option linter.unusedVariables false
open Go.RowKit Pl
theorem flatR_drop (es : List Orow) : ∀ k, (flatR es).drop (k * 3) = flatR (es.drop k) := by
  induction es with
  | nil => intro k; simp [flatR]
  | cons x xs ih =>
    intro k
    cases k with
    | zero => simp [flatR]
    | succ k =>
      have := ih k
      simp only [flatR, List.flatMap_cons, List.drop_succ_cons, encR] at this ⊢
      rw [show (k + 1) * 3 = k * 3 + 3 by omega]
      simp [this]
def RowsRes (w : World) (g P : Nat) (e : Ending) (w' : World) : Prop := ∃ A n c rs, e = .returned (.slice A n c) ∧ rs.length = n ∧ n ≤ 8 ∧ n ≤ c ∧ RV w' w.heap.size A (flatR rs) ∧ Rd w' g (P + 1010) ∧ w.grownBy w' (some g)
/-- on the way: the reader, the frame, the rows -/
structure RowSt (w : World) (g P : Nat) (wk : World) (A : Option Addr) (c : Nat) (rs : List Orow) : Prop where
  rd : Rd wk g P
  grown : w.grownBy wk (some g)
  rows : OwnR wk w.heap.size A 8 c rs
section
variable {w w1 w2 : World} {g P Q c : Nat} {A : Option Addr} {rs : List Orow}
theorem RowSt.step (h : RowSt w g P w1 A c rs) (hgl : g < w.heap.size) (hr : Rd w2 g Q) (hg : w1.grownBy w2 (some g)) : RowSt w g Q w2 A c rs := ⟨hr, grownBy_trans h.grown hg, owns_read h.rows hg hgl⟩
theorem RowSt.alloc (h : RowSt w g P w1 A c rs) (o : Obj) : RowSt w g P (w1.alloc o) A c rs := ⟨h.rd.alloc o, grownBy_alloc h.grown o, World.ownsRow.alloc h.rows o⟩
theorem RowSt.done (h : RowSt w g P w1 A c rs) (hQ : P ≤ Q + 1010) : RowsRes w g Q (.returned (.slice A 8 c)) w1 :=
  ⟨A, 8, c, rs, rfl, ownR_len h.rows, by omega, owns_cap h.rows, RV.of_own h.rows, h.rd.more hQ, h.grown⟩
theorem RowSt.set {g2 j i : Nat} (h : RowSt w g P w1 (some ⟨g2, 0, none⟩) c rs) (hgl : g < w.heap.size) (hj : j < 8) (v : Value) (y : Orow) (hi : i < 3) (hy : (encR (rs.getD j r0)).set i v = encR y) :
    RowSt w g P (w1.setCell ⟨g2, j * 3 + i, none⟩ v) (some ⟨g2, 0, none⟩) c (rs.set j y) := by
  have hlt := World.ownsRow.lt h.rows g2 rfl
  have hb : Below w.heap.size w1 (w1.setCell ⟨g2, j * 3 + i, none⟩ v) := (Below.refl _ _).setCell (p := ⟨g2, j * 3 + i, none⟩) hlt.1 v
  exact ⟨h.rd.below hb hgl, grownBy_below h.grown hb (Nat.le_refl _), (ownR_set h.rows hj i v y hi hy).1⟩
end
set_option maxHeartbeats 8000000 in
theorem rows_any (w : World) (g P : Nat) (n : Int) (h : Rd w g P) (hP : P ≤ 400000) (hn : n ≤ 1000000) (hn0 : 0 ≤ n) : Calls Try.prog 89 #[.pointer (some ⟨g, 0, none⟩), .int .i64 n] w (RowsRes w g P) := by
  have hgl := h.lt
  go_enter Try.func89, Try.ntmps89
  go_wp2_with fail
  refine (log_any _ g P _ h (by omega) (by omega) (by omega)).mono ?_
  rintro e w1 ⟨A1, n1, c1, es, rfl, hl1, hn1, ho1, hr1, hg1⟩
  have HL1 := Lib.hid hl1
  have HO1 := Lib.hid ho1
  have HG1 := Lib.hid hg1
  have hs1 := hg1.size
  have hgl1 := hr1.lt
  clear hl1 ho1 hg1 h
  go_wp2_with fail
  refine (sOwnFold_any _ _ _ _ es _ HL1.out (RV.of_own HO1.out) (by omega)).mono ?_
  rintro e w2 ⟨A2, n2, c2, rfl, hl2, ho2, hb2⟩
  have HR2 := Lib.hid (hr1.below hb2 hgl1)
  have HG2 := Lib.hid (grownBy_below HG1.out hb2 hs1)
  have HO2 := Lib.hid (owns_less ho2 hs1)
  have hs2 : w.heap.size ≤ w2.heap.size := HG2.out.size
  clear ho2 hb2 hr1 HO1 HG1 HL1 hs1 hgl1 hl2
  generalize (ownFold es).1 = rs at *
  generalize (ownFold es).2 = okf at *
  by_cases h8 : n2 = 8
  · subst h8
    have S := Lib.hid (show RowSt w g (P + 1000) w2 A2 c2 rs from ⟨HR2.out, HG2.out, HO2.out⟩)
    generalize c2 = c at *
    obtain ⟨g2, c', hv, hB, hlt2⟩ := World.ownsRow.form S.out.rows (by omega)
    injection hv with e1 _ e3
    subst e1 e3
    clear HO2
    have hc8 : 8 ≤ c := owns_cap S.out.rows
    go_wp2_with fail
    refine Calls.mono (odd_any _ g _ n S.out.rd (by omega) hn hn0) ?_
    rintro e w4 ⟨bo, rfl, hr4, hg4⟩
    have S4 := Lib.hid (S.out.step hgl hr4 hg4)
    clear hr4 hg4 S
    cases bo
    · go_wp2_with fail
      go_ret
      exact S4.out.done (by omega)
    · go_wp2_with fail
      refine Calls.mono (pick_any _ g _ _ S4.out.rd (by omega) (by omega)) ?_
      rintro e w5 ⟨k7, rfl, hk, _, hr5, hg5⟩
      have hk8 : k7 < 8 := by have := hk (by omega); omega
      have S5 := Lib.hid (S4.out.step hgl hr5 hg5)
      clear hr5 hg5 hk S4
      go_wp2_with fail
      refine Calls.mono (pick_any _ g _ _ S5.out.rd (by omega) (by omega)) ?_
      rintro e w6 ⟨v6, rfl, hv6, _, hr6, hg6⟩
      have hv4 : v6 < 4 := by have := hv6 (by omega); omega
      have S6 := Lib.hid (S5.out.step hgl hr6 hg6)
      clear hr6 hg6 hv6 S5
      have h6c : v6 = 0 ∨ v6 = 1 ∨ v6 = 2 ∨ v6 = 3 := by omega
      clear hv4
      rcases h6c with rfl | rfl | rfl | rfl
      · go_wp2_with fail
        refine Calls.mono (pick_any _ g _ _ (S6.out.rd.alloc _) (by omega) (by omega)) ?_
        rintro e w7 ⟨v7, rfl, hv7, _, hr7, hg7⟩
        have h7 : v7 < 3 := by have := hv7 (by omega); omega
        obtain ⟨z, hz, _⟩ := table_at [-1, 6, 0] _ rfl (block_kept (new_block w6 _) hg7 (by have := S6.out.rd.lt; omega)) (v := v7) (by simpa using h7)
        have S7 := Lib.hid ((S6.out.alloc _).step hgl hr7 hg7)
        obtain ⟨d0, d1, d2⟩ := ownR_cells S7.out.rows hk8
        have f0 := World.ownsRow.frozenAt S7.out.rows (k7 * 3)
        have f1 := World.ownsRow.frozenAt S7.out.rows (k7 * 3 + 1)
        have f2 := World.ownsRow.frozenAt S7.out.rows (k7 * 3 + 2)
        have S8 := Lib.hid (S7.out.set hgl hk8 (i := 0) (.int .i64 z) ⟨z, (rs.getD k7 r0).f, (rs.getD k7 r0).b⟩ (by omega) rfl)
        clear hr7 hg7 hv7 S6 S7
        generalize rs.getD k7 r0 = r at *
        go_wp2_with fail
        go_ret
        exact S8.out.done (by omega)
      · go_wp2_with fail
        refine Calls.mono (pick_any _ g _ _ (S6.out.rd.alloc _) (by omega) (by omega)) ?_
        rintro e w7 ⟨v7, rfl, hv7, _, hr7, hg7⟩
        have h7 : v7 < 3 := by have := hv7 (by omega); omega
        obtain ⟨z, hz, _⟩ := table_at [0, -1, 51] _ rfl (block_kept (new_block w6 _) hg7 (by have := S6.out.rd.lt; omega)) (v := v7) (by simpa using h7)
        have S7 := Lib.hid ((S6.out.alloc _).step hgl hr7 hg7)
        obtain ⟨d0, d1, d2⟩ := ownR_cells S7.out.rows hk8
        have f0 := World.ownsRow.frozenAt S7.out.rows (k7 * 3)
        have f1 := World.ownsRow.frozenAt S7.out.rows (k7 * 3 + 1)
        have f2 := World.ownsRow.frozenAt S7.out.rows (k7 * 3 + 2)
        have S8 := Lib.hid (S7.out.set hgl hk8 (i := 1) (.int .i64 z) ⟨(rs.getD k7 r0).u, z, (rs.getD k7 r0).b⟩ (by omega) rfl)
        clear hr7 hg7 hv7 S6 S7
        generalize rs.getD k7 r0 = r at *
        go_wp2_with fail
        go_ret
        exact S8.out.done (by omega)
      · obtain ⟨d0, d1, d2⟩ := ownR_cells S6.out.rows hk8
        have f0 := World.ownsRow.frozenAt S6.out.rows (k7 * 3)
        have f1 := World.ownsRow.frozenAt S6.out.rows (k7 * 3 + 1)
        have f2 := World.ownsRow.frozenAt S6.out.rows (k7 * 3 + 2)
        have S8 := Lib.hid (S6.out.set hgl hk8 (i := 2) (.bool (!(rs.getD k7 r0).b)) ⟨(rs.getD k7 r0).u, (rs.getD k7 r0).f, !(rs.getD k7 r0).b⟩ (by omega) rfl)
        clear S6
        generalize rs.getD k7 r0 = r at *
        go_wp2_with fail
        go_ret
        exact S8.out.done (by omega)
      · have hX := Lib.hid (show RV w6 w.heap.size (some ⟨g2, 3, none⟩) (flatR (rs.drop 1)) by
          have h1 := (RV.of_own S6.out.rows).drop (1 * 3)
          rwa [flatR_drop, Nat.zero_add] at h1)
        have hl8 := Lib.hid (show (rs.drop 1).length = 7 by have := ownR_len S6.out.rows; simp; omega)
        have hc1 : ¬ c = 1 := by omega
        have hc2 : 1 ≤ c := by omega
        go_wp2_with fail
        go_ret
        exact ⟨_, _, _, rs.drop 1, rfl, hl8.out, by omega, by omega, hX.out, S6.out.rd.more (by omega), S6.out.grown⟩
  · have hne : ((n2 : Int) != 8) = true := by simp; omega
    have hne2 : ((n2 : Int) == 8) = false := by simp; omega
    clear h8
    go_wp2_with fail
    refine (l5New_any _).mono ?_
    rintro e w3 ⟨rfl, hrow3, hb3⟩
    have S := Lib.hid (show RowSt w g (P + 1000) w3 (some ⟨w2.heap.size, 0, none⟩) 8 _ from ⟨HR2.out.below hb3 HR2.out.lt, grownBy_below HG2.out hb3 hs2, owns_less hrow3 hs2⟩)
    clear hrow3 hb3 HO2
    generalize w2.heap.size = g2 at *
    clear rs
    obtain ⟨rs, hrs⟩ : ∃ rs, rs = List.replicate 8 r0 := ⟨_, rfl⟩
    rw [← hrs] at S
    clear hrs
    go_wp2_with fail
    refine Calls.mono (odd_any _ g _ n S.out.rd (by omega) hn hn0) ?_
    rintro e w4 ⟨bo, rfl, hr4, hg4⟩
    have S4 := Lib.hid (S.out.step hgl hr4 hg4)
    clear hr4 hg4 S
    cases bo
    · go_wp2_with fail
      go_ret
      exact S4.out.done (by omega)
    · go_wp2_with fail
      refine Calls.mono (pick_any _ g _ _ S4.out.rd (by omega) (by omega)) ?_
      rintro e w5 ⟨k7, rfl, hk, _, hr5, hg5⟩
      have hk8 : k7 < 8 := by have := hk (by omega); omega
      have S5 := Lib.hid (S4.out.step hgl hr5 hg5)
      clear hr5 hg5 hk S4
      go_wp2_with fail
      refine Calls.mono (pick_any _ g _ _ S5.out.rd (by omega) (by omega)) ?_
      rintro e w6 ⟨v6, rfl, hv6, _, hr6, hg6⟩
      have hv4 : v6 < 4 := by have := hv6 (by omega); omega
      have S6 := Lib.hid (S5.out.step hgl hr6 hg6)
      clear hr6 hg6 hv6 S5
      have h6c : v6 = 0 ∨ v6 = 1 ∨ v6 = 2 ∨ v6 = 3 := by omega
      clear hv4
      rcases h6c with rfl | rfl | rfl | rfl
      · go_wp2_with fail
        refine Calls.mono (pick_any _ g _ _ (S6.out.rd.alloc _) (by omega) (by omega)) ?_
        rintro e w7 ⟨v7, rfl, hv7, _, hr7, hg7⟩
        have h7 : v7 < 3 := by have := hv7 (by omega); omega
        obtain ⟨z, hz, _⟩ := table_at [-1, 6, 0] _ rfl (block_kept (new_block w6 _) hg7 (by have := S6.out.rd.lt; omega)) (v := v7) (by simpa using h7)
        have S7 := Lib.hid ((S6.out.alloc _).step hgl hr7 hg7)
        obtain ⟨d0, d1, d2⟩ := ownR_cells S7.out.rows hk8
        have f0 := World.ownsRow.frozenAt S7.out.rows (k7 * 3)
        have f1 := World.ownsRow.frozenAt S7.out.rows (k7 * 3 + 1)
        have f2 := World.ownsRow.frozenAt S7.out.rows (k7 * 3 + 2)
        have S8 := Lib.hid (S7.out.set hgl hk8 (i := 0) (.int .i64 z) ⟨z, (rs.getD k7 r0).f, (rs.getD k7 r0).b⟩ (by omega) rfl)
        clear hr7 hg7 hv7 S6 S7
        generalize rs.getD k7 r0 = r at *
        go_wp2_with fail
        go_ret
        exact S8.out.done (by omega)
      · go_wp2_with fail
        refine Calls.mono (pick_any _ g _ _ (S6.out.rd.alloc _) (by omega) (by omega)) ?_
        rintro e w7 ⟨v7, rfl, hv7, _, hr7, hg7⟩
        have h7 : v7 < 3 := by have := hv7 (by omega); omega
        obtain ⟨z, hz, _⟩ := table_at [0, -1, 51] _ rfl (block_kept (new_block w6 _) hg7 (by have := S6.out.rd.lt; omega)) (v := v7) (by simpa using h7)
        have S7 := Lib.hid ((S6.out.alloc _).step hgl hr7 hg7)
        obtain ⟨d0, d1, d2⟩ := ownR_cells S7.out.rows hk8
        have f0 := World.ownsRow.frozenAt S7.out.rows (k7 * 3)
        have f1 := World.ownsRow.frozenAt S7.out.rows (k7 * 3 + 1)
        have f2 := World.ownsRow.frozenAt S7.out.rows (k7 * 3 + 2)
        have S8 := Lib.hid (S7.out.set hgl hk8 (i := 1) (.int .i64 z) ⟨(rs.getD k7 r0).u, z, (rs.getD k7 r0).b⟩ (by omega) rfl)
        clear hr7 hg7 hv7 S6 S7
        generalize rs.getD k7 r0 = r at *
        go_wp2_with fail
        go_ret
        exact S8.out.done (by omega)
      · obtain ⟨d0, d1, d2⟩ := ownR_cells S6.out.rows hk8
        have f0 := World.ownsRow.frozenAt S6.out.rows (k7 * 3)
        have f1 := World.ownsRow.frozenAt S6.out.rows (k7 * 3 + 1)
        have f2 := World.ownsRow.frozenAt S6.out.rows (k7 * 3 + 2)
        have S8 := Lib.hid (S6.out.set hgl hk8 (i := 2) (.bool (!(rs.getD k7 r0).b)) ⟨(rs.getD k7 r0).u, (rs.getD k7 r0).f, !(rs.getD k7 r0).b⟩ (by omega) rfl)
        clear S6
        generalize rs.getD k7 r0 = r at *
        go_wp2_with fail
        go_ret
        exact S8.out.done (by omega)
      · have hX := Lib.hid (show RV w6 w.heap.size (some ⟨g2, 3, none⟩) (flatR (rs.drop 1)) by
          have h1 := (RV.of_own S6.out.rows).drop (1 * 3)
          rwa [flatR_drop, Nat.zero_add] at h1)
        have hl8 := Lib.hid (show (rs.drop 1).length = 7 by have := ownR_len S6.out.rows; simp; omega)
        go_wp2_with fail
        go_ret
        exact ⟨_, _, _, rs.drop 1, rfl, hl8.out, by omega, by omega, hX.out, S6.out.rd.more (by omega), S6.out.grown⟩

/-- rows in new memory, and one number from lo on, hi at most -/
structure Rows_ (w w' : World) (A : Option Addr) (n c : Nat) (rs : List Orow) : Prop where
  len : rs.length = n
  few : n ≤ 8
  cap : n ≤ c
  reads : RV w' w.heap.size A (flatR rs)
  below : Below w.heap.size w w'
def RowsNum (w : World) (lo hi : Int) (e : Ending) (w' : World) : Prop := ∃ (A : Option Addr) (n c : Nat) (rs : List Orow) (i : Int), e = .returned (.tuple #[.slice A n c, .int .i64 i]) ∧ lo ≤ i ∧ i ≤ hi ∧ Rows_ w w' A n c rs
set_option maxHeartbeats 400000 in
theorem DrawOwnCount_any (w : World) (A : Option Addr) (n c : Nat) (bs : List Int) (h : Bytes w A n c bs) (hn : n ≤ 140737488351232) : Calls Try.prog 87 #[.slice A n c] w (RowsNum w 0 6) := by
  go_enter Try.func87, Try.ntmps87
  go_wp2_with fail
  refine (open_any _ A n c bs h hn).mono ?_
  rintro e w1 ⟨rfl, hr1, hb1⟩
  have hs1 := hb1.size
  have hlt1 := hr1.lt
  have HB := Lib.hid hb1
  clear hb1
  go_wp2_with fail
  refine (rows_any _ _ _ _ hr1 (by omega) (by omega) (by omega)).mono ?_
  rintro e w2 ⟨A2, n2, c2, rs, rfl, hl, hn2, hc2, hx2, hr2, hg2⟩
  have HX := Lib.hid hx2
  have HG := Lib.hid hg2
  have HL := Lib.hid hl
  clear hl hx2 hg2
  go_wp2_with fail
  refine (pick_any _ _ _ _ hr2 (by omega) (by omega)).mono ?_
  rintro e w3 ⟨u, rfl, hu1, _, hr3, hg3⟩
  have hu := hu1 (by omega)
  have HX3 := Lib.hid ((HX.out.grown hg3 (fun r e => by injection e with e; omega)).less hs1)
  have HG3 := Lib.hid (HB.out.trans (below_of_grown (grownBy_trans HG.out hg3) hs1))
  clear hu1 hr2 hg3 HX HG hr3 hr1
  go_wp2_with fail
  go_ret2
  exact ⟨_, _, _, rs, _, rfl, by omega, by omega, HL.out, hn2, hc2, HX3.out, HG3.out⟩
theorem DrawOwnOf_any (w : World) (A : Option Addr) (n c : Nat) (bs : List Int) (h : Bytes w A n c bs) (hn : n ≤ 140737488351232) : Calls Try.prog 64 #[.slice A n c] w (RowsNum w 0 6) := by
  go_enter Try.func64, Try.ntmps64
  go_wp2_with fail
  refine (DrawOwnCount_any _ A n c bs h hn).mono ?_
  rintro e w1 ⟨A2, n2, c2, rs, i, rfl, hi0, hi6, L⟩
  have HL := Lib.hid L
  clear L
  go_wp2_with fail
  go_ret2
  exact ⟨_, _, _, rs, _, rfl, hi0, hi6, HL.out⟩
end Go.Proofs.Ytbgljjmmominbaa
