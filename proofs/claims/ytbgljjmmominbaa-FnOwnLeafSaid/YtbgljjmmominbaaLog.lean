/- Contracts: entries drawn that follow one another (reference, layer 20). -/
import Derived.Test.YtbgljjmmominbaaDrawE
import Derived.Test.YtbgljjmmominbaaPut
import Derived.Test.YtbgljjmmominbaaOf
import Derived.IntWalk
namespace Go.Proofs.Ytbgljjmmominbaa
set_option linter.unusedVariables false
open Go.RowKit Pl
/-- rows of nobody's, new -/
def NewRes (w : World) (e : Ending) (w' : World) : Prop := e = .returned (.slice (some ⟨w.heap.size, 0, none⟩) 8 8) ∧ OwnR w' w.heap.size (some ⟨w.heap.size, 0, none⟩) 8 8 (List.replicate 8 r0) ∧ Below w.heap.size w w'
theorem l5New_any (w : World) : Calls Try.prog 88 #[] w (NewRes w) := by
  obtain ⟨i0, hi, hz0, hz1, hz2⟩ := info_parts info_row
  go_enter Try.func88, Try.ntmps88
  go_wp2_with (at_make; refine wpList_make_full _ rfl _ _ 37 rfl w.heap.size 31 i0 (.agg #[.int .i64 0, .int .i64 0, .bool false]) 3 Try.underlying37 hi hz0 hz1 _ _ _ _ 8 rfl rfl rfl rfl (by rw [hz2]; omega) (by unfold maxLen; omega) (Nat.le_refl _) ?_; intro w1 hown1 hg1)
  go_ret
  exact ⟨rfl, by show w1.ownsRow _ _ 3 _ 8 (flatR (List.replicate 8 r0)); rw [← flatR_rep 8]; exact hown1, (Below.refl _ _).grown hg1 (Nat.le_refl _) (fun k hk => by cases hk)⟩
theorem capI_rng (f : Int) : 0 ≤ capI f ∧ capI f ≤ 60 := by
  unfold capI
  split
  · rename_i h; have := inB_both h; omega
  · omega
theorem pb_le {v : Nat} {n : Int} (h1 : 1 ≤ n → (v : Int) < n) (h2 : n < 1 → v = 0) (h3 : n ≤ 60) : (v : Int) ≤ 60 := by
  by_cases h : 1 ≤ n
  · have := h1 h; omega
  · have := h2 (by omega); omega
theorem ownPut_len (rs : List Orow) (e : Ent) : (ownPut rs e).1.length = rs.length := by
  unfold ownPut
  split
  · exact List.length_set
  · rfl
/-- rows of different types lie apart -/
theorem owns_types {w : World} {b1 b2 s1 s2 n1 n2 : Nat} {T1 T2 : TypeId} {v1 v2 : Value} {x1 x2 : List Value} (h1 : w.ownsRow b1 T1 s1 v1 n1 x1) (h2 : w.ownsRow b2 T2 s2 v2 n2 x2) (hT : T1 ≠ T2) : v1.ownBlock = none ∨ v1.ownBlock ≠ v2.ownBlock := by
  rcases h1.2 with ⟨rfl, _⟩ | ⟨g, c, cur, rfl, _, hg, _⟩
  · exact .inl rfl
  · right
    rcases h2.2 with ⟨rfl, _⟩ | ⟨g', c', cur', rfl, _, hg', _⟩
    · simp [Value.ownBlock]
    · intro e
      simp [Value.ownBlock] at e
      subst e
      rw [hg] at hg'
      injection hg' with e
      injection e with _ e2 _
      exact hT e2
theorem owns_read {w w' : World} {base s n g : Nat} {T : TypeId} {v : Value} {xs : List Value} (h : w.ownsRow base T s v n xs) (hg : w.grownBy w' (some g)) (hb : g < base) : w'.ownsRow base T s v n xs :=
  World.ownsRow.kept h hg (by
    cases hv : v.ownBlock with
    | none => exact .inl rfl
    | some k => right; have := World.ownsRow.lt h k hv; simp; omega)
theorem owns_far {w : World} {base s n : Nat} {T : TypeId} {v : Value} {xs : List Value} (h : w.ownsRow base T s v n xs) {p : Addr} (hp : ∀ q, v.ownBlock = some q → q ≠ p.block) (u : Value) : (w.setCell p u).ownsRow base T s v n xs := by
  refine World.ownsRow.kept (row := some p.block) h ⟨rfl, rfl, rfl, by simp [World.setCell], fun k hk hne => Below.heap_setCell w p u k (by simpa using hne)⟩ ?_
  cases hv : v.ownBlock with
  | none => exact .inl rfl
  | some k => right; have := hp k hv; simpa using this
/-- on the way: the reader, the frame, what has been drawn, how the tickets stand -/
structure LogSt (w : World) (g P : Nat) (wk : World) (A : Option Addr) (n c : Nat) (es : List Ent) (A2 : Option Addr) (c2 : Nat) (rs : List Orow) : Prop where
  rd : Rd wk g P
  grown : w.grownBy wk (some g)
  out : OwnE wk w.heap.size A n c es
  rows : OwnR wk w.heap.size A2 8 c2 rs
section
variable {w w1 w2 : World} {g P Q n c c2 : Nat} {A A2 : Option Addr} {es : List Ent} {rs : List Orow}
theorem LogSt.step (h : LogSt w g P w1 A n c es A2 c2 rs) (hgl : g < w.heap.size) (hr : Rd w2 g Q) (hg : w1.grownBy w2 (some g)) : LogSt w g Q w2 A n c es A2 c2 rs :=
  ⟨hr, grownBy_trans h.grown hg, owns_read h.out hg hgl, owns_read h.rows hg hgl⟩
theorem LogSt.alloc (h : LogSt w g P w1 A n c es A2 c2 rs) (o : Obj) : LogSt w g P (w1.alloc o) A n c es A2 c2 rs := ⟨h.rd.alloc o, grownBy_alloc h.grown o, World.ownsRow.alloc h.out o, World.ownsRow.alloc h.rows o⟩
theorem LogSt.drew (h : LogSt w g P w1 A n c es A2 c2 rs) : LogSt w g P w1.drew A n c es A2 c2 rs := ⟨h.rd.drew, grownBy_drew h.grown, World.ownsRow.drew h.out, World.ownsRow.drew h.rows⟩
theorem LogSt.below (h : LogSt w g P w1 A n c es A2 c2 rs) (hgl : g < w.heap.size) (hb : Below w1.heap.size w1 w2) : LogSt w g P w2 A n c es A2 c2 rs :=
  ⟨h.rd.below hb (by have := h.grown.size; omega), grownBy_below h.grown hb h.grown.size, owns_over h.out hb, owns_over h.rows hb⟩
theorem LogSt.wrote (h : LogSt w g P w1 A n c es A2 c2 rs) (hgl : g < w.heap.size) {p : Addr} (hH : w.heap.size ≤ p.block) (hA : ∀ q, (Value.slice A n c).ownBlock = some q → q < p.block) (hB : ∀ q, (Value.slice A2 8 c2).ownBlock = some q → q < p.block) (v : Value) : LogSt w g P (w1.setCell p v) A n c es A2 c2 rs := by
  have hb : Below w.heap.size w1 (w1.setCell p v) := (Below.refl _ _).setCell hH v
  exact ⟨h.rd.below hb hgl, grownBy_below h.grown hb (Nat.le_refl _), owns_far h.out (fun q hq => by have := hA q hq; omega) v, owns_far h.rows (fun q hq => by have := hB q hq; omega) v⟩
theorem LogSt.more (h : LogSt w g P w1 A n c es A2 c2 rs) (hQ : P ≤ Q) : LogSt w g Q w1 A n c es A2 c2 rs := ⟨h.rd.more hQ, h.grown, h.out, h.rows⟩
end
/-- a whole entry stored -/
def put4 (w : World) (H : Nat) (k t u p : Int) : World := (((w.setCell ⟨H, 0, none⟩ (.int .i64 k)).setCell ⟨H, 1, none⟩ (.int .i64 t)).setCell ⟨H, 2, none⟩ (.int .i64 u)).setCell ⟨H, 3, none⟩ (.int .i64 p)
section
variable {w w1 : World} {g P n c c2 H : Nat} {A A2 : Option Addr} {es : List Ent} {rs : List Orow}
theorem LogSt.put4 (h : LogSt w g P w1 A n c es A2 c2 rs) (hgl : g < w.heap.size) (hH : w.heap.size ≤ H) (hA : ∀ q, (Value.slice A n c).ownBlock = some q → q < H) (hB : ∀ q, (Value.slice A2 8 c2).ownBlock = some q → q < H) (k t u p : Int) :
    LogSt w g P (put4 w1 H k t u p) A n c es A2 c2 rs :=
  (((h.wrote hgl (p := ⟨H, 0, none⟩) hH hA hB _).wrote hgl (p := ⟨H, 1, none⟩) hH hA hB _).wrote hgl (p := ⟨H, 2, none⟩) hH hA hB _).wrote hgl (p := ⟨H, 3, none⟩) hH hA hB _
theorem EBox.put4 {k0 t0 u0 p0 : Int} (h : EBox H w1 k0 t0 u0 p0) (k t u p : Int) : EBox H (put4 w1 H k t u p) k t u p := (((h.set0 k).set1 t).set2 u).set3 p
theorem put4_far (w : World) (H : Nat) (k t u p : Int) {a : Addr} (ha : a.block ≠ H) : (put4 w H k t u p).cell? a = w.cell? a := by
  unfold Go.Proofs.Ytbgljjmmominbaa.put4
  have hne : ∀ i, (⟨H, i, none⟩ : Addr) ≠ a := fun i e => by subst e; exact ha rfl
  rw [World.cell?_setCell_other _ _ _ _ (hne 3), World.cell?_setCell_other _ _ _ _ (hne 2), World.cell?_setCell_other _ _ _ _ (hne 1), World.cell?_setCell_other _ _ _ _ (hne 0)]
end
theorem flatE_drop (es : List Ent) : ∀ k, (flatE es).drop (k * 4) = flatE (es.drop k) := by
  induction es with
  | nil => intro k; simp [flatE]
  | cons x xs ih =>
    intro k
    cases k with
    | zero => simp [flatE]
    | succ k =>
      have := ih k
      simp only [flatE, List.flatMap_cons, List.drop_succ_cons, encE] at this ⊢
      rw [show (k + 1) * 4 = k * 4 + 4 by omega]
      simp [this]
/-- 'append(row, src...)' at a step of a region that draws -/
theorem step_spreadE {ops : Array Oper} {o : Oper} {a : Act} {K : Act → World → Prop} {Q : Exit → Act → World → Prop} {E : Prop} {w : World} (hgd : o.guard = none) (s x : Operand)
    (ho : o.op = .call { callee := .builtin .append, args := #[s, x], argTypes := #[45, 45] }) (base : Nat) (A : Option Addr) (n cap : Nat) (ys : List Ent) (ad : Addr) (m c L : Nat) (zs : List Ent)
    (hs : a.eval s = .slice A n cap) (hx : a.eval x = .slice (some ad) m c) (hown : OwnE w base A n cap ys) (hlz : zs.length = m)
    (hr : RV w L (some ad) (flatE zs)) (hn : n + m ≤ 2000000) (hbase : base ≤ w.heap.size)
    (h : ∀ A' cap' w', OwnE w' base A' (n + m) cap' (ys ++ zs) → Below base w w' → K (a.put o.dst (.slice A' (n + m) cap')) w') : if Region.wanted o (yielded ops a.tmps) = true then Oper.wp Try.prog o a w K Q else E := by
  obtain ⟨i0, hi, hz0, hz1, hz2⟩ := info_parts info_ent
  have hw : Region.wanted o (yielded ops a.tmps) = true := by simp [Region.wanted, hgd]
  rw [if_pos hw]
  obtain ⟨v', w', hrun, h2, h3, h4, h5⟩ := run_append_own_at (P := Try.prog) w base 45 o.type 25 i0 (.agg #[.int .i64 0, .int .i64 0, .int .i64 0, .int .i64 0]) 4 32 Try.underlying45 hi hz0 hz1 hz2 rfl (by decide) _ n _ hown ad m c (flatE zs) (by rw [flatE_len, hlz]) (by
      intro j u hu
      have hj : 0 < (flatE zs).length := by
        rcases Nat.lt_or_ge j (flatE zs).length with h | h
        · omega
        · rw [List.getElem?_eq_none h] at hu; cases hu
      obtain ⟨b, o', e, _, _, hc⟩ := hr hj
      injection e with e
      subst e
      have e : (⟨b, o', none⟩ : Addr).add j = ⟨b, o' + j, none⟩ := by unfold Addr.add; split <;> simp_all
      rw [e]
      exact hc j u hu) flatE_one (by unfold maxLen; omega) (by omega) hbase
  obtain ⟨A', cap', rfl⟩ := owns_shape h2
  unfold Oper.wp execOp
  simp only [ho, resolve, invoke, builtin, Sem.run_bind, Sem.run_pure, Result.andThen_ok, List.map_toArray, List.map_cons, List.map_nil, hs, hx, hrun]
  exact h A' cap' w' (by rw [← flatE_app] at h2; exact h2) ((Below.refl _ _).grown h3 hbase (fun q hq => (World.ownsRow.lt hown q hq).1))
def lenV (v : Value) : Nat := match v with | .slice _ n _ => n | _ => 0
theorem flatE_take (es : List Ent) : ∀ k, (flatE es).take (k * 4) = flatE (es.take k) := by
  induction es with
  | nil => intro k; simp [flatE]
  | cons x xs ih =>
    intro k
    cases k with
    | zero => simp [flatE]
    | succ k =>
      have := ih k
      simp only [flatE, List.flatMap_cons, List.take_succ_cons, encE] at this ⊢
      rw [show (k + 1) * 4 = k * 4 + 4 by omega]
      simp [this]
def LogRes (w : World) (g P : Nat) (e : Ending) (w' : World) : Prop := ∃ A n c es, e = .returned (.slice A n c) ∧ es.length = n ∧ n ≤ 100 ∧ OwnE w' w.heap.size A n c es ∧ Rd w' g (P + 1000) ∧ w.grownBy w' (some g)
def LogAt (w : World) (g P : Nat) (o r k : Value) (wr : World) : Prop :=
  ∃ (A : Option Addr) (n c : Nat) (es : List Ent) (A2 : Option Addr) (c2 : Nat) (rs : List Orow) (K : Nat), o = .slice A n c ∧ r = .slice A2 8 c2 ∧ k = .int .i64 (K : Int) ∧ K ≤ 40 ∧ n + K ≤ 40 ∧ LogSt w g (P + 10 + 10 * (40 - K)) wr A n c es A2 c2 rs
set_option maxHeartbeats 8000000 in
set_option maxRecDepth 100000 in
theorem log_any (w : World) (g P : Nat) (n : Int) (h : Rd w g P) (hP : P ≤ 500000) (hn : n ≤ 1000000) (hn0 : 0 ≤ n) : Calls Try.prog 85 #[.pointer (some ⟨g, 0, none⟩), .int .i64 n] w (LogRes w g P) := by
  have hgl := h.lt
  have HN := Lib.hid (own_litE w w.heap.size (Nat.le_refl _))
  go_enter Try.func85, Try.ntmps85
  go_wp2_with fail
  refine (l5New_any _).mono ?_
  rintro e w1 ⟨rfl, hrow1, hb1⟩
  have hrow1' := owns_less hrow1 (show w.heap.size ≤ _ by simp)
  rw [show (w.alloc (.cells #[] 25)).heap.size = w.heap.size + 1 by simp] at hrow1'
  have L1 := Lib.hid (show LogSt w g P w1 _ 0 0 [] (some ⟨w.heap.size + 1, 0, none⟩) 8 _ from ⟨(h.alloc _).below hb1 (by simp; omega), grownBy_below (grownBy_alloc (World.grownBy.refl w (some g)) _) hb1 (by simp), owns_over HN.out hb1, hrow1'⟩)
  clear hrow1 hrow1' hb1 HN h
  go_wp2_with fail
  refine (pick_any _ g _ _ L1.out.rd (by omega) (by omega)).mono ?_
  rintro e w2 ⟨u, rfl, hu1, _, hr2, hg2⟩
  have hu := hu1 (by omega)
  have L2 := Lib.hid (L1.out.step hgl hr2 hg2)
  clear hu1 hr2 hg2 L1
  go_wp2_with fail
  refine (pick_any _ g _ _ (L2.out.rd.alloc _) (by omega) (by omega)).mono ?_
  rintro e w3 ⟨x, rfl, hx1, _, hr3, hg3⟩
  have hx := hx1 (by omega)
  obtain ⟨z, hz, hm⟩ := table_at [0, 3, 8, 20, (u : Int)] _ rfl (block_kept (new_block w2 _) hg3 (by have := L2.out.rd.lt; omega)) (v := x) (by simp; omega)
  obtain ⟨z0, z1⟩ : 0 ≤ z ∧ z ≤ 39 := by simp at hm; omega
  obtain ⟨K0, rfl⟩ := Int.eq_ofNat_of_zero_le z0
  have L3 := Lib.hid ((L2.out.alloc _).step hgl hr3 hg3)
  clear hx1 hm hr3 hg3 L2
  go_upto_region 4 with fail
  clear hz
  go_loopw [5, 6, 7] (fun o r k wr => LogAt w g P o r k wr) (fun _ _ k _ => (intOf k).toNat)
  case atStart => exact ⟨_, _, _, _, _, _, _, K0, rfl, rfl, rfl, by omega, by omega, L3.out.more (Q := P + 10 + 10 * (40 - K0)) (by omega)⟩
  case round =>
    clear L3 z1 z0 hx
    obtain ⟨A, m, c, es, A2, c2, rs, K, rfl, rfl, rfl, hK, hmK, LR⟩ := hrel
    have L := Lib.hid LR
    clear LR
    obtain ⟨g2, c2', hv2, hB2, hlt2⟩ := World.ownsRow.form L.out.rows (by omega)
    injection hv2 with e1 _ e3
    subst e1 e3
    by_cases hK0 : 0 < K
    · have hm40 : m < 40 := by omega
      have hrl := Lib.hid (ownR_len L.out.rows)
      go_wp2_with fail
      refine (pick_any _ g _ _ L.out.rd (by omega) (by omega)).mono ?_
      rintro e w4 ⟨t, rfl, ht1, _, hr4, hg4⟩
      have ht := ht1 (by omega)
      have ht8 : t < 8 := by omega
      have L4 := Lib.hid (L.out.step hgl hr4 hg4)
      clear ht1 hr4 hg4 L
      go_wp2_with fail
      refine (pick_any _ g _ _ L4.out.rd (by omega) (by omega)).mono ?_
      rintro e w5 ⟨a, rfl, ha1, _, hr5, hg5⟩
      have ha := ha1 (by omega)
      have L5 := Lib.hid (L4.out.step hgl hr5 hg5)
      clear ha1 hr5 hg5 L4
      go_wp2_with fail
      refine (pick_any _ g _ _ (L5.out.rd.alloc _) (by omega) (by omega)).mono ?_
      rintro e w6 ⟨y, rfl, hy1, _, hr6, hg6⟩
      have hy := hy1 (by omega)
      obtain ⟨pr, hpr, _⟩ := table_at [10, 20, 50] _ rfl (block_kept (new_block w5 _) hg6 (by have := L5.out.rd.lt; omega)) (v := y) (by simp; omega)
      have L6 := Lib.hid ((L5.out.alloc _).step hgl hr6 hg6)
      have EB := Lib.hid (EBox.new w6 1 (t : Int) (1 + (a : Int)) pr)
      have L7 := Lib.hid (L6.out.alloc (.cells #[.int .i64 1, .int .i64 (t : Int), .int .i64 (1 + (a : Int)), .int .i64 pr] 25))
      have hAl := Lib.hid (fun q hq => (World.ownsRow.lt L6.out.out q hq).2)
      have hBl := Lib.hid (fun q hq => (World.ownsRow.lt L6.out.rows q hq).2)
      have hsz6 : w.heap.size ≤ w6.heap.size := L6.out.grown.size
      have hg2H : g2 < w6.heap.size := (World.ownsRow.lt L6.out.rows g2 rfl).2
      have hgH : g < w6.heap.size := by omega
      clear hy1 hr6 hg6 L5 L6
      go_upto_region 8 with fail
      clear hpr hy
      generalize w6.alloc (.cells #[.int .i64 1, .int .i64 (t : Int), .int .i64 (1 + (a : Int)), .int .i64 pr] 25) = w7 at *
      obtain ⟨d1, d2, d3⟩ := ownR_cells L7.out.rows ht8
      obtain ⟨r, hrow0⟩ : ∃ r, rs.getD t r0 = r := ⟨_, rfl⟩
      rw [hrow0] at d1 d2 d3
      have hrow := Lib.hid hrow0
      clear hrow0
      obtain ⟨ru, rf, rb⟩ := r
      by_cases hpos : 0 < ru
      · have PA := Lib.hid (capI_rng rf)
        obtain ⟨q0, q1⟩ := EB.out.cells
        have hne2 : ¬ g2 = w6.heap.size := by omega
        have tokA : True := trivial
        have tokB : True := trivial
        obtain ⟨cr0, cr1⟩ := PA.out
        have Ld := Lib.hid L7.out.drew
        go_wp2_with fail
        go_region_held3 (fun w' => w'.cell? ⟨g2, t * 3 + 1, none⟩ = some (.int .i64 rf))
          (first | exact d2 | exact dA | exact dB | exact (put4_far _ w6.heap.size _ _ _ _ (a := ⟨g2, t * 3 + 1, none⟩) (by exact hne2)).trans dB)
          (first
          | (go_at_call 82; have _t := tokA; refine Calls.mono (pick_any _ g _ _ Ld.out.rd (by omega) (by omega)) ?_; rintro e w8 ⟨pa, rfl, hpa1, _, hr8, hg8⟩; have hpa := hpa1 (by omega); have L8 := Lib.hid (Ld.out.step hgl hr8 hg8); have EB8 := Lib.hid (EB.out.drew.read hg8 (by omega)); have dA := (ownR_cells L8.out.rows ht8).2.1; rw [hrow.out] at dA; clear tokA hpa1 hr8 hg8)
          | (go_at_call 54; refine Calls.mono (sEntCap_any _ _) ?_; rintro e w' ⟨rfl, rfl⟩)
          | (go_at_call 82; have _t := tokB; refine Calls.mono (pick_any _ g _ _ L8.out.rd (by omega) (by omega)) ?_; rintro e w9 ⟨pb, rfl, hpb1, hpb2, hr9, hg9⟩; have L9 := Lib.hid (L8.out.step hgl hr9 hg9); have EB9 := Lib.hid (EB8.out.read hg9 (by omega)); have dB := (ownR_cells L9.out.rows ht8).2.1; rw [hrow.out] at dB; have hpb : (pb : Int) ≤ 60 := pb_le hpb1 hpb2 cr1; obtain ⟨k0, k1, k2, k3⟩ := EB9.out.cells; obtain ⟨j0, j1, j2, j3⟩ := EB9.out.free; clear tokB hr9 hg9 hpb1 hpb2))
        have L10 := Lib.hid (show LogSt w g _ ((((w9.setCell ⟨w6.heap.size, 0, none⟩ (.int .i64 2)).setCell ⟨w6.heap.size, 1, none⟩ (.int .i64 (t : Int))).setCell ⟨w6.heap.size, 2, none⟩ (.int .i64 (IntKind.i64.wrap (1 + (pa : Int))))).setCell ⟨w6.heap.size, 3, none⟩ (.int .i64 (IntKind.i64.wrap (1 + (pb : Int))))) A m c es _ _ rs from L9.out.put4 hgl hsz6 hAl.out hBl.out 2 (t : Int) (IntKind.i64.wrap (1 + (pa : Int))) (IntKind.i64.wrap (1 + (pb : Int))))
        have E10 := Lib.hid (show EBox w6.heap.size ((((w9.setCell ⟨w6.heap.size, 0, none⟩ (.int .i64 2)).setCell ⟨w6.heap.size, 1, none⟩ (.int .i64 (t : Int))).setCell ⟨w6.heap.size, 2, none⟩ (.int .i64 (IntKind.i64.wrap (1 + (pa : Int))))).setCell ⟨w6.heap.size, 3, none⟩ (.int .i64 (IntKind.i64.wrap (1 + (pb : Int))))) 2 (t : Int) (IntKind.i64.wrap (1 + (pa : Int))) (IntKind.i64.wrap (1 + (pb : Int))) from EB9.out.put4 2 (t : Int) (IntKind.i64.wrap (1 + (pa : Int))) (IntKind.i64.wrap (1 + (pb : Int))))
        clear k0 k1 k2 k3 j0 j1 j2 j3 dA dB q0 q1 L8 L9 EB8 EB9 Ld PA cr0 cr1 hpa hpb EB L7 d1 d2 d3
        generalize (((w9.setCell ⟨w6.heap.size, 0, none⟩ (.int .i64 2)).setCell ⟨w6.heap.size, 1, none⟩ (.int .i64 (t : Int))).setCell ⟨w6.heap.size, 2, none⟩ (.int .i64 (IntKind.i64.wrap (1 + (pa : Int))))).setCell ⟨w6.heap.size, 3, none⟩ (.int .i64 (IntKind.i64.wrap (1 + (pb : Int)))) = w10 at *
        generalize IntKind.i64.wrap (1 + (pa : Int)) = e3 at *
        generalize IntKind.i64.wrap (1 + (pb : Int)) = e4 at *
        go_wp2_with fail
        refine (pick_any _ g _ _ L10.out.rd (by omega) (by omega)).mono ?_
        rintro e w11 ⟨vz, rfl, hvz1, _, hr11, hg11⟩
        have L11 := Lib.hid (L10.out.step hgl hr11 hg11)
        have E11 := Lib.hid (E10.out.read hg11 (by omega))
        clear hr11 hg11 hvz1 L10 E10
        by_cases hvz : vz = 0
        · subst hvz
          have d1 := (ownR_cells L11.out.rows ht8).1
          rw [hrow.out] at d1
          obtain ⟨k0, k1, k2, k3⟩ := E11.out.cells
          obtain ⟨j0, j1, j2, j3⟩ := E11.out.free
          have L12 := Lib.hid (show LogSt w g _ ((((w11.setCell ⟨w6.heap.size, 0, none⟩ (.int .i64 3)).setCell ⟨w6.heap.size, 1, none⟩ (.int .i64 (t : Int))).setCell ⟨w6.heap.size, 2, none⟩ (.int .i64 ru)).setCell ⟨w6.heap.size, 3, none⟩ (.int .i64 0)) A m c es _ _ rs from L11.out.put4 hgl hsz6 hAl.out hBl.out 3 (t : Int) ru 0)
          have E12 := Lib.hid (show EBox w6.heap.size ((((w11.setCell ⟨w6.heap.size, 0, none⟩ (.int .i64 3)).setCell ⟨w6.heap.size, 1, none⟩ (.int .i64 (t : Int))).setCell ⟨w6.heap.size, 2, none⟩ (.int .i64 ru)).setCell ⟨w6.heap.size, 3, none⟩ (.int .i64 0)) 3 (t : Int) ru 0 from E11.out.put4 3 (t : Int) ru 0)
          go_upto_region 12 with fail
          clear d1 k0 k1 k2 k3 j0 j1 j2 j3 L11 E11
          generalize (((w11.setCell ⟨w6.heap.size, 0, none⟩ (.int .i64 3)).setCell ⟨w6.heap.size, 1, none⟩ (.int .i64 (t : Int))).setCell ⟨w6.heap.size, 2, none⟩ (.int .i64 ru)).setCell ⟨w6.heap.size, 3, none⟩ (.int .i64 0) = w12 at *
          obtain ⟨c0, c1, c2, c3⟩ := E12.out.cells
          go_wp2_with fail
          refine (sOwnPut_any _ 8 _ 0 rs _ _ _ _ _ hrl.out ((RV.of_own L12.out.rows).less (Nat.zero_le _)) (fun e => by cases e) (by omega)).mono ?_
          rintro e wb ⟨A3, n3, c3', rfl, hl3, ho3, hb3⟩
          obtain rfl : n3 = 8 := by rw [← hl3, ownPut_len]; exact hrl.out
          have Lb := Lib.hid (L12.out.below hgl hb3)
          have EBb := Lib.hid (E12.out.below hb3)
          have O3 := Lib.hid (owns_less ho3 L12.out.grown.size)
          have hszb : w.heap.size ≤ wb.heap.size := Lb.out.grown.size
          clear hl3 ho3 hb3 c0 c1 c2 c3
          generalize (ownPut rs ⟨3, (t : Int), ru, 0⟩).1 = rs3 at *
          generalize (ownPut rs ⟨3, (t : Int), ru, 0⟩).2 = ok3 at *
          cases ok3
          · go_wp2_with fail
            go_roundw
            case rel => exact ⟨A, m, c, es, _, _, rs, K - 1, rfl, rfl, by go_num, by omega, by omega, Lb.out.more (Q := P + 10 + 10 * (40 - (K - 1))) (by omega)⟩
            case measure => simp [intOf]; omega
          · obtain ⟨c0, c1, c2, c3⟩ := EBb.out.cells
            have hown := World.ownsRow.alloc Lb.out.out (.cells #[.int .i64 (3), .int .i64 ((t : Int)), .int .i64 (ru), .int .i64 (0)] 25)
            go_wp2_with (at_builtin; refine wpList_pushE rfl _ _ rfl w.heap.size A m c es ⟨3, (t : Int), ru, 0⟩ wb.heap.size rfl rfl hown (heap_alloc_new _ _) (by omega) (by simp; omega) ?_; intro gg cc wc hownc hbc hgc; have Lc := Lib.hid (show LogSt w g _ wc _ (m + 1) cc _ _ _ _ from ⟨(Lb.out.rd.alloc _).below hbc hgl, grownBy_below (grownBy_alloc Lb.out.grown _) hbc (Nat.le_refl _), hownc, World.ownsRow.kept (World.ownsRow.alloc O3.out _) hgc (owns_types (World.ownsRow.alloc O3.out _) hown (by decide))⟩); clear hownc hbc hgc)
            go_roundw
            case rel => exact ⟨_, m + 1, _, _, _, _, rs3, K - 1, rfl, rfl, by go_num, by omega, by omega, Lc.out.more (Q := P + 10 + 10 * (40 - (K - 1))) (by omega)⟩
            case measure => simp [intOf]; omega
        · have hvn : ((vz : Int) == 0) = false := by simp; omega
          clear hvz
          obtain ⟨c0, c1, c2, c3⟩ := E11.out.cells
          go_wp2_with fail
          refine (sOwnPut_any _ 8 _ 0 rs _ _ _ _ _ hrl.out ((RV.of_own L11.out.rows).less (Nat.zero_le _)) (fun e => by cases e) (by omega)).mono ?_
          rintro e wb ⟨A3, n3, c3', rfl, hl3, ho3, hb3⟩
          obtain rfl : n3 = 8 := by rw [← hl3, ownPut_len]; exact hrl.out
          have Lb := Lib.hid (L11.out.below hgl hb3)
          have EBb := Lib.hid (E11.out.below hb3)
          have O3 := Lib.hid (owns_less ho3 L11.out.grown.size)
          have hszb : w.heap.size ≤ wb.heap.size := Lb.out.grown.size
          clear hl3 ho3 hb3 c0 c1 c2 c3
          generalize (ownPut rs ⟨2, (t : Int), e3, e4⟩).1 = rs3 at *
          generalize (ownPut rs ⟨2, (t : Int), e3, e4⟩).2 = ok3 at *
          cases ok3
          · go_wp2_with fail
            go_roundw
            case rel => exact ⟨A, m, c, es, _, _, rs, K - 1, rfl, rfl, by go_num, by omega, by omega, Lb.out.more (Q := P + 10 + 10 * (40 - (K - 1))) (by omega)⟩
            case measure => simp [intOf]; omega
          · obtain ⟨c0, c1, c2, c3⟩ := EBb.out.cells
            have hown := World.ownsRow.alloc Lb.out.out (.cells #[.int .i64 (2), .int .i64 ((t : Int)), .int .i64 (e3), .int .i64 (e4)] 25)
            go_wp2_with (at_builtin; refine wpList_pushE rfl _ _ rfl w.heap.size A m c es ⟨2, (t : Int), e3, e4⟩ wb.heap.size rfl rfl hown (heap_alloc_new _ _) (by omega) (by simp; omega) ?_; intro gg cc wc hownc hbc hgc; have Lc := Lib.hid (show LogSt w g _ wc _ (m + 1) cc _ _ _ _ from ⟨(Lb.out.rd.alloc _).below hbc hgl, grownBy_below (grownBy_alloc Lb.out.grown _) hbc (Nat.le_refl _), hownc, World.ownsRow.kept (World.ownsRow.alloc O3.out _) hgc (owns_types (World.ownsRow.alloc O3.out _) hown (by decide))⟩); clear hownc hbc hgc)
            go_roundw
            case rel => exact ⟨_, m + 1, _, _, _, _, rs3, K - 1, rfl, rfl, by go_num, by omega, by omega, Lc.out.more (Q := P + 10 + 10 * (40 - (K - 1))) (by omega)⟩
            case measure => simp [intOf]; omega
      · have hneg : ¬ (0 < ru) := hpos
        obtain ⟨c0, c1, c2, c3⟩ := EB.out.cells
        go_wp2_with fail
        refine (sOwnPut_any _ 8 _ 0 rs _ _ _ _ _ hrl.out ((RV.of_own L7.out.rows).less (Nat.zero_le _)) (fun e => by cases e) (by omega)).mono ?_
        rintro e wb ⟨A3, n3, c3', rfl, hl3, ho3, hb3⟩
        obtain rfl : n3 = 8 := by rw [← hl3, ownPut_len]; exact hrl.out
        have Lb := Lib.hid (L7.out.below hgl hb3)
        have EBb := Lib.hid (EB.out.below hb3)
        have O3 := Lib.hid (owns_less ho3 L7.out.grown.size)
        have hszb : w.heap.size ≤ wb.heap.size := Lb.out.grown.size
        clear hl3 ho3 hb3 c0 c1 c2 c3
        generalize (ownPut rs ⟨1, (t : Int), 1 + (a : Int), pr⟩).1 = rs3 at *
        generalize (ownPut rs ⟨1, (t : Int), 1 + (a : Int), pr⟩).2 = ok3 at *
        cases ok3
        · go_wp2_with fail
          go_roundw
          case rel => exact ⟨A, m, c, es, _, _, rs, K - 1, rfl, rfl, by go_num, by omega, by omega, Lb.out.more (Q := P + 10 + 10 * (40 - (K - 1))) (by omega)⟩
          case measure => simp [intOf]; omega
        · obtain ⟨c0, c1, c2, c3⟩ := EBb.out.cells
          have hown := World.ownsRow.alloc Lb.out.out (.cells #[.int .i64 (1), .int .i64 ((t : Int)), .int .i64 (1 + (a : Int)), .int .i64 (pr)] 25)
          go_wp2_with (at_builtin; refine wpList_pushE rfl _ _ rfl w.heap.size A m c es ⟨1, (t : Int), 1 + (a : Int), pr⟩ wb.heap.size rfl rfl hown (heap_alloc_new _ _) (by omega) (by simp; omega) ?_; intro gg cc wc hownc hbc hgc; have Lc := Lib.hid (show LogSt w g _ wc _ (m + 1) cc _ _ _ _ from ⟨(Lb.out.rd.alloc _).below hbc hgl, grownBy_below (grownBy_alloc Lb.out.grown _) hbc (Nat.le_refl _), hownc, World.ownsRow.kept (World.ownsRow.alloc O3.out _) hgc (owns_types (World.ownsRow.alloc O3.out _) hown (by decide))⟩); clear hownc hbc hgc)
          go_roundw
          case rel => exact ⟨_, m + 1, _, _, _, _, rs3, K - 1, rfl, rfl, by go_num, by omega, by omega, Lc.out.more (Q := P + 10 + 10 * (40 - (K - 1))) (by omega)⟩
          case measure => simp [intOf]; omega
    · obtain rfl : K = 0 := by omega
      clear hK0
      have hm40 : m ≤ 40 := by omega
      go_wp2_with fail
      refine (odd_any _ g _ n L.out.rd (by omega) hn hn0).mono ?_
      rintro e w4 ⟨bo, rfl, hr4, hg4⟩
      have L4 := Lib.hid (L.out.step hgl hr4 hg4)
      clear hr4 hg4 L
      have hlm := Lib.hid (ownE_len L4.out.out)
      cases bo
      · go_wp2_with fail
        go_ret
        exact ⟨_, _, _, es, rfl, hlm.out, by omega, L4.out.out, L4.out.rd.more (by omega), L4.out.grown⟩
      · go_wp2_with fail
        refine (pick_any _ g _ _ L4.out.rd (by omega) (by omega)).mono ?_
        rintro e w5 ⟨v5, rfl, hv5, _, hr5, hg5⟩
        have L5 := Lib.hid (L4.out.step hgl hr5 hg5)
        clear hr5 hg5 hv5 L4
        by_cases hz0 : v5 = 0
        · subst hz0
          go_wp2_with fail
          refine (entry_any _ g _ _ L5.out.rd (by omega) (by omega) (by omega)).mono ?_
          rintro e w6 ⟨k6, t6, u6, p6, rfl, hr6, hg6⟩
          have L6 := Lib.hid (L5.out.step hgl hr6 hg6)
          clear hr6 hg6 L5
          have hown := World.ownsRow.alloc L6.out.out (.cells #[.int .i64 k6, .int .i64 t6, .int .i64 u6, .int .i64 p6] 25)
          have hsz := L6.out.grown.size
          go_wp2_with (at_builtin; refine wpList_pushE rfl _ _ rfl w.heap.size A m c es ⟨k6, t6, u6, p6⟩ w6.heap.size rfl rfl hown (heap_alloc_new _ _) (by omega) (by simp; omega) ?_; intro gg cc wc hownc hbc hgc; have Oc := Lib.hid hownc; have Rc := Lib.hid ((L6.out.rd.alloc _).below hbc hgl); have Gc := Lib.hid (grownBy_below (grownBy_alloc L6.out.grown _) hbc (Nat.le_refl _)); clear hownc hbc hgc)
          go_ret
          exact ⟨_, _, _, _, rfl, ownE_len Oc.out, by omega, Oc.out, Rc.out.more (by omega), Gc.out⟩
        · have hzn : ((v5 : Int) == 0) = false := by simp; omega
          clear hz0
          by_cases hm0 : m = 0
          · subst hm0
            go_wp2_with fail
            go_loopw [5] (fun o wr => ∃ (A : Option Addr) (m c : Nat) (ys : List Ent), o = .slice A m c ∧ m ≤ 41 ∧ LogSt w g (P + 500) wr A m c ys (some ⟨g2, 0, none⟩) c2 rs) (fun o _ => 41 - lenV o)
            case atStart => exact ⟨A, 0, c, es, rfl, by omega, L5.out.more (Q := P + 500) (by omega)⟩
            case round =>
              clear L5 hlm
              obtain ⟨A7, m7, c7, ys7, rfl, hm7, LR⟩ := hrel
              have L7 := Lib.hid LR
              clear LR
              have hsz := L7.out.grown.size
              by_cases h40 : m7 ≤ 40
              · have hown := World.ownsRow.alloc L7.out.out (.cells #[.int .i64 1, .int .i64 1, .int .i64 1, .int .i64 1] 25)
                go_wp2_with (at_builtin; refine wpList_pushE rfl _ _ rfl w.heap.size A7 m7 c7 ys7 ⟨1, 1, 1, 1⟩ wr.heap.size rfl rfl hown (heap_alloc_new _ _) (by omega) (by simp; omega) ?_; intro gg cc wc hownc hbc hgc; have Lc := Lib.hid (show LogSt w g _ wc _ (m7 + 1) cc _ _ _ _ from ⟨(L7.out.rd.alloc _).below hbc hgl, grownBy_below (grownBy_alloc L7.out.grown _) hbc (Nat.le_refl _), hownc, World.ownsRow.kept (World.ownsRow.alloc L7.out.rows _) hgc (owns_types (World.ownsRow.alloc L7.out.rows _) hown (by decide))⟩); clear hownc hbc hgc)
                go_roundw
                case rel => exact ⟨_, m7 + 1, _, _, rfl, by omega, Lc.out⟩
                case measure => simp [lenV]; omega
              · go_wp2_with fail
                go_ret
                exact ⟨_, _, _, ys7, rfl, ownE_len L7.out.out, by omega, L7.out.out, L7.out.rd.more (by omega), L7.out.grown⟩
          · have hmp : 0 < m := by omega
            clear hm0
            go_wp2_with fail
            refine (pick_any _ g _ _ L5.out.rd (by omega) (by omega)).mono ?_
            rintro e w6 ⟨k6, rfl, hk6, _, hr6, hg6⟩
            have hk := hk6 (by omega)
            have L6 := Lib.hid (L5.out.step hgl hr6 hg6)
            clear hr6 hg6 hk6 L5
            have hkm : k6 < m := by omega
            obtain ⟨go, co, hvo, hBo, hlto⟩ := World.ownsRow.form L6.out.out (by omega)
            injection hvo with e1 _ e3
            subst e1 e3
            have hcm := owns_cap L6.out.out
            have hsz := L6.out.grown.size
            have RA := Lib.hid (show RV w6 w.heap.size (some ⟨go, 0, none⟩) (flatE (es.take k6)) by
              have h1 := (RV.of_own L6.out.out).take (k6 * 4)
              rwa [flatE_take] at h1)
            have LA := Lib.hid (show (es.take k6).length = k6 by have := hlm.out; simp; omega)
            have LB := Lib.hid (show (es.drop (k6 + 1)).length = m - (k6 + 1) by have := hlm.out; simp; omega)
            have hown0 := own_litE w6 w6.heap.size (Nat.le_refl _)
            have tokA : True := trivial
            have tokB : True := trivial
            have y1 : (0 : Int) ≤ (k6 : Int) := by omega
            have y2 : (k6 : Int) ≤ (c : Int) := by omega
            have y3 : IntKind.i64.wrap ((k6 : Int) + 1) = (k6 : Int) + 1 := IntWalk.i64_in _ (by omega)
            have y4 : (k6 : Int) + 1 ≤ (m : Int) := by omega
            have y5 : (0 : Int) ≤ (k6 : Int) + 1 := by omega
            have y6 : ((k6 : Int) + 1).toNat = k6 + 1 := by omega
            have y7 : (m : Int) ≤ (c : Int) := by omega
            by_cases hce : c = k6 + 1
            · subst hce
              obtain rfl : m = k6 + 1 := by omega
              have hnil : es.drop (k6 + 1) = [] := List.drop_of_length_le (by rw [hlm.out]; exact Nat.le_refl _)
              have RB := Lib.hid (show ∀ W, RV W w.heap.size (some ⟨go, 0, none⟩) (flatE (es.drop (k6 + 1))) from fun W => by rw [hnil]; exact RV.nil)
              have y8 : (k6 : Int) ≤ (k6 : Int) + 1 := by omega
              have y9 : k6 ≤ k6 + 1 := by omega
              clear hnil
              go_wp2_with fail
              go_region_held3 (fun _ => True) (trivial)
                (first
                | (have _t := tokA; refine step_spreadE (by rfl) _ _ (by rfl) w6.heap.size _ 0 0 [] ⟨go, 0, none⟩ k6 _ w.heap.size (es.take k6) (by rfl) (by rfl) (World.ownsRow.drew hown0) LA.out ((RA.out.alloc _).drew) (by omega) (by simp) ?_; intro A8 c8 w8 hown8 hb8; rw [List.nil_append, Nat.zero_add] at hown8; rw [Nat.zero_add]; have O8 := Lib.hid hown8; have B8 := Lib.hid ((((Below.refl w6.heap.size w6).alloc (Nat.le_refl _) _).drew).trans hb8); clear tokA hown8 hb8)
                | (have _t := tokB; refine step_spreadE (by rfl) _ _ (by rfl) w6.heap.size A8 k6 c8 (es.take k6) ⟨go, 0, none⟩ 0 _ w.heap.size [] (by rfl) (by rfl) O8.out rfl RV.nil (by omega) B8.out.size ?_; intro A9 c9 w9 hown9 hb9; rw [List.append_nil, Nat.add_zero] at hown9; rw [Nat.add_zero]; have O9 := Lib.hid hown9; have B9 := Lib.hid (B8.out.trans hb9); clear tokB hown9 hb9))
              go_wp2_with fail
              go_ret
              exact ⟨_, _, _, _, rfl, ownE_len O9.out, by omega, owns_less O9.out hsz, (L6.out.rd.below B9.out (by omega)).more (by omega), grownBy_below L6.out.grown B9.out hsz⟩
            · have RB := Lib.hid (show RV w6 w.heap.size (some ⟨go, (k6 + 1) * 4, none⟩) (flatE (es.drop (k6 + 1))) by
                have h1 := (RV.of_own L6.out.out).drop ((k6 + 1) * 4)
                rwa [flatE_drop, Nat.zero_add] at h1)
              go_wp2_with fail
              go_region_held3 (fun _ => True) (trivial)
                (first
                | (have _t := tokA; refine step_spreadE (by rfl) _ _ (by rfl) w6.heap.size _ 0 0 [] ⟨go, 0, none⟩ k6 _ w.heap.size (es.take k6) (by rfl) (by rfl) (World.ownsRow.drew hown0) LA.out ((RA.out.alloc _).drew) (by omega) (by simp) ?_; intro A8 c8 w8 hown8 hb8; rw [List.nil_append, Nat.zero_add] at hown8; rw [Nat.zero_add]; have O8 := Lib.hid hown8; have B8 := Lib.hid ((((Below.refl w6.heap.size w6).alloc (Nat.le_refl _) _).drew).trans hb8); clear tokA hown8 hb8)
                | (have _t := tokB; refine step_spreadE (by rfl) _ _ (by rfl) w6.heap.size A8 k6 c8 (es.take k6) ⟨go, (k6 + 1) * 4, none⟩ (m - (k6 + 1)) _ w.heap.size (es.drop (k6 + 1)) (by rfl) (by rfl) O8.out LB.out (RB.out.below B8.out) (by omega) B8.out.size ?_; intro A9 c9 w9 hown9 hb9; have O9 := Lib.hid hown9; have B9 := Lib.hid (B8.out.trans hb9); clear tokB hown9 hb9))
              go_wp2_with fail
              go_ret
              exact ⟨_, _, _, _, rfl, ownE_len O9.out, by omega, owns_less O9.out hsz, (L6.out.rd.below B9.out (by omega)).more (by omega), grownBy_below L6.out.grown B9.out hsz⟩
end Go.Proofs.Ytbgljjmmominbaa

