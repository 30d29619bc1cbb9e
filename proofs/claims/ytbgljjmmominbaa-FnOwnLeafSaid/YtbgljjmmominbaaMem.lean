/- Words for memory: a slice of numbers that reads as a list. No function of the program in sight. -/
import Derived.Test.YtbgljjmmominbaaChecked
import Derived.KernelRfl
import Derived.WalkKit
import Derived.Handy
import Derived.Lib.Hide
import Derived.Deep.Draws
import Derived.Deep.AppendLies
import Derived.Deep.RegionHeld3
import Derived.Deep.DrawnRows
import Derived.OwnWalk
namespace Go.Proofs.Ytbgljjmmominbaa
set_option linter.unusedVariables false
open Go.RowKit

theorem ret_int {k : IntKind} {a b : Int} (h : a = b) : Ending.returned (.int k a) = .returned (.int k b) := by rw [h]
theorem ret_bool {a b : Bool} (h : a = b) : Ending.returned (.bool a) = .returned (.bool b) := by rw [h]

/-- The slice at A reads as the numbers xs of kind k; its block lies from L on. -/
def RK (k : IntKind) (w : World) (L : Nat) (A : Option Addr) (xs : List Int) : Prop :=
  0 < xs.length → ∃ b o, A = some ⟨b, o, none⟩ ∧ L ≤ b ∧ b < w.heap.size ∧ ∀ j, j < xs.length → w.cell? ⟨b, o + j, none⟩ = some (.int k (xs.getD j 0))
abbrev RI := RK .i64

section
variable {k : IntKind} {w w' : World} {L : Nat} {A : Option Addr} {xs : List Int}
theorem RK.nil : RK k w L A [] := fun h => by simp at h
theorem RK.at_ (h : RK k w L A xs) {j : Nat} (hj : j < xs.length) : ∃ b o, A = some ⟨b, o, none⟩ ∧ L ≤ b ∧ b < w.heap.size ∧ w.cell? ⟨b, o + j, none⟩ = some (.int k (xs.getD j 0)) := by
  obtain ⟨b, o, e, hL, hb, hc⟩ := h (by omega)
  exact ⟨b, o, e, hL, hb, hc j hj⟩
theorem RK.less (h : RK k w L A xs) {M : Nat} (hM : M ≤ L) : RK k w M A xs := fun hp => by
  obtain ⟨b, o, e, hL, hb, hc⟩ := h hp
  exact ⟨b, o, e, by omega, hb, hc⟩
theorem RK.below (h : RK k w L A xs) (hb : Below w.heap.size w w') : RK k w' L A xs := fun hp => by
  obtain ⟨b, o, e, hL, hlt, hc⟩ := h hp
  exact ⟨b, o, e, hL, by have := hb.size; omega, fun j hj => (hb.cell (p := ⟨b, o + j, none⟩) hlt).trans (hc j hj)⟩
theorem RK.grown (h : RK k w L A xs) {row : Option Nat} (hg : w.grownBy w' row) (hr : ∀ g, row = some g → g < L) : RK k w' L A xs := fun hp => by
  obtain ⟨b, o, e, hL, hlt, hc⟩ := h hp
  exact ⟨b, o, e, hL, by have := hg.size; omega, fun j hj => (World.cell?_of_block (a := ⟨b, o + j, none⟩) (hg.block b hlt (fun e => by have := hr _ e.symm; omega))).trans (hc j hj)⟩
theorem RK.alloc (h : RK k w L A xs) (o : Obj) : RK k (w.alloc o) L A xs := h.below ((Below.refl _ _).alloc (Nat.le_refl _) _)
theorem RK.drew (h : RK k w L A xs) : RK k w.drew L A xs := h
theorem RK.drewN (h : RK k w L A xs) (n : Nat) : RK k (w.drewN n) L A xs := h
theorem RK.setCell (h : RK k w L A xs) {p : Addr} (hp : ∀ b o, A = some ⟨b, o, none⟩ → p.block ≠ b) (u : Value) : RK k (w.setCell p u) L A xs := fun hl => by
  obtain ⟨b, o, e, hL, hlt, hc⟩ := h hl
  refine ⟨b, o, e, hL, by simpa [World.setCell] using hlt, fun j hj => (World.cell?_setCell_other w p _ u ?_).trans (hc j hj)⟩
  intro e'
  subst e'
  exact hp b o e rfl
theorem RK.take (h : RK k w L A xs) (n : Nat) : RK k w L A (xs.take n) := fun hp => by
  have hl : (xs.take n).length ≤ xs.length := by simp; omega
  obtain ⟨b, o, e, hL, hb, hc⟩ := h (by omega)
  refine ⟨b, o, e, hL, hb, fun j hj => ?_⟩
  have hjn : j < n := by simp at hj; omega
  rw [hc j (by omega)]
  simp [List.getD, hjn]
theorem RK.drop {b o : Nat} (h : RK k w L (some ⟨b, o, none⟩) xs) (n : Nat) : RK k w L (some ⟨b, o + n, none⟩) (xs.drop n) := fun hp => by
  have hl : 0 < xs.length := by simp at hp; omega
  obtain ⟨b', o', e, hL, hb, hc⟩ := h hl
  injection e with e
  injection e with e1 e2
  subst e1 e2
  refine ⟨b, o + n, rfl, hL, hb, fun j hj => ?_⟩
  have := hc (n + j) (by simp at hj; omega)
  rw [Nat.add_assoc, this]
  simp [List.getD]
/-- what the call itself has built reads as a list -/
theorem RK.of_own {base e n : Nat} {cap : Nat} (h : w.ownsRow base e 1 (.slice A n cap) n (xs.map (Value.int k))) : RK k w base A xs := fun hp => by
  have hlen : xs.length = n := by have := h.1; simpa using this
  obtain ⟨g, c, hv, hB, hlt⟩ := h.form (by omega)
  have hA : A = some ⟨g, 0, none⟩ := by injection hv
  subst hA
  refine ⟨g, 0, rfl, hB, hlt, fun j hj => ?_⟩
  have := h.cells (g := g) rfl j (.int k (xs.getD j 0)) (by simp [List.getElem?_map, List.getD, List.getElem?_eq_getElem hj])
  rw [← this]
  congr 1
  unfold Addr.add
  split <;> simp_all
end

/-! ### Rows of numbers that the call itself builds -/
theorem info_int : (Try.prog.info? 3).map (fun i => (i.zero, i.size, i.bytes)) = some (some (.int .i64 0), 1, 8) := by kernel_rfl
abbrev OwnI (w : World) (base : Nat) (A : Option Addr) (n cap : Nat) (ys : List Int) : Prop := w.ownsRow base 3 1 (.slice A n cap) n (ys.map (Value.int .i64))
/-- the call gives a row of its own with these numbers; nothing that was there has turned -/
def OwnRes (w : World) (ys : List Int) (e : Ending) (w' : World) : Prop := ∃ A n cap, e = .returned (.slice A n cap) ∧ ys.length = n ∧ OwnI w' w.heap.size A n cap ys ∧ Below w.heap.size w w'
theorem below_drewN {B : Nat} {a w : World} (h : Below B a w) (n : Nat) : Below B a (w.drewN n) := ⟨h.os, h.tape, h.output, h.size, h.block⟩
theorem grownBy_trans' {a b c : World} {row : Option Nat} (h : a.grownBy b row) (k : b.grownBy c row) : a.grownBy c row :=
  ⟨k.os.trans h.os, k.tape.trans h.tape, k.output.trans h.output, Nat.le_trans h.size k.size, fun i hi hn => (k.block i (by have := h.size; omega) hn).trans (h.block i hi hn)⟩
theorem own_cap {w : World} {base : Nat} {A : Option Addr} {n cap : Nat} {ys : List Int} (h : OwnI w base A n cap ys) : n ≤ cap := by
  rcases h.2 with ⟨h1, h2⟩ | ⟨g, c, cur, hv, _, _, h3, _⟩
  · omega
  · injection hv with _ _ hc
    omega
theorem own_lit (w : World) (base : Nat) (zs : List Int) (cs : Array Value) (hb : base ≤ w.heap.size) (hc : cs = (zs.map (Value.int .i64)).toArray) (hl : zs.length ≤ 1000000) :
    OwnI (w.alloc (.cells cs 3)) base (some ⟨w.heap.size, 0, none⟩) zs.length zs.length zs := by
  subst hc
  refine ⟨by simp, .inr ⟨w.heap.size, zs.length, _, rfl, hb, heap_alloc_new w _, Nat.le_refl _, by unfold maxLen; omega, by simp, by simp only [Nat.mul_one]; exact List.take_of_length_le (by simp)⟩⟩
theorem own_below {w w' : World} {base : Nat} {v : Value} {n : Nat} {xs : List Value} {e : TypeId} (h : w.ownsRow base e 1 v n xs) (hg : w.grownBy w' v.ownBlock) (hb : base ≤ w.heap.size) : Below base w w' :=
  (Below.refl _ _).grown hg hb (fun k hk => (h.lt k hk).1)
theorem step_push {ops : Array Oper} {o : Oper} {a : Act} {K : Act → World → Prop} {Q : Exit → Act → World → Prop} {E : Prop} {w : World} (hgd : o.guard = none) (s x : Operand)
    (ho : o.op = .call { callee := .builtin .append, args := #[s, x], argTypes := #[51, 51] }) (base : Nat) (A : Option Addr) (n cap : Nat) (ys : List Int) (z : Int) (g0 : Nat)
    (hs : a.eval s = .slice A n cap) (hx : a.eval x = .slice (some ⟨g0, 0, none⟩) 1 1) (hown : OwnI w base A n cap ys) (hnew : w.heap[g0]? = some (.cells #[.int .i64 z] 3 (0, 0))) (hn : n ≤ 2000000) (hbase : base ≤ w.heap.size)
    (h : ∀ g cap' w', OwnI w' base (some ⟨g, 0, none⟩) (n + 1) cap' (ys ++ [z]) → Below base w w' → w.grownBy w' (Value.slice A n cap).ownBlock → K (a.put o.dst (.slice (some ⟨g, 0, none⟩) (n + 1) cap')) w') :
    if Region.wanted o (yielded ops a.tmps) = true then Oper.wp Try.prog o a w K Q else E := by
  obtain ⟨i0, hi, hz0, hz1, hz2⟩ := info_parts info_int
  refine step_append_lies w hgd s x 51 ho base 3 i0 (.int .i64 0) 1 8 Try.underlying51 hi hz0 hz1 hz2 rfl (by decide) _ n _ hs hown ⟨g0, 0, none⟩ 1 1 [.int .i64 z] hx rfl (World.news_of_block hnew) ?_ (by decide) (by unfold maxLen; omega) (by omega) hbase _ rfl ?_
  · intro u hu; simp at hu; subst hu; rfl
  · intro g cap' w' h1 h2 _ _
    exact h g cap' w' (by simpa [OwnI] using h1) (own_below hown h2 hbase) h2
theorem wpList_push {ops : Array Oper} {rest : List Oper} {o : Oper} {a : Act} {Q : Exit → Act → World → Prop} {w : World} (hgd : o.guard = none) (s x : Operand)
    (ho : o.op = .call { callee := .builtin .append, args := #[s, x], argTypes := #[51, 51] }) (base : Nat) (A : Option Addr) (n cap : Nat) (ys : List Int) (z : Int) (g0 : Nat)
    (hs : a.eval s = .slice A n cap) (hx : a.eval x = .slice (some ⟨g0, 0, none⟩) 1 1) (hown : OwnI w base A n cap ys) (hnew : w.heap[g0]? = some (.cells #[.int .i64 z] 3 (0, 0))) (hn : n ≤ 2000000) (hbase : base ≤ w.heap.size)
    (h : ∀ g cap' w', OwnI w' base (some ⟨g, 0, none⟩) (n + 1) cap' (ys ++ [z]) → Below base w w' → w.grownBy w' (Value.slice A n cap).ownBlock → wpList Try.prog ops Q rest (a.put o.dst (.slice (some ⟨g, 0, none⟩) (n + 1) cap')) w') : wpList Try.prog ops Q (o :: rest) a w := by
  obtain ⟨i0, hi, hz0, hz1, hz2⟩ := info_parts info_int
  refine wpList_append_lies w hgd s x 51 ho base 3 i0 (.int .i64 0) 1 8 Try.underlying51 hi hz0 hz1 hz2 rfl (by decide) _ n _ hs hown ⟨g0, 0, none⟩ 1 1 [.int .i64 z] hx rfl (World.news_of_block hnew) ?_ (by decide) (by unfold maxLen; omega) (by omega) hbase _ rfl ?_
  · intro u hu; simp at hu; subst hu; rfl
  · intro g cap' w' h1 h2 _ _
    exact h g cap' w' (by simpa [OwnI] using h1) (own_below hown h2 hbase) h2
theorem wpList_spread {ops : Array Oper} {rest : List Oper} {o : Oper} {a : Act} {Q : Exit → Act → World → Prop} {w : World} (hgd : o.guard = none) (s x : Operand)
    (ho : o.op = .call { callee := .builtin .append, args := #[s, x], argTypes := #[51, 51] }) (base : Nat) (A : Option Addr) (n cap : Nat) (ys : List Int) (b p m c : Nat) (zs : List Int)
    (hs : a.eval s = .slice A n cap) (hx : a.eval x = .slice (some ⟨b, p, none⟩) m c) (hown : OwnI w base A n cap ys) (hlz : zs.length = m) (hm : 0 < m)
    (hcell : ∀ j, j < m → w.cell? ⟨b, p + j, none⟩ = some (.int .i64 (zs.getD j 0))) (hn : n + m ≤ 2000000) (hbase : base ≤ w.heap.size)
    (h : ∀ g cap' w', OwnI w' base (some ⟨g, 0, none⟩) (n + m) cap' (ys ++ zs) → Below base w w' → w.grownBy w' (Value.slice A n cap).ownBlock → wpList Try.prog ops Q rest (a.put o.dst (.slice (some ⟨g, 0, none⟩) (n + m) cap')) w') : wpList Try.prog ops Q (o :: rest) a w := by
  obtain ⟨i0, hi, hz0, hz1, hz2⟩ := info_parts info_int
  refine wpList_append_lies w hgd s x 51 ho base 3 i0 (.int .i64 0) 1 8 Try.underlying51 hi hz0 hz1 hz2 rfl (by decide) _ n _ hs hown ⟨b, p, none⟩ m c (zs.map (Value.int .i64)) hx (by simpa using hlz) ?_ ?_ hm (by unfold maxLen; omega) (by omega) hbase _ rfl ?_
  · intro j u hu
    have hj : j < zs.length := by
      rcases Nat.lt_or_ge j zs.length with h | h
      · exact h
      · rw [List.getElem?_eq_none (by simpa using h)] at hu; cases hu
    have e : (⟨b, p, none⟩ : Addr).add j = ⟨b, p + j, none⟩ := by unfold Addr.add; split <;> simp_all
    rw [e, hcell j (by omega)]
    rw [← hu]
    simp [List.getD, hj]
  · intro u hu
    obtain ⟨z, _, rfl⟩ := List.mem_map.1 hu
    rfl
  · intro g cap' w' h1 h2 _ _
    exact h g cap' w' (by simpa [OwnI] using h1) (own_below hown h2 hbase) h2
/-- a number stored into a row of the call's own -/
theorem own_stored {w : World} {base g n cap : Nat} {ys : List Int} (h : OwnI w base (some ⟨g, 0, none⟩) n cap ys) (j : Nat) (v : Int) :
    OwnI (w.setCell ⟨g, j, none⟩ (.int .i64 v)) base (some ⟨g, 0, none⟩) n cap (ys.set j v) ∧ w.grownBy (w.setCell ⟨g, j, none⟩ (.int .i64 v)) (some g) := by
  have := World.ownsRow.stored h j (.int .i64 v)
  exact ⟨by simpa [OwnI, List.map_set] using this.1, this.2⟩
theorem own_cell {w : World} {base g n cap : Nat} {ys : List Int} (h : OwnI w base (some ⟨g, 0, none⟩) n cap ys) {j : Nat} (hj : j < n) : w.cell? ⟨g, j, none⟩ = some (.int .i64 (ys.getD j 0)) := by
  have hl : ys.length = n := by have := h.1; simpa using this
  rw [World.ownsRow.cellAt h j (by omega)]
  simp [List.getD, show j < ys.length by omega]
theorem own_len {w : World} {base n cap : Nat} {A : Option Addr} {ys : List Int} (h : OwnI w base A n cap ys) : ys.length = n := by have := h.1; simpa using this
theorem own_base {w : World} {base g n cap : Nat} {ys : List Int} (h : OwnI w base (some ⟨g, 0, none⟩) n cap ys) : base ≤ g ∧ g < w.heap.size := World.ownsRow.lt h g rfl
end Go.Proofs.Ytbgljjmmominbaa
