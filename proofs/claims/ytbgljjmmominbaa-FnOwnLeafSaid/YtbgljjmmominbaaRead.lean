/- Contracts: the reader that the draws read by (reference, layer 20). -/
import Derived.Test.YtbgljjmmominbaaTok
import Derived.Laws.BitsAllLaws
import Derived.Laws.BitsLemmas
import Derived.IntWalk
import Derived.Deep.QuietTactic
import Derived.BigQuiet
namespace Go.Proofs.Ytbgljjmmominbaa
set_option linter.unusedVariables false
open Go.RowKit Pl

/-- The reader at block g: some bytes that lie below it, and how many have been read, P at most. -/
def Rd (w : World) (g P : Nat) : Prop := ∃ (A : Option Addr) (n c p : Nat) (bs : List Int), w.heap[g]? = some (.cells #[.slice A n c, .int .i64 (p : Int)] 95 (0, 0)) ∧ bs.length = n ∧ n ≤ 2000 ∧ p ≤ P ∧
  (∀ j, j < n → 0 ≤ bs.getD j 0 ∧ bs.getD j 0 ≤ 255) ∧ (0 < n → ∃ b o, A = some ⟨b, o, none⟩ ∧ b < g ∧ ∀ j, j < n → w.cell? ⟨b, o + j, none⟩ = some (.int .u8 (bs.getD j 0)))

theorem Rd.lt {w : World} {g P : Nat} (h : Rd w g P) : g < w.heap.size := by
  obtain ⟨A, n, c, p, bs, hb, _⟩ := h
  exact (Array.getElem?_eq_some_iff.1 hb).1
theorem Rd.more {w : World} {g P Q : Nat} (h : Rd w g P) (hP : P ≤ Q) : Rd w g Q := by
  obtain ⟨A, n, c, p, bs, hb, h1, h2, h3, h4⟩ := h
  exact ⟨A, n, c, p, bs, hb, h1, h2, by omega, h4⟩
/-- what is written lies behind the reader -/
theorem Rd.grown {w w' : World} {g P : Nat} {row : Option Nat} (h : Rd w g P) (hg : w.grownBy w' row) (hr : ∀ r, row = some r → g < r) : Rd w' g P := by
  have hlt := h.lt
  obtain ⟨A, n, c, p, bs, hb, h1, h2, h3, h4, h5⟩ := h
  refine ⟨A, n, c, p, bs, (hg.block g hlt (fun e => by have := hr g e.symm; omega)).trans hb, h1, h2, h3, h4, fun hn => ?_⟩
  obtain ⟨b, o, e, hbg, hc⟩ := h5 hn
  exact ⟨b, o, e, hbg, fun j hj => (World.cell?_of_block (a := ⟨b, o + j, none⟩) (hg.block b (by omega) (fun e => by have := hr b e.symm; omega))).trans (hc j hj)⟩
theorem grown_of_below {w w' : World} {B : Nat} (h : Below B w w') (hB : w.heap.size ≤ B) (row : Option Nat) : w.grownBy w' row := ⟨h.os, h.tape, h.output, h.size, fun k hk _ => h.block k (by omega)⟩
theorem Rd.below {w w' : World} {g P : Nat} (h : Rd w g P) {B : Nat} (hb : Below B w w') (hB : g < B) : Rd w' g P := by
  have hlt := h.lt
  obtain ⟨A, n, c, p, bs, hbk, h1, h2, h3, h4, h5⟩ := h
  refine ⟨A, n, c, p, bs, (hb.block g hB).trans hbk, h1, h2, h3, h4, fun hn => ?_⟩
  obtain ⟨b, o, e, hbg, hc⟩ := h5 hn
  exact ⟨b, o, e, hbg, fun j hj => (hb.cell (p := ⟨b, o + j, none⟩) (by simp; omega)).trans (hc j hj)⟩
theorem Rd.alloc {w : World} {g P : Nat} (h : Rd w g P) (o : Obj) : Rd (w.alloc o) g P := h.below ((Below.refl _ w).alloc (Nat.le_refl _) o) h.lt
theorem Rd.drewN {w : World} {g P : Nat} (h : Rd w g P) (n : Nat) : Rd (w.drewN n) g P := h
theorem Rd.drew {w : World} {g P : Nat} (h : Rd w g P) : Rd w.drew g P := h

theorem grownBy_trans {a b c : World} {row : Option Nat} (h : a.grownBy b row) (k : b.grownBy c row) : a.grownBy c row :=
  ⟨k.os.trans h.os, k.tape.trans h.tape, k.output.trans h.output, Nat.le_trans h.size k.size, fun i hi hn => (k.block i (by have := h.size; omega) hn).trans (h.block i hi hn)⟩
theorem grownBy_below {a b c : World} {row : Option Nat} {B : Nat} (h : a.grownBy b row) (k : Below B b c) (hB : a.heap.size ≤ B) : a.grownBy c row :=
  ⟨k.os.trans h.os, k.tape.trans h.tape, k.output.trans h.output, Nat.le_trans h.size k.size, fun i hi hn => (k.block i (by omega)).trans (h.block i hi hn)⟩
theorem grownBy_drew {a b : World} {row : Option Nat} (h : a.grownBy b row) : a.grownBy b.drew row := ⟨h.os, h.tape, h.output, h.size, h.block⟩
theorem grownBy_drewN {a b : World} {row : Option Nat} (h : a.grownBy b row) (n : Nat) : a.grownBy (b.drewN n) row := ⟨h.os, h.tape, h.output, h.size, h.block⟩
theorem grownBy_alloc {a b : World} {row : Option Nat} (h : a.grownBy b row) (o : Obj) : a.grownBy (b.alloc o) row :=
  grownBy_below h ((Below.refl _ b).alloc (Nat.le_refl _) o) h.size
theorem grownBy_set {a b : World} {g : Nat} (h : a.grownBy b (some g)) (o : Nat) (v : Value) : a.grownBy (b.setCell ⟨g, o, none⟩ v) (some g) :=
  ⟨h.os, h.tape, h.output, by simpa [World.setCell] using h.size, fun i hi hn => (Below.heap_setCell b ⟨g, o, none⟩ v i (fun e => hn (by rw [e]))).trans (h.block i hi hn)⟩
/-- of what the draw began with, nothing has turned but the reader; what lies below the reader has not turned at all -/
theorem below_of_grown {a b : World} {g : Nat} (h : a.grownBy b (some g)) (hg : g ≤ a.heap.size) : Below g a b := ⟨h.os, h.tape, h.output, h.size, fun k hk => h.block k (by omega) (by simp; omega)⟩
theorem own_kept {w w' : World} {g base n c : Nat} {A : Option Addr} {ys : List Int} (h : OwnI w base A n c ys) (hg : w.grownBy w' (some g)) (hb : g < base) : OwnI w' base A n c ys :=
  World.ownsRow.kept h hg (by
    cases hv : (Value.slice A n c).ownBlock with
    | none => exact .inl rfl
    | some k => right; have := h.lt k hv; simp; omega)
theorem RK.kept {k : IntKind} {w w' : World} {L g : Nat} {A : Option Addr} {xs : List Int} (h : RK k w L A xs) (hg : w.grownBy w' (some g)) (hb : g < L) : RK k w' L A xs := h.grown hg (fun r e => by injection e with e; omega)

/-- what the reader gives: a number from 0 to n - 1; it has read one more -/
def PickRes (w : World) (g P : Nat) (n : Int) (e : Ending) (w' : World) : Prop :=
  ∃ v : Nat, e = .returned (.int .i64 (v : Int)) ∧ (1 ≤ n → (v : Int) < n) ∧ (n < 1 → v = 0) ∧ Rd w' g (P + 1) ∧ w.grownBy w' (some g)
theorem picked {w w' : World} {g P : Nat} {n x : Int} (h0 : 0 ≤ x) (h1 : 1 ≤ n → x < n) (h2 : n < 1 → x = 0) (hr : Rd w' g (P + 1)) (hg : w.grownBy w' (some g)) : PickRes w g P n (.returned (.int .i64 x)) w' := by
  obtain ⟨v, rfl⟩ := Int.eq_ofNat_of_zero_le h0
  exact ⟨v, rfl, h1, fun h => by have := h2 h; omega, hr, hg⟩

theorem ofInt_i64 (a : Nat) (ha : a < 9223372036854775808) : (BitVec.ofInt 64 (a : Int)).toNat = a := by
  rw [BitVec.ofInt_natCast, BitVec.toNat_ofNat]; exact Nat.mod_eq_of_lt (by omega)
theorem i64_xor_nat (a b : Nat) (ha : a < 9223372036854775808) (hb : b < 9223372036854775808) : bits .xor .i64 (a : Int) (b : Int) = ((a ^^^ b : Nat) : Int) := by
  have hx : a ^^^ b < 2 ^ 63 := Nat.xor_lt_two_pow (by omega) (by omega)
  show IntKind.i64.wrap ((BitVec.ofInt 64 (a : Int) ^^^ BitVec.ofInt 64 (b : Int)).toNat : Int) = _
  rw [BitVec.toNat_xor, ofInt_i64 a ha, ofInt_i64 b hb, IntKind.wrap_i64]
  omega
theorem xor_rng (x y : Int) (h0 : 0 ≤ x) (h1 : x ≤ 100000000000) (h2 : 0 ≤ y) (h3 : y ≤ 100000000000) : 0 ≤ bits .xor .i64 x y := by
  obtain ⟨a, rfl⟩ := Int.eq_ofNat_of_zero_le h0
  obtain ⟨b, rfl⟩ := Int.eq_ofNat_of_zero_le h2
  rw [i64_xor_nat a b (by omega) (by omega)]
  omega

theorem Rd.stepped {w : World} {g P n c p : Nat} {A : Option Addr} {bs : List Int} (hb : w.heap[g]? = some (.cells #[.slice A n c, .int .i64 (p : Int)] 95 (0, 0))) (h1 : bs.length = n) (h2 : n ≤ 2000) (h3 : p ≤ P)
    (h4 : ∀ j, j < n → 0 ≤ bs.getD j 0 ∧ bs.getD j 0 ≤ 255) (h5 : 0 < n → ∃ b o, A = some ⟨b, o, none⟩ ∧ b < g ∧ ∀ j, j < n → w.cell? ⟨b, o + j, none⟩ = some (.int .u8 (bs.getD j 0))) :
    Rd (w.setCell ⟨g, 1, none⟩ (.int .i64 ((p : Int) + 1))) g (P + 1) := by
  refine ⟨A, n, c, p + 1, bs, ?_, h1, h2, by omega, h4, fun hn => ?_⟩
  · simp [World.setCell, Array.getElem?_modify, hb]
  · obtain ⟨b, o, e, hbg, hc⟩ := h5 hn
    exact ⟨b, o, e, hbg, fun j hj => (World.cell?_setCell_other _ _ _ _ (by simp <;> omega)).trans (hc j hj)⟩

set_option maxHeartbeats 1000000 in
theorem pick_any (w : World) (g P : Nat) (n : Int) (h : Rd w g P) (hP : P ≤ 1000000) (hn : n ≤ 1000000000) : Calls Try.prog 82 #[.pointer (some ⟨g, 0, none⟩), .int .i64 n] w (PickRes w g P n) := by
  obtain ⟨A, m, c, p, bs, hb, h1, h2, h3, h4, h5⟩ := h
  have HR := Lib.hid (Rd.stepped hb h1 h2 h3 h4 h5)
  have HG := Lib.hid (grownBy_set (World.grownBy.refl w (some g)) 1 (.int .i64 ((p : Int) + 1)))
  have k0 : w.cell? ⟨g, 0, none⟩ = some (.slice A m c) := cell_of_row w g 0 _ _ _ hb
  have k1 : w.cell? ⟨g, 1, none⟩ = some (.int .i64 (p : Int)) := cell_of_row w g 1 _ _ _ hb
  have f1 : w.frozen? ⟨g, 1, none⟩ = false := by unfold World.frozen?; rw [hb]; rfl
  by_cases hn1 : n < 1
  · clear hb h1 h4 h5
    go_enter Try.func82, Try.ntmps82
    go_wp2
    go_ret
    exact picked (x := 0) (by omega) (fun h => by omega) (fun _ => rfl) HR.out HG.out
  · have hn2 : 1 ≤ n := by omega
    clear hn1
    by_cases hm : m = 0
    · subst hm
      clear hb h1 h4 h5
      go_enter Try.func82, Try.ntmps82
      go_wp2
      go_ret
      exact picked (x := 0) (by omega) (fun h => by omega) (fun _ => rfl) HR.out HG.out
    · obtain ⟨b, o, rfl, hbg, hc⟩ := h5 (by omega)
      have hm0 : ((m : Int) == 0) = false := by simp; omega
      have hm1 : 1 ≤ m := by omega
      by_cases hlt : p < m
      · have hcell := (World.cell?_setCell_other w ⟨g, 1, none⟩ ⟨b, o + p, none⟩ (.int .i64 ((p : Int) + 1)) (by simp <;> omega)).trans (hc p hlt)
        obtain ⟨x0, x1⟩ := h4 p hlt
        generalize bs.getD p 0 = x at *
        clear hb h1 h4 h5 hc hm
        go_enter Try.func82, Try.ntmps82
        go_wp2
        go_ret
        exact picked (Int.emod_nonneg _ (by omega)) (fun _ => Int.emod_lt_of_pos _ (by omega)) (fun h => by omega) HR.out HG.out
      · have hmod1 : p % m < m := Nat.mod_lt _ (by omega)
        have hmod2 : (p * 7 + 3) % m < m := Nat.mod_lt _ (by omega)
        have hc1 := (World.cell?_setCell_other w ⟨g, 1, none⟩ ⟨b, o + p % m, none⟩ (.int .i64 ((p : Int) + 1)) (by simp <;> omega)).trans (hc _ hmod1)
        have hc2 := (World.cell?_setCell_other w ⟨g, 1, none⟩ ⟨b, o + (p * 7 + 3) % m, none⟩ (.int .i64 ((p : Int) + 1)) (by simp <;> omega)).trans (hc _ hmod2)
        obtain ⟨x0, x1⟩ := h4 _ hmod1
        obtain ⟨y0, y1⟩ := h4 _ hmod2
        generalize bs.getD (p % m) 0 = x at *
        generalize bs.getD ((p * 7 + 3) % m) 0 = y at *
        have hge : m ≤ p := by omega
        have hmz : ¬ (m : Int) = 0 := by omega
        have t1 : (p : Int).tmod (m : Int) = ((p % m : Nat) : Int) := by rw [Int.tmod_eq_emod_of_nonneg (by omega)]; rfl
        have t2 : ((p : Int) * 7 + 3).tmod (m : Int) = (((p * 7 + 3) % m : Nat) : Int) := by rw [Int.tmod_eq_emod_of_nonneg (by omega)]; rfl
        have t3 : (p : Int).tdiv (m : Int) = ((p / m : Nat) : Int) := by rw [Int.tdiv_eq_ediv_of_nonneg (by omega)]; rfl
        have hd : p / m ≤ p := Nat.div_le_self _ _
        generalize p % m = u at *
        generalize (p * 7 + 3) % m = v at *
        generalize p / m = d at *
        have u1 : (u : Int) < (m : Int) := by omega
        have v1 : (v : Int) < (m : Int) := by omega
        have w0 : IntKind.i64.wrap (u : Int) = (u : Int) := IntWalk.i64_in _ (by omega)
        have w1 : IntKind.i64.wrap x = x := IntWalk.i64_in _ (by omega)
        have w2 : IntKind.i64.wrap (x * 131) = x * 131 := IntWalk.i64_in _ (by omega)
        have w3 : IntKind.i64.wrap ((p : Int) * 7) = (p : Int) * 7 := IntWalk.i64_in _ (by omega)
        have w4 : IntKind.i64.wrap ((p : Int) * 7 + 3) = (p : Int) * 7 + 3 := IntWalk.i64_in _ (by omega)
        have w5 : IntKind.i64.wrap (v : Int) = (v : Int) := IntWalk.i64_in _ (by omega)
        have w6 : IntKind.i64.wrap y = y := IntWalk.i64_in _ (by omega)
        have w7 : IntKind.i64.wrap (y * 1117) = y * 1117 := IntWalk.i64_in _ (by omega)
        have w8 : IntKind.i64.wrap (x * 131 + y * 1117) = x * 131 + y * 1117 := IntWalk.i64_in _ (by omega)
        have w9 : IntKind.i64.wrap ((p : Int) * 29) = (p : Int) * 29 := IntWalk.i64_in _ (by omega)
        have wa : IntKind.i64.wrap (x * 131 + y * 1117 + (p : Int) * 29) = x * 131 + y * 1117 + (p : Int) * 29 := IntWalk.i64_in _ (by omega)
        have wb : IntKind.i64.wrap (d : Int) = (d : Int) := IntWalk.i64_in _ (by omega)
        have wc : IntKind.i64.wrap ((d : Int) * 53) = (d : Int) * 53 := IntWalk.i64_in _ (by omega)
        have wd : IntKind.i64.wrap (x * 131 + y * 1117 + (p : Int) * 29 + (d : Int) * 53) = x * 131 + y * 1117 + (p : Int) * 29 + (d : Int) * 53 := IntWalk.i64_in _ (by omega)
        have XB := Lib.hid (show 0 ≤ x * 131 + y * 1117 + (p : Int) * 29 + (d : Int) * 53 ∧ x * 131 + y * 1117 + (p : Int) * 29 + (d : Int) * 53 ≤ 90000000 by omega)
        clear hb h1 h4 h5 hc hlt
        go_enter Try.func82, Try.ntmps82
        go_wp2
        go_quiet (fail)
        clear t1 t2 t3 w0 w1 w2 w3 w4 w5 w6 w7 w8 w9 wa wb wc wd
        obtain ⟨xb0, xb1⟩ := XB.out
        generalize x * 131 + y * 1117 + (p : Int) * 29 + (d : Int) * 53 = X at *
        have hx := xor_rng X (X / 64) xb0 (by omega) (by omega) (by omega)
        go_wp2
        go_ret
        exact picked (Int.emod_nonneg _ (by omega)) (fun _ => Int.emod_lt_of_pos _ (by omega)) (fun h => by omega) HR.out (grownBy_drewN HG.out nq)
end Go.Proofs.Ytbgljjmmominbaa
