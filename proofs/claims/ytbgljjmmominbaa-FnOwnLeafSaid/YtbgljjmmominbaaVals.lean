/- Words for memory: a slice of structs that reads as a list. No function of the program in sight. -/
import Derived.Test.YtbgljjmmominbaaKeep
namespace Go.Proofs.Ytbgljjmmominbaa
set_option linter.unusedVariables false
open Go.RowKit

/-! ### Structs laid end to end -/
section
variable {α : Type} {enc : α → List Value} {s : Nat}
theorem flat_len (hs : ∀ x, (enc x).length = s) (l : List α) : (l.flatMap enc).length = l.length * s := by
  induction l with
  | nil => simp
  | cons x xs ih => rw [List.flatMap_cons, List.length_append, hs, ih, List.length_cons, Nat.add_mul, Nat.one_mul, Nat.add_comm]
theorem flat_at (hs : ∀ x, (enc x).length = s) (l : List α) : ∀ (j i : Nat) (hj : j < l.length), i < s → (l.flatMap enc)[j * s + i]? = (enc l[j])[i]? := by
  induction l with
  | nil => intro j i hj; simp at hj
  | cons x xs ih =>
    intro j i hj hi
    rw [List.flatMap_cons]
    cases j with
    | zero => rw [Nat.zero_mul, Nat.zero_add, List.getElem?_append_left (by rw [hs]; exact hi)]; rfl
    | succ j =>
      rw [List.getElem?_append_right (by rw [hs, Nat.add_mul, Nat.one_mul]; omega), hs, show (j + 1) * s + i - s = j * s + i by rw [Nat.add_mul, Nat.one_mul]; omega]
      exact ih j i (by simpa using hj) hi
theorem flat_set (hs : ∀ x, (enc x).length = s) (l : List α) : ∀ (j i : Nat) (hj : j < l.length) (v : Value) (y : α), i < s → (enc l[j]).set i v = enc y → (l.flatMap enc).set (j * s + i) v = (l.set j y).flatMap enc := by
  induction l with
  | nil => intro j i hj; simp at hj
  | cons x xs ih =>
    intro j i hj v y hi hy
    rw [List.flatMap_cons]
    cases j with
    | zero =>
      rw [Nat.zero_mul, Nat.zero_add, List.set_append_left _ _ (by rw [hs]; exact hi), List.set_cons_zero, List.flatMap_cons]
      rw [show (enc x).set i v = enc y from hy]
    | succ j =>
      rw [List.set_append_right _ _ (by rw [hs, Nat.add_mul, Nat.one_mul]; omega), hs, show (j + 1) * s + i - s = j * s + i by rw [Nat.add_mul, Nat.one_mul]; omega, ih j i (by simpa using hj) v y hi hy, List.set_cons_succ, List.flatMap_cons]
end

/-- The slice at A reads as the cells vs; its block lies from L on. -/
def RV (w : World) (L : Nat) (A : Option Addr) (vs : List Value) : Prop :=
  0 < vs.length → ∃ b o, A = some ⟨b, o, none⟩ ∧ L ≤ b ∧ b < w.heap.size ∧ ∀ j v, vs[j]? = some v → w.cell? ⟨b, o + j, none⟩ = some v
section
variable {w w' : World} {L : Nat} {A : Option Addr} {vs : List Value}
theorem RV.nil : RV w L A [] := fun h => by simp at h
theorem RV.less (h : RV w L A vs) {M : Nat} (hM : M ≤ L) : RV w M A vs := fun hp => by
  obtain ⟨b, o, e, hL, hb, hc⟩ := h hp
  exact ⟨b, o, e, by omega, hb, hc⟩
theorem RV.below (h : RV w L A vs) (hb : Below w.heap.size w w') : RV w' L A vs := fun hp => by
  obtain ⟨b, o, e, hL, hlt, hc⟩ := h hp
  exact ⟨b, o, e, hL, by have := hb.size; omega, fun j v hv => (hb.cell (p := ⟨b, o + j, none⟩) hlt).trans (hc j v hv)⟩
theorem RV.grown (h : RV w L A vs) {row : Option Nat} (hg : w.grownBy w' row) (hr : ∀ g, row = some g → g < L) : RV w' L A vs := fun hp => by
  obtain ⟨b, o, e, hL, hlt, hc⟩ := h hp
  exact ⟨b, o, e, hL, by have := hg.size; omega, fun j v hv => (World.cell?_of_block (a := ⟨b, o + j, none⟩) (hg.block b hlt (fun e => by have := hr _ e.symm; omega))).trans (hc j v hv)⟩
theorem RV.alloc (h : RV w L A vs) (o : Obj) : RV (w.alloc o) L A vs := h.below ((Below.refl _ _).alloc (Nat.le_refl _) _)
theorem RV.drew (h : RV w L A vs) : RV w.drew L A vs := h
theorem RV.drewN (h : RV w L A vs) (n : Nat) : RV (w.drewN n) L A vs := h
theorem RV.setCell (h : RV w L A vs) {p : Addr} (hp : ∀ b o, A = some ⟨b, o, none⟩ → p.block ≠ b) (u : Value) : RV (w.setCell p u) L A vs := fun hl => by
  obtain ⟨b, o, e, hL, hlt, hc⟩ := h hl
  refine ⟨b, o, e, hL, by simpa [World.setCell] using hlt, fun j v hv => (World.cell?_setCell_other w p _ u ?_).trans (hc j v hv)⟩
  intro e'
  subst e'
  exact hp b o e rfl
theorem RV.take (h : RV w L A vs) (n : Nat) : RV w L A (vs.take n) := fun hp => by
  have hl : (vs.take n).length ≤ vs.length := by simp; omega
  obtain ⟨b, o, e, hL, hb, hc⟩ := h (by omega)
  refine ⟨b, o, e, hL, hb, fun j v hv => hc j v ?_⟩
  rw [List.getElem?_take] at hv
  split at hv
  · exact hv
  · cases hv
theorem RV.drop {b o : Nat} (h : RV w L (some ⟨b, o, none⟩) vs) (n : Nat) : RV w L (some ⟨b, o + n, none⟩) (vs.drop n) := fun hp => by
  have hl : 0 < vs.length := by simp at hp; omega
  obtain ⟨b', o', e, hL, hb, hc⟩ := h hl
  injection e with e
  injection e with e1 e2
  subst e1 e2
  refine ⟨b, o + n, rfl, hL, hb, fun j v hv => ?_⟩
  rw [List.getElem?_drop] at hv
  rw [Nat.add_assoc]
  exact hc (n + j) v hv
/-- what the call itself has built -/
theorem RV.of_own {base n cap s : Nat} {e : TypeId} (h : w.ownsRow base e s (.slice A n cap) n vs) : RV w base A vs := fun hp => by
  have hn : 0 < n := by
    rcases Nat.eq_zero_or_pos n with h0 | h0
    · subst h0; have := h.1; omega
    · exact h0
  obtain ⟨g, c, hv, hB, hlt⟩ := h.form hn
  have hA : A = some ⟨g, 0, none⟩ := by injection hv
  subst hA
  refine ⟨g, 0, rfl, hB, hlt, fun j v hv => ?_⟩
  have := h.cells (g := g) rfl j v hv
  rw [← this]
  congr 1
  unfold Addr.add
  split <;> simp_all
end

/-! ### Owner rows and entries -/
structure Orow where
  u : Int
  f : Int
  b : Bool
structure Ent where
  k : Int
  t : Int
  u : Int
  p : Int
def r0 : Orow := ⟨0, 0, false⟩
def e0 : Ent := ⟨0, 0, 0, 0⟩
def encR (r : Orow) : List Value := [.int .i64 r.u, .int .i64 r.f, .bool r.b]
def encE (e : Ent) : List Value := [.int .i64 e.k, .int .i64 e.t, .int .i64 e.u, .int .i64 e.p]
def flatR (l : List Orow) : List Value := l.flatMap encR
def flatE (l : List Ent) : List Value := l.flatMap encE
def valR (r : Orow) : Value := .agg #[.int .i64 r.u, .int .i64 r.f, .bool r.b]
def valE (e : Ent) : Value := .agg #[.int .i64 e.k, .int .i64 e.t, .int .i64 e.u, .int .i64 e.p]
theorem encR_len (r : Orow) : (encR r).length = 3 := rfl
theorem encE_len (e : Ent) : (encE e).length = 4 := rfl
theorem flatR_len (l : List Orow) : (flatR l).length = l.length * 3 := flat_len encR_len l
theorem flatE_len (l : List Ent) : (flatE l).length = l.length * 4 := flat_len encE_len l
theorem flatR_snoc (l : List Orow) (r : Orow) : flatR (l ++ [r]) = flatR l ++ encR r := by simp [flatR]
theorem flatE_snoc (l : List Ent) (r : Ent) : flatE (l ++ [r]) = flatE l ++ encE r := by simp [flatE]
theorem flatR_one {l : List Orow} : ∀ u ∈ flatR l, u.oneCell' = true := by
  intro u hu
  obtain ⟨r, _, hr⟩ := List.mem_flatMap.1 hu
  simp [encR] at hr
  rcases hr with rfl | rfl | rfl <;> rfl
theorem flatE_one {l : List Ent} : ∀ u ∈ flatE l, u.oneCell' = true := by
  intro u hu
  obtain ⟨r, _, hr⟩ := List.mem_flatMap.1 hu
  simp [encE] at hr
  rcases hr with rfl | rfl | rfl | rfl <;> rfl
theorem getD_get {α : Type} (l : List α) (d : α) {j : Nat} (h : j < l.length) : l.getD j d = l[j] := by simp [List.getD, h]
section
variable {w w' : World} {L : Nat} {A : Option Addr}
theorem RV.atR {rs : List Orow} (h : RV w L A (flatR rs)) {j : Nat} (hj : j < rs.length) : ∃ b o, A = some ⟨b, o, none⟩ ∧ L ≤ b ∧ b < w.heap.size ∧
    w.cell? ⟨b, o + j * 3, none⟩ = some (.int .i64 (rs.getD j r0).u) ∧ w.cell? ⟨b, o + j * 3 + 1, none⟩ = some (.int .i64 (rs.getD j r0).f) ∧ w.cell? ⟨b, o + j * 3 + 2, none⟩ = some (.bool (rs.getD j r0).b) := by
  obtain ⟨b, o, e, hL, hb, hc⟩ := h (by rw [flatR_len]; omega)
  rw [getD_get rs r0 hj]
  refine ⟨b, o, e, hL, hb, ?_, ?_, ?_⟩
  · have := hc (j * 3 + 0) _ (flat_at encR_len rs j 0 hj (by omega)); simpa [encR] using this
  · have := hc (j * 3 + 1) _ (flat_at encR_len rs j 1 hj (by omega)); simpa [encR, Nat.add_assoc] using this
  · have := hc (j * 3 + 2) _ (flat_at encR_len rs j 2 hj (by omega)); simpa [encR, Nat.add_assoc] using this
theorem RV.atE {es : List Ent} (h : RV w L A (flatE es)) {j : Nat} (hj : j < es.length) : ∃ b o, A = some ⟨b, o, none⟩ ∧ L ≤ b ∧ b < w.heap.size ∧
    w.cell? ⟨b, o + j * 4, none⟩ = some (.int .i64 (es.getD j e0).k) ∧ w.cell? ⟨b, o + j * 4 + 1, none⟩ = some (.int .i64 (es.getD j e0).t) ∧ w.cell? ⟨b, o + j * 4 + 2, none⟩ = some (.int .i64 (es.getD j e0).u) ∧ w.cell? ⟨b, o + j * 4 + 3, none⟩ = some (.int .i64 (es.getD j e0).p) := by
  obtain ⟨b, o, e, hL, hb, hc⟩ := h (by rw [flatE_len]; omega)
  rw [getD_get es e0 hj]
  refine ⟨b, o, e, hL, hb, ?_, ?_, ?_, ?_⟩
  · have := hc (j * 4 + 0) _ (flat_at encE_len es j 0 hj (by omega)); simpa [encE] using this
  · have := hc (j * 4 + 1) _ (flat_at encE_len es j 1 hj (by omega)); simpa [encE, Nat.add_assoc] using this
  · have := hc (j * 4 + 2) _ (flat_at encE_len es j 2 hj (by omega)); simpa [encE, Nat.add_assoc] using this
  · have := hc (j * 4 + 3) _ (flat_at encE_len es j 3 hj (by omega)); simpa [encE, Nat.add_assoc] using this
end

theorem info_row : (Try.prog.info? 31).map (fun i => (i.zero, i.size, i.bytes)) = some (some (.agg #[.int .i64 0, .int .i64 0, .bool false]), 3, 24) := by kernel_rfl
abbrev OwnR (w : World) (base : Nat) (A : Option Addr) (n cap : Nat) (rs : List Orow) : Prop := w.ownsRow base 31 3 (.slice A n cap) n (flatR rs)
theorem ownR_len {w : World} {base n cap : Nat} {A : Option Addr} {rs : List Orow} (h : OwnR w base A n cap rs) : rs.length = n := by
  have := h.1; rw [flatR_len] at this; omega
/-- the cells of a row of the call's own -/
theorem ownR_cells {w : World} {base g n cap : Nat} {rs : List Orow} (h : OwnR w base (some ⟨g, 0, none⟩) n cap rs) {j : Nat} (hj : j < n) :
    w.cell? ⟨g, j * 3, none⟩ = some (.int .i64 (rs.getD j r0).u) ∧ w.cell? ⟨g, j * 3 + 1, none⟩ = some (.int .i64 (rs.getD j r0).f) ∧ w.cell? ⟨g, j * 3 + 2, none⟩ = some (.bool (rs.getD j r0).b) := by
  obtain ⟨b, o, e, _, _, h1, h2, h3⟩ := (RV.of_own h).atR (j := j) (by rw [ownR_len h]; exact hj)
  injection e with e; injection e with e1 e2; subst e1 e2
  rw [Nat.zero_add] at h1 h2 h3
  exact ⟨h1, h2, h3⟩
/-- a field stored -/
theorem ownR_set {w : World} {base g n cap : Nat} {rs : List Orow} (h : OwnR w base (some ⟨g, 0, none⟩) n cap rs) {j : Nat} (hj : j < n) (i : Nat) (v : Value) (y : Orow) (hi : i < 3) (hy : (encR (rs.getD j r0)).set i v = encR y) :
    OwnR (w.setCell ⟨g, j * 3 + i, none⟩ v) base (some ⟨g, 0, none⟩) n cap (rs.set j y) ∧ w.grownBy (w.setCell ⟨g, j * 3 + i, none⟩ v) (some g) := by
  have hl := ownR_len h
  have h1 := World.ownsRow.stored h (j * 3 + i) v
  rw [getD_get rs r0 (by omega)] at hy
  rw [show (flatR rs).set (j * 3 + i) v = flatR (rs.set j y) from flat_set encR_len rs j i (by omega) v y hi hy] at h1
  exact h1
theorem info_ent : (Try.prog.info? 25).map (fun i => (i.zero, i.size, i.bytes)) = some (some (.agg #[.int .i64 0, .int .i64 0, .int .i64 0, .int .i64 0]), 4, 32) := by kernel_rfl
abbrev OwnE (w : World) (base : Nat) (A : Option Addr) (n cap : Nat) (es : List Ent) : Prop := w.ownsRow base 25 4 (.slice A n cap) n (flatE es)
theorem ownE_len {w : World} {base n cap : Nat} {A : Option Addr} {es : List Ent} (h : OwnE w base A n cap es) : es.length = n := by
  have := h.1; rw [flatE_len] at this; omega
theorem ownE_cells {w : World} {base g n cap : Nat} {es : List Ent} (h : OwnE w base (some ⟨g, 0, none⟩) n cap es) {j : Nat} (hj : j < n) :
    w.cell? ⟨g, j * 4, none⟩ = some (.int .i64 (es.getD j e0).k) ∧ w.cell? ⟨g, j * 4 + 1, none⟩ = some (.int .i64 (es.getD j e0).t) ∧ w.cell? ⟨g, j * 4 + 2, none⟩ = some (.int .i64 (es.getD j e0).u) ∧ w.cell? ⟨g, j * 4 + 3, none⟩ = some (.int .i64 (es.getD j e0).p) := by
  obtain ⟨b, o, e, _, _, h1, h2, h3, h4⟩ := (RV.of_own h).atE (j := j) (by rw [ownE_len h]; exact hj)
  injection e with e; injection e with e1 e2; subst e1 e2
  rw [Nat.zero_add] at h1 h2 h3 h4
  exact ⟨h1, h2, h3, h4⟩
theorem ownE_set {w : World} {base g n cap : Nat} {es : List Ent} (h : OwnE w base (some ⟨g, 0, none⟩) n cap es) {j : Nat} (hj : j < n) (i : Nat) (v : Value) (y : Ent) (hi : i < 4) (hy : (encE (es.getD j e0)).set i v = encE y) :
    OwnE (w.setCell ⟨g, j * 4 + i, none⟩ v) base (some ⟨g, 0, none⟩) n cap (es.set j y) ∧ w.grownBy (w.setCell ⟨g, j * 4 + i, none⟩ v) (some g) := by
  have hl := ownE_len h
  have h1 := World.ownsRow.stored h (j * 4 + i) v
  rw [getD_get es e0 (by omega)] at hy
  rw [show (flatE es).set (j * 4 + i) v = flatE (es.set j y) from flat_set encE_len es j i (by omega) v y hi hy] at h1
  exact h1
end Go.Proofs.Ytbgljjmmominbaa
