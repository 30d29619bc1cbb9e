/- Contracts: a reader opened over what came in; leaves drawn. -/
import Derived.Test.YtbgljjmmominbaaDraw
namespace Go.Proofs.Ytbgljjmmominbaa
set_option linter.unusedVariables false
open Go.RowKit Pl

/-- bytes that came in -/
structure Bytes (w : World) (A : Option Addr) (n c : Nat) (bs : List Int) : Prop where
  len : bs.length = n
  cap : n ≤ c
  reads : RK .u8 w 0 A bs
  rng : ∀ j, j < n → 0 ≤ bs.getD j 0 ∧ bs.getD j 0 ≤ 255
theorem Bytes.cut {w : World} {A : Option Addr} {n c : Nat} {bs : List Int} (h : Bytes w A n c bs) (k : Nat) (hk : k ≤ n) : Bytes w A k c (bs.take k) :=
  ⟨by have := h.len; simp; omega, by have := h.cap; omega, h.reads.take k, fun j hj => by
    have : (bs.take k).getD j 0 = bs.getD j 0 := by simp [List.getD, hj]
    rw [this]
    exact h.rng j (by omega)⟩
theorem Bytes.rd {w : World} {A : Option Addr} {n c : Nat} {bs : List Int} (h : Bytes w A n c bs) (hn : n ≤ 2000) : Rd (w.alloc (.cells #[.slice A n c, .int .i64 0] 95)) w.heap.size 0 := by
  refine ⟨A, n, c, 0, bs, heap_alloc_new w _, h.len, hn, Nat.le_refl _, h.rng, fun h0 => ?_⟩
  obtain ⟨b, o, e, _, hb, hc⟩ := h.reads (by have := h.len; omega)
  refine ⟨b, o, e, hb, fun j hj => ?_⟩
  rw [World.cell?_alloc_lt _ _ _ hb]
  exact hc j (by have := h.len; omega)
def OpenRes (w : World) (e : Ending) (w' : World) : Prop := e = .returned (.pointer (some ⟨w.heap.size, 0, none⟩)) ∧ Rd w' w.heap.size 0 ∧ Below w.heap.size w w'
theorem open_any (w : World) (A : Option Addr) (n c : Nat) (bs : List Int) (h : Bytes w A n c bs) (hn : n ≤ 140737488351232) : Calls Try.prog 81 #[.slice A n c] w (OpenRes w) := by
  have hc := h.cap
  by_cases h2 : n ≤ 2000
  · have H := Lib.hid (h.rd h2)
    clear h
    go_enter Try.func81, Try.ntmps81
    go_wp2
    go_ret
    exact ⟨rfl, H.out, (Below.refl _ _).alloc (Nat.le_refl _) _⟩
  · have H := Lib.hid ((h.cut 2000 (by omega)).rd (by omega))
    have h3 : 2000 < n := by omega
    have h4 : 2000 ≤ c := by omega
    clear h h2
    go_enter Try.func81, Try.ntmps81
    go_wp2
    go_ret
    exact ⟨rfl, H.out, (Below.refl _ _).alloc (Nat.le_refl _) _⟩

/-- leaves drawn: some numbers in a row of the call's own -/
def LeavesRes (w : World) (g P : Nat) (e : Ending) (w' : World) : Prop :=
  ∃ A n c xs, e = .returned (.slice A n c) ∧ xs.length = n ∧ n ≤ 100 ∧ OwnI w' w.heap.size A n c xs ∧ Rd w' g (P + 300) ∧ w.grownBy w' (some g)
end Go.Proofs.Ytbgljjmmominbaa
