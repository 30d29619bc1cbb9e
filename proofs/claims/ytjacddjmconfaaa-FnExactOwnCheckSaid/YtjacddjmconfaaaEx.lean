/- What the walks of the exact laws stand on: rows of numbers handed on as copies. -/
import Derived.Test.YtjacddjmconfaaaRow
import Derived.Test.YtjacddjmconfaaaInts
namespace Go.Proofs.Ytjacddjmconfaaa
set_option linter.unusedVariables false
open Go.RowKit
/-- a law's end -/
def True_ (w : World) (e : Ending) (w' : World) : Prop := e = .returned (.bool true) ∧ Below w.heap.size w w'
theorem own_over {w w' : World} {base n c : Nat} {A : Option Addr} {ys : List Int} (h : OwnI w base A n c ys) (hb : Below w.heap.size w w') : OwnI w' base A n c ys := by
  refine ⟨h.1, ?_⟩
  rcases h.2 with h1 | ⟨g, cap, cur, hv, hB, hg, hr⟩
  · exact .inl h1
  · refine .inr ⟨g, cap, cur, hv, hB, ?_, hr⟩
    rw [hb.block g (by
      rcases Nat.lt_or_ge g w.heap.size with hlt | hge
      · exact hlt
      · rw [Array.getElem?_eq_none hge] at hg; cases hg)]
    exact hg
theorem below_on {B : Nat} {a b c : World} (h : Below B a b) (hB : B ≤ a.heap.size) (k : Below b.heap.size b c) : Below B a c := h.trans (k.mono (Nat.le_trans hB h.size))
/-- a copy -/
structure Copy (w : World) (A : Option Addr) (n c : Nat) (xs : List Int) (w' : World) : Prop where
  cap : n ≤ c
  own : OwnI w' w.heap.size A n c xs
  reads : RI w' w.heap.size A xs
  below : Below w.heap.size w w'
def CopyRes (w : World) (n : Nat) (xs : List Int) (e : Ending) (w' : World) : Prop := ∃ A c, e = .returned (.slice A n c) ∧ Copy w A n c xs w'
theorem copy_any (A : Option Addr) (n c : Nat) (xs : List Int) (w0 w : World) (hi : InK .i64 w0 A n c xs) (hb : Below w0.heap.size w0 w) (hn : n ≤ 1500000) : Calls Try.prog 16 #[.slice A n c] w (CopyRes w n xs) := by
  refine (toIntS_any A n c 0 xs w hi.len (hi.reads.below hb) hn).mono ?_
  rintro e w1 ⟨A1, n1, c1, rfl, hl1, ho1, hb1⟩
  have := hi.len
  obtain rfl : n1 = n := by omega
  exact ⟨A1, c1, rfl, own_cap ho1, ho1, RK.of_own ho1, hb1⟩
end Go.Proofs.Ytjacddjmconfaaa
