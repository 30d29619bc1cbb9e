/- Contracts: small draws (reference, layer 20). -/
import Derived.Test.YtandjjbfhcifiaaRead
namespace Go.Proofs.Ytandjjbfhcifiaa
set_option linter.unusedVariables false
open Go.RowKit Pl

/-- a table of numbers that the call itself has laid, read at some place -/
theorem table_at (l : List Int) (cs : Array Value) (hcs : cs = (l.map (Value.int .i64)).toArray) {w : World} {H : Nat} {v : Nat} (h : w.heap[H]? = some (.cells cs 3 (0, 0))) (hv : v < l.length) :
    ∃ z : Int, w.cell? ⟨H, v, none⟩ = some (.int .i64 z) ∧ z ∈ l := by
  subst hcs
  refine ⟨l[v], ?_, List.getElem_mem _⟩
  rw [cell_of_row w H v _ _ _ h]
  simp [hv]
theorem new_block (w : World) (o : Obj) : (w.alloc o).heap[w.heap.size]? = some o := heap_alloc_new w o
theorem block_kept {w w' : World} {g H : Nat} {o : Obj} (h : w.heap[H]? = some o) (hg : w.grownBy w' (some g)) (hne : H ≠ g) : w'.heap[H]? = some o :=
  (hg.block H (Array.getElem?_eq_some_iff.1 h).1 (by simpa using hne)).trans h

/-- a bool, and what has been read -/
def OddRes (w : World) (g P : Nat) (e : Ending) (w' : World) : Prop := ∃ b : Bool, e = .returned (.bool b) ∧ Rd w' g (P + 1) ∧ w.grownBy w' (some g)
theorem odd_any (w : World) (g P : Nat) (n : Int) (h : Rd w g P) (hP : P ≤ 1000000) (hn : n ≤ 1000000) (hn0 : 0 ≤ n) : Calls Try.prog 69 #[.pointer (some ⟨g, 0, none⟩), .int .i64 n] w (OddRes w g P) := by
  go_enter Try.func69, Try.ntmps69
  go_wp2_with (go_at_call 59; refine (pick_any _ g P _ h hP (by omega)).mono ?_; rintro e w1 ⟨v, rfl, hv1, hv2, hr, hg⟩)
  go_ret
  exact ⟨_, rfl, hr, hg⟩

/-- a number, whichever; and what has been read -/
def MixRes (w : World) (g P : Nat) (e : Ending) (w' : World) : Prop := ∃ v : Int, e = .returned (.int .i64 v) ∧ Rd w' g (P + 4) ∧ w.grownBy w' (some g)
set_option maxHeartbeats 1000000 in
theorem mix_any (w : World) (g P : Nat) (n : Int) (h : Rd w g P) (hP : P ≤ 900000) (hn : n ≤ 1000000) (hn0 : 0 ≤ n) : Calls Try.prog 55 #[.pointer (some ⟨g, 0, none⟩), .int .i64 n] w (MixRes w g P) := by
  have hgl := h.lt
  go_enter Try.func55, Try.ntmps55
  go_wp2_with fail
  refine (odd_any _ g P _ h (by omega) hn hn0).mono ?_
  rintro e w1 ⟨b, rfl, hr1, hg1⟩
  have hs1 := hg1.size
  cases b
  · go_wp2_with fail
    refine (pick_any _ g _ _ hr1 (by omega) (by omega)).mono ?_
    rintro e w2 ⟨v, rfl, hv1, _, hr2, hg2⟩
    have hv := hv1 (by omega)
    clear hv1
    go_wp2_with fail
    refine (pick_any _ g _ _ hr2 (by omega) (by omega)).mono ?_
    rintro e w3 ⟨u, rfl, hu1, _, hr3, hg3⟩
    have hu := hu1 (by omega)
    clear hu1
    have hs2 := hg2.size
    have hs3 := hg3.size
    go_wp2_with fail
    refine (pick_any _ g _ _ (hr3.alloc _) (by omega) (by omega)).mono ?_
    rintro e w4 ⟨x, rfl, hx1, _, hr4, hg4⟩
    have hx := hx1 (by omega)
    obtain ⟨z, hz, hm⟩ := table_at [0, 1, 65520, (v : Int) * 255 + (u : Int)] _ rfl (block_kept (new_block w3 _) hg4 (by omega)) (v := x) (by simp; omega)
    clear hx1 hm
    have HG := Lib.hid (grownBy_trans (grownBy_alloc (grownBy_trans (grownBy_trans hg1 hg2) hg3) _) hg4)
    clear hg1 hg2 hg3 hg4
    go_wp2_with fail
    go_ret
    exact ⟨z, rfl, hr4, HG.out⟩
  · go_wp2_with fail
    refine (pick_any _ g _ _ (hr1.alloc _) (by omega) (by omega)).mono ?_
    rintro e w2 ⟨x, rfl, hx1, _, hr2, hg2⟩
    have hx := hx1 (by omega)
    obtain ⟨z, hz, hm⟩ := table_at [-1, 65521, 9223372036854775807] _ rfl (block_kept (new_block w1 _) hg2 (by omega)) (v := x) (by simp; omega)
    clear hx1 hm
    have HG := Lib.hid (grownBy_trans (grownBy_alloc hg1 _) hg2)
    clear hg1 hg2
    go_wp2_with fail
    go_ret
    exact ⟨z, rfl, hr2.more (by omega), HG.out⟩
end Go.Proofs.Ytandjjbfhcifiaa
