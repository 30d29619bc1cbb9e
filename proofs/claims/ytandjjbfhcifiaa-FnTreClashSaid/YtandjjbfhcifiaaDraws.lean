/- Contracts: what the laws draw (reference, layer 20), the simple ones. -/
import Derived.Test.YtandjjbfhcifiaaLeaves
namespace Go.Proofs.Ytandjjbfhcifiaa
set_option linter.unusedVariables false
open Go.RowKit Pl

/-- a number, whichever -/
def AnyNum (w : World) (e : Ending) (w' : World) : Prop := ∃ v : Int, e = .returned (.int .i64 v) ∧ Below w.heap.size w w'
/-- two numbers, whichever -/
def TwoNums (w : World) (e : Ending) (w' : World) : Prop := ∃ u v : Int, e = .returned (.tuple #[.int .i64 u, .int .i64 v]) ∧ Below w.heap.size w w'
/-- numbers in new memory -/
structure List_ (w w' : World) (A : Option Addr) (n c : Nat) (xs : List Int) : Prop where
  len : xs.length = n
  few : n ≤ 100
  cap : n ≤ c
  reads : RI w' w.heap.size A xs
  below : Below w.heap.size w w'
def ListRes (w : World) (e : Ending) (w' : World) : Prop := ∃ A n c xs, e = .returned (.slice A n c) ∧ List_ w w' A n c xs
/-- numbers in new memory, and one number from lo on, hi at most -/
def ListNum (w : World) (lo hi : Int) (e : Ending) (w' : World) : Prop := ∃ (A : Option Addr) (n c : Nat) (xs : List Int) (i : Int), e = .returned (.tuple #[.slice A n c, .int .i64 i]) ∧ lo ≤ i ∧ i ≤ hi ∧ List_ w w' A n c xs

theorem DrawMixOk_any (w : World) (A : Option Addr) (n c : Nat) (bs : List Int) (h : Bytes w A n c bs) (hn : n ≤ 140737488351232) : Calls Try.prog 17 #[.slice A n c] w (AnyNum w) := by
  go_enter Try.func17, Try.ntmps17
  go_wp2_with fail
  refine (open_any _ A n c bs h hn).mono ?_
  rintro e w1 ⟨rfl, hr1, hb1⟩
  have hs1 := hr1.lt
  go_wp2_with fail
  refine (mix_any _ _ _ _ hr1 (by omega) (by omega) (by omega)).mono ?_
  rintro e w2 ⟨v, rfl, hr2, hg2⟩
  go_wp2_with fail
  go_ret
  exact ⟨v, rfl, hb1.trans (below_of_grown hg2 (by omega))⟩
theorem DrawMixPair_any (w : World) (A : Option Addr) (n c : Nat) (bs : List Int) (h : Bytes w A n c bs) (hn : n ≤ 140737488351232) : Calls Try.prog 16 #[.slice A n c] w (TwoNums w) := by
  go_enter Try.func16, Try.ntmps16
  go_wp2_with fail
  refine (open_any _ A n c bs h hn).mono ?_
  rintro e w1 ⟨rfl, hr1, hb1⟩
  have hs1 := hr1.lt
  go_wp2_with fail
  refine (mix_any _ _ _ _ hr1 (by omega) (by omega) (by omega)).mono ?_
  rintro e w2 ⟨u, rfl, hr2, hg2⟩
  go_wp2_with fail
  refine (mix_any _ _ _ _ hr2 (by omega) (by omega) (by omega)).mono ?_
  rintro e w3 ⟨v, rfl, hr3, hg3⟩
  go_wp2_with fail
  go_ret2
  exact ⟨u, v, rfl, hb1.trans (below_of_grown (grownBy_trans hg2 hg3) (by omega))⟩
theorem list_of_leaves {w w1 w2 : World} {A : Option Addr} {n c : Nat} {xs : List Int} (hb1 : Below w.heap.size w w1) (hl : xs.length = n) (hn : n ≤ 100) (ho : OwnI w2 w1.heap.size A n c xs) (hg : w1.grownBy w2 (some w.heap.size)) : List_ w w2 A n c xs :=
  ⟨hl, hn, own_cap ho, (RK.of_own ho).less hb1.size, hb1.trans (below_of_grown hg hb1.size)⟩
set_option maxHeartbeats 400000 in
theorem DrawTreOk_any (w : World) (A : Option Addr) (n c : Nat) (bs : List Int) (h : Bytes w A n c bs) (hn : n ≤ 140737488351232) : Calls Try.prog 29 #[.slice A n c] w (ListRes w) := by
  go_enter Try.func29, Try.ntmps29
  go_wp2_with fail
  refine (open_any _ A n c bs h hn).mono ?_
  rintro e w1 ⟨rfl, hr1, hb1⟩
  go_wp2_with fail
  refine (leaves_any _ _ _ _ hr1 (by omega) (by omega) (by omega)).mono ?_
  rintro e w2 ⟨A2, n2, c2, xs, rfl, hl, hn2, ho, hr2, hg2⟩
  have L := list_of_leaves hb1 hl hn2 ho hg2
  clear hl hn2 ho hr2 hg2
  go_wp2_with fail
  go_ret
  exact ⟨_, _, _, xs, rfl, L⟩
set_option maxHeartbeats 400000 in
theorem DrawTreRoot_any (w : World) (A : Option Addr) (n c : Nat) (bs : List Int) (h : Bytes w A n c bs) (hn : n ≤ 140737488351232) : Calls Try.prog 32 #[.slice A n c] w (ListRes w) := by
  go_enter Try.func32, Try.ntmps32
  go_wp2_with fail
  refine (open_any _ A n c bs h hn).mono ?_
  rintro e w1 ⟨rfl, hr1, hb1⟩
  go_wp2_with fail
  refine (leaves_any _ _ _ _ hr1 (by omega) (by omega) (by omega)).mono ?_
  rintro e w2 ⟨A2, n2, c2, xs, rfl, hl, hn2, ho, hr2, hg2⟩
  have L := list_of_leaves hb1 hl hn2 ho hg2
  clear hl hn2 ho hr2 hg2
  go_wp2_with fail
  go_ret
  exact ⟨_, _, _, xs, rfl, L⟩
theorem List_.read {w w1 w2 : World} {A : Option Addr} {n c : Nat} {xs : List Int} (h : List_ w w1 A n c xs) (hr : RI w2 w.heap.size A xs) (hb : Below w.heap.size w1 w2) : List_ w w2 A n c xs := ⟨h.len, h.few, h.cap, hr, h.below.trans hb⟩
set_option maxHeartbeats 400000 in
theorem DrawTreProof_any (w : World) (A : Option Addr) (n c : Nat) (bs : List Int) (h : Bytes w A n c bs) (hn : n ≤ 140737488351232) : Calls Try.prog 35 #[.slice A n c] w (ListNum w (-1) 200) := by
  go_enter Try.func35, Try.ntmps35
  go_wp2_with fail
  refine (open_any _ A n c bs h hn).mono ?_
  rintro e w1 ⟨rfl, hr1, hb1⟩
  have hs1 := hb1.size
  go_wp2_with fail
  refine (leaves_any _ _ _ _ hr1 (by omega) (by omega) (by omega)).mono ?_
  rintro e w2 ⟨A2, n2, c2, xs, rfl, hl, hn2, ho, hr2, hg2⟩
  have hs2 := hg2.size
  have L := Lib.hid (list_of_leaves hb1 hl hn2 ho hg2)
  have HO := Lib.hid (RK.of_own ho)
  clear hl ho hg2 hb1
  go_wp2_with fail
  refine (pick_any _ _ _ _ hr2 (by omega) (by omega)).mono ?_
  rintro e w3 ⟨v, rfl, hv1, _, hr3, hg3⟩
  have hv := hv1 (by omega)
  have L2 := L.out.read ((RK.kept HO.out hg3 hr1.lt).less hs1) (below_of_grown hg3 (by omega))
  clear hg3 hr3 hr2 hr1 L HO
  go_wp2_with fail
  go_ret2
  exact ⟨_, _, _, xs, _, rfl, by omega, by omega, L2⟩
set_option maxHeartbeats 400000 in
theorem DrawConProof_any (w : World) (A : Option Addr) (n c : Nat) (bs : List Int) (h : Bytes w A n c bs) (hn : n ≤ 140737488351232) : Calls Try.prog 48 #[.slice A n c] w (ListNum w 0 200) := by
  go_enter Try.func48, Try.ntmps48
  go_wp2_with fail
  refine (open_any _ A n c bs h hn).mono ?_
  rintro e w1 ⟨rfl, hr1, hb1⟩
  have hs1 := hb1.size
  go_wp2_with fail
  refine (leaves_any _ _ _ _ hr1 (by omega) (by omega) (by omega)).mono ?_
  rintro e w2 ⟨A2, n2, c2, xs, rfl, hl, hn2, ho, hr2, hg2⟩
  have hs2 := hg2.size
  have L := Lib.hid (list_of_leaves hb1 hl hn2 ho hg2)
  have HO := Lib.hid (RK.of_own ho)
  clear hl ho hg2 hb1
  go_wp2_with fail
  refine (pick_any _ _ _ _ hr2 (by omega) (by omega)).mono ?_
  rintro e w3 ⟨v, rfl, hv1, _, hr3, hg3⟩
  have hv := hv1 (by omega)
  have L2 := L.out.read ((RK.kept HO.out hg3 hr1.lt).less hs1) (below_of_grown hg3 (by omega))
  clear hg3 hr3 hr2 hr1 L HO
  go_wp2_with fail
  go_ret2
  exact ⟨_, _, _, xs, _, rfl, by omega, by omega, L2⟩
end Go.Proofs.Ytandjjbfhcifiaa
