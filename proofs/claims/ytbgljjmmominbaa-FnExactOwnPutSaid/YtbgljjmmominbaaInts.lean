/- Contracts: the exact laws' own helpers on rows of numbers: a copy, marks, whether marks are held. -/
import Derived.Test.YtbgljjmmominbaaSame
namespace Go.Proofs.Ytbgljjmmominbaa
set_option linter.unusedVariables false
open Go.RowKit

/-- the marks k, k + 1, .. -/
def marks : Nat → Int → List Int
  | 0, _ => []
  | n + 1, k => k :: marks n (k + 1)
theorem marks_len (n : Nat) : ∀ k, (marks n k).length = n := by
  induction n with
  | zero => intro k; rfl
  | succ n ih => intro k; simp [marks, ih]
theorem marks_at (n : Nat) : ∀ (k : Int) (j : Nat), j < n → (marks n k).getD j 0 = k + j := by
  induction n with
  | zero => intro k j h; omega
  | succ n ih =>
    intro k j h
    cases j with
    | zero => simp [marks]
    | succ j =>
      have := ih (k + 1) j (by omega)
      simp only [marks, List.getD_cons_succ]
      rw [this]; omega
/-- the first j have been marked, the others are as they were -/
def half (ys : List Int) (k : Int) (j : Nat) : List Int := marks j k ++ ys.drop j
theorem half_zero (ys : List Int) (k : Int) : half ys k 0 = ys := by simp [half, marks]
theorem marks_snoc (j : Nat) : ∀ k : Int, marks (j + 1) k = marks j k ++ [k + j] := by
  induction j with
  | zero => intro k; simp [marks]
  | succ j ih =>
    intro k
    rw [marks, ih (k + 1), marks]
    simp only [List.cons_append, List.cons.injEq, true_and]
    congr 2
    omega
theorem half_step (ys : List Int) (k : Int) (j : Nat) (h : j < ys.length) : (half ys k j).set j (k + j) = half ys k (j + 1) := by
  have hl := marks_len j k
  unfold half
  rw [List.set_append_right _ _ (by omega), hl, Nat.sub_self, List.drop_eq_getElem_cons h, marks_snoc, List.append_assoc]
  rfl
theorem half_all (ys : List Int) (k : Int) (n : Nat) (h : ys.length = n) : half ys k n = marks n k := by
  unfold half
  rw [List.drop_of_length_le (by omega), List.append_nil]
/-- the first j have been copied, the others are 0 -/
def part (xs : List Int) (n j : Nat) : List Int := xs.take j ++ List.replicate (n - j) 0
theorem part_zero (xs : List Int) (n : Nat) : part xs n 0 = List.replicate n 0 := by simp [part]
theorem part_all (xs : List Int) (n : Nat) (h : xs.length = n) : part xs n n = xs := by
  unfold part
  rw [List.take_of_length_le (by omega), Nat.sub_self]
  simp
theorem part_step (xs : List Int) (n j : Nat) (h : j < xs.length) (hn : xs.length = n) : (part xs n j).set j (xs.getD j 0) = part xs n (j + 1) := by
  unfold part
  have hl : (xs.take j).length = j := by simp; omega
  rw [List.set_append_right _ _ (by omega), hl, Nat.sub_self, List.take_succ_eq_append_getElem h, List.append_assoc]
  congr 1
  rw [show n - j = (n - (j + 1)) + 1 by omega, List.replicate_succ]
  simp [List.getD, h]


/-- after the marks: the row holds them; nothing else has turned -/
def MarkRes (w : World) (base : Nat) (A : Option Addr) (n c : Nat) (k : Int) (e : Ending) (w' : World) : Prop := e = .returned (.int .i64 (k + n)) ∧ OwnI w' base A n c (marks n k) ∧ Below base w w' ∧ w.grownBy w' (Value.slice A n c).ownBlock
set_option maxHeartbeats 1000000 in
theorem markIntS_any (A : Option Addr) (n c base : Nat) (ys : List Int) (k : Int) (w : World) (ho : OwnI w base A n c ys) (hn : n ≤ 1500000) (k0 : 0 ≤ k) (k1 : k ≤ 100000000) : Calls Try.prog 43 #[.slice A n c, .int .i64 k] w (MarkRes w base A n c k) := by
  have HO := Lib.hid ho
  have HL := Lib.hid (own_len ho)
  clear ho
  go_enter Try.func43, Try.ntmps43
  go_wp2_with fail
  go_loopw [1, 5] (fun q i wr => ∃ j : Nat, j ≤ n ∧ i = .int .i64 (j : Int) ∧ q = .int .i64 (k + (j : Int)) ∧ OwnI wr base A n c (half ys k j) ∧ Below base w wr ∧ w.grownBy wr (Value.slice A n c).ownBlock) (fun _ i _ => n - (intOf i).toNat)
  case atStart => exact ⟨0, by omega, rfl, by simp, by rw [half_zero]; exact HO.out, Below.refl _ _, World.grownBy.refl _ _⟩
  case round =>
    obtain ⟨j, hj, rfl, rfl, ho, hb, hg⟩ := hrel
    have O := Lib.hid ho
    have B := Lib.hid hb
    have G := Lib.hid hg
    clear ho hb hg HO
    by_cases hlt : j < n
    · obtain ⟨g, c', hv, hbg, _⟩ := O.out.form (by omega)
      have hA : A = some ⟨g, 0, none⟩ := by injection hv
      subst hA
      have hs := Lib.hid (half_step ys k j (by rw [HL.out]; exact hlt))
      have hd := own_cell O.out hlt
      have hf := World.ownsRow.frozenAt O.out j
      generalize (half ys k j).getD j 0 = y at *
      clear hv
      go_wp2_with fail
      go_roundw
      case rel =>
        have h1 := own_stored O.out j (k + j)
        rw [hs.out] at h1
        exact ⟨j + 1, by omega, by go_num, by go_num, h1.1, B.out.setCell (p := ⟨g, j, none⟩) hbg _, grownBy_trans' G.out h1.2⟩
      case measure => simp [intOf]; omega
    · obtain rfl : j = n := by omega
      go_wp2_with fail
      go_ret
      have h1 := O.out
      rw [half_all ys k j HL.out] at h1
      exact ⟨rfl, h1, B.out, G.out⟩
set_option maxHeartbeats 1000000 in
theorem heldIntS_any (A : Option Addr) (n c L : Nat) (k : Int) (w : World) (hr : RI w L A (marks n k)) (hn : n ≤ 1500000) (k0 : 0 ≤ k) (k1 : k ≤ 100000000) : Calls Try.prog 44 #[.slice A n c, .int .i64 k] w fun e w' => e = .returned (.int .i64 (k + n)) ∧ w = w' := by
  have HR := Lib.hid hr
  clear hr
  go_enter Try.func44, Try.ntmps44
  go_wp2_with fail
  go_loop [1, 5] (fun q i => ∃ j : Nat, j ≤ n ∧ i = .int .i64 (j : Int) ∧ q = .int .i64 (k + (j : Int))) (fun _ i => n - (intOf i).toNat)
  case atStart => exact ⟨0, by omega, rfl, by simp⟩
  case round =>
    obtain ⟨j, hj, rfl, rfl⟩ := hrel
    by_cases hlt : j < n
    · obtain ⟨b, o, rfl, _, _, hcell⟩ := HR.out.at_ (j := j) (by rw [marks_len]; exact hlt)
      rw [marks_at n k j hlt] at hcell
      go_wp2_with fail
      go_round
      case rel => exact ⟨j + 1, by omega, by go_num, by go_num⟩
      case measure => simp [intOf]; omega
    · obtain rfl : j = n := by omega
      go_wp2_with fail
      go_ret
      exact ⟨rfl, rfl⟩
end Go.Proofs.Ytbgljjmmominbaa
