/- Plain mathematics: what the laws on proofs say: no program in sight (but for the words 'treUp', 'treProof', 'conProof', 'conCheck'). -/
import Derived.Test.YtjacddjmconfaaaCon
namespace Go.Proofs.Ytjacddjmconfaaa
set_option linter.unusedVariables false
open Go.RowKit Pl

theorem treRoot_of {xs : List Int} (h : okL xs = true) : treeRoot xs = root xs := by unfold treeRoot; rw [if_pos h]
theorem inB_mk {n lo hi : Int} (a : lo ≤ n) (b : n ≤ hi) : inB n lo hi = true := inB_yes a b
theorem leaf_at {xs : List Int} (h : okL xs = true) {i : Nat} (hi : i < xs.length) : okI (xs.getD i 0) = true := okL_all h i hi
theorem treUp_incl {xs : List Int} (h : okL xs = true) {i : Nat} (hi : i < xs.length) : treUp xs.length i (xs.getD i 0) (incl xs i) = (root xs, true) := by
  have h40 := okL_len h
  have e := up_incl xs i hi
  rw [treUp_yes ⟨inB_mk (by omega) (by omega), inB_mk (by omega) (by omega), leaf_at h hi, (incl_ok xs h i).1⟩ (by rw [e]), e]
/-- what is there is shown -/
theorem proof_shows {xs : List Int} (h : okL xs = true) {i : Int} (i0 : 0 ≤ i) (i1 : i < xs.length) :
    ((treUp xs.length i (xs.getD i.toNat 0) (treProof xs i)).2 && (treUp xs.length i (xs.getD i.toNat 0) (treProof xs i)).1 == treeRoot xs) = true := by
  obtain ⟨k, rfl⟩ := Int.eq_ofNat_of_zero_le i0
  have hk : k < xs.length := by omega
  rw [treProof_yes h (inB_mk (by omega) (by omega)), Int.toNat_natCast, treUp_incl h hk, treRoot_of h]
  simp
/-- the proof's length -/
theorem proof_len {xs : List Int} (h : okL xs = true) {i : Int} (i0 : 0 ≤ i) (i1 : i < xs.length) (d : Nat) (hd : xs.length ≤ 2 ^ d) : (treProof xs i).length ≤ d ∧ (2 ≤ xs.length → 1 ≤ (treProof xs i).length) := by
  rw [treProof_yes h (inB_mk (by omega) (by omega))]
  have := incl_main d xs hd h i.toNat
  exact ⟨this.2.2, this.2.1⟩
/-- no leaves that are not ok, no such leaf: no proof -/
theorem proof_none {xs : List Int} {i : Int} (h : okL xs = false ∨ i < 0 ∨ (xs.length : Int) ≤ i) : treProof xs i = [] := by
  apply treProof_no
  rintro ⟨h1, h2⟩
  have := inB_iff.1 h2
  rcases h with h | h | h
  · rw [h] at h1; cases h1
  · omega
  · omega
/-- a leaf that turns -/
theorem set_ok {xs : List Int} (h : okL xs = true) (i : Nat) {y : Int} (hy : okI y = true) : okL (xs.set i y) = true := by
  rw [okL_iff] at h ⊢
  refine ⟨by simpa using h.1, fun x hx => ?_⟩
  rcases List.mem_or_eq_of_mem_set hx with hx | rfl
  · exact h.2 x hx
  · exact hy
theorem proof_turned {xs : List Int} (h : okL xs = true) {i : Int} (i0 : 0 ≤ i) (i1 : i < xs.length) {y : Int} (hy : okI y = true) : treProof (xs.set i.toNat y) i = treProof xs i := by
  rw [treProof_yes h (inB_mk (by omega) (by omega)), treProof_yes (set_ok h _ hy) (inB_mk (by omega) (by simp; omega))]
  exact incl_set xs i.toNat y (by omega)
/-- growth is shown -/
theorem growth_shows {xs : List Int} (h : okL xs = true) {m : Nat} (m1 : 1 ≤ m) (m2 : m ≤ xs.length) : conCheck m (treeRoot (xs.take m)) xs.length (treeRoot xs) (conProof xs m) = true := by
  have h40 := okL_len h
  have ht := okL_take h m
  rw [conProof_yes h (inB_mk (by omega) (by omega)), treRoot_of h, treRoot_of ht]
  rw [conCheck_yes ⟨inB_mk (by omega) (by omega), inB_mk (by omega) (by omega), root_ok ht, root_ok h, grow_okL true h m1 m2⟩]
  unfold conV
  rw [grown_grow xs m true _ (by omega) m1 m2 (fun _ => rfl)]
  simp
theorem growth_none {xs : List Int} {m : Int} (h : okL xs = false ∨ m < 1 ∨ (xs.length : Int) < m) : conProof xs m = [] := by
  apply conProof_no
  rintro ⟨h1, h2⟩
  have := inB_iff.1 h2
  rcases h with h | h | h
  · rw [h] at h1; cases h1
  · omega
  · omega
theorem growth_same {xs : List Int} (h : okL xs = true) (h1 : 1 ≤ xs.length) : conProof xs xs.length = [] := by
  rw [conProof_yes h (inB_mk (by omega) (by omega)), grow_all, if_pos rfl]
theorem conProof_few (xs : List Int) (m : Int) : (conProof xs m).length ≤ 40 := by
  by_cases hg : okL xs = true ∧ inB m 1 (xs.length : Int) = true
  · obtain ⟨hg1, hg2⟩ := hg
    have hg3 := inB_iff.1 hg2
    obtain ⟨k, rfl⟩ := Int.eq_ofNat_of_zero_le (show 0 ≤ m by omega)
    rw [conProof_yes hg1 hg2]
    have := grow_len xs k true (by omega) (by omega)
    have := okL_len hg1
    omega
  · rw [conProof_no hg]; simp
theorem treProof_few (xs : List Int) (i : Int) : (treProof xs i).length ≤ 6 := by
  by_cases hg : okL xs = true ∧ inB i 0 ((xs.length : Int) - 1) = true
  · rw [treProof_yes hg.1 hg.2]; exact (incl_ok xs hg.1 i.toNat).2.2
  · rw [treProof_no hg]; simp
/-- what is shown is shown from and to no other root -/
theorem con_true {m old n r : Int} {p : List Int} (h : conCheck m old n r p = true) : conG m old n r p ∧ conV m old n r p = true := by
  by_cases hg : conG m old n r p
  · rw [conCheck_yes hg] at h; exact ⟨hg, h⟩
  · rw [conCheck_no hg] at h; cases h
theorem con_root {m old n r : Int} {p : List Int} (h : conCheck m old n r p = true) {s : Int} (hs : s ≠ r) : conCheck m old n s p = false := by
  obtain ⟨hg, hv⟩ := con_true h
  by_cases hg2 : conG m old n s p
  · rw [conCheck_yes hg2]
    unfold conV at *
    simp at hv
    simp [hv.1]
    intro _ e
    rw [hv.2.2] at e
    exact hs e.symm
  · exact conCheck_no hg2
theorem con_same {n old r : Int} {p : List Int} (h : conCheck n old n r p = true) : old = r ∧ p = [] := by
  obtain ⟨_, hv⟩ := con_true h
  unfold conV at hv
  rw [grown_known] at hv
  simp at hv
  exact ⟨hv.2, hv.1⟩
end Go.Proofs.Ytjacddjmconfaaa
