/- Plain mathematics: what a proof leads to, part by part; a clash found. No function of the program in sight. -/
import Derived.Test.YtjacddjmconfaaaPlainD
namespace Go.Proofs.Ytjacddjmconfaaa
set_option linter.unusedVariables false
open Go.RowKit Pl

theorem treUp_true {n i leaf : Int} {p : List Int} (h : (treUp n i leaf p).2 = true) : 1 ≤ n ∧ n ≤ 40 ∧ 0 ≤ i ∧ i < n ∧ okI leaf = true ∧ okL p = true ∧ (up n i leaf p).2 = true ∧ (treUp n i leaf p).1 = (up n i leaf p).1 := by
  by_cases hg : inB n 1 40 = true ∧ inB i 0 (n - 1) = true ∧ okI leaf = true ∧ okL p = true
  · cases hu : (up n i leaf p).2
    · rw [treUp_bad hu] at h; cases h
    · obtain ⟨h1, h2, h3, h4⟩ := hg
      have a := inB_iff.1 h1
      have b := inB_iff.1 h2
      rw [treUp_yes ⟨h1, h2, h3, h4⟩ hu]
      exact ⟨a.1, a.2, b.1, by omega, h3, h4, rfl, rfl⟩
  · rw [treUp_no hg] at h; cases h
theorem treUp_mk {n i leaf : Int} {p : List Int} (h1 : 1 ≤ n) (h2 : n ≤ 40) (h3 : 0 ≤ i) (h4 : i < n) (h5 : okI leaf = true) (h6 : okL p = true) (hu : (up n i leaf p).2 = true) : treUp n i leaf p = ((up n i leaf p).1, true) :=
  treUp_yes ⟨inB_mk h1 h2, inB_mk h3 (by omega), h5, h6⟩ hu
/-- what it leads to is a hash value -/
theorem treUp_rng {n i leaf x : Int} {p : List Int} (h : treUp n i leaf p = (x, true)) : 0 ≤ x ∧ x < 65521 := by
  obtain ⟨_, _, _, _, h5, _, _, h8⟩ := treUp_true (show (treUp n i leaf p).2 = true by rw [h])
  rw [h] at h8
  have := up_rng h5 p n i
  rw [← h8] at this
  exact okI_iff.1 this
theorem treUp_zero {n i leaf x : Int} {p : List Int} (h : treUp n i leaf p = (x, false)) : x = 0 := by
  by_cases hg : inB n 1 40 = true ∧ inB i 0 (n - 1) = true ∧ okI leaf = true ∧ okL p = true
  · cases hu : (up n i leaf p).2
    · rw [treUp_bad hu] at h; injection h with h1 _; exact h1.symm
    · rw [treUp_yes hg hu] at h; injection h with _ h2; cases h2
  · rw [treUp_no hg] at h; injection h with h1 _; exact h1.symm
theorem treUp_one {i leaf x : Int} {p : List Int} (h : treUp 1 i leaf p = (x, true)) : x = leaf ∧ p = [] := by
  obtain ⟨_, _, _, _, h5, _, h7, h8⟩ := treUp_true (show (treUp 1 i leaf p).2 = true by rw [h])
  rw [up_one] at h7 h8
  rw [h] at h8
  exact ⟨h8, by simpa using h7⟩
theorem snoc_of {n i leaf : Int} {p : List Int} (h : (up n i leaf p).2 = true) (hn : n ≠ 1) : ∃ p0 q, p = p0 ++ [q] := by
  rcases List.eq_nil_or_concat p with rfl | ⟨t, a, rfl⟩
  · rw [up_nil _ _ hn] at h; cases h
  · exact ⟨t, a, by rw [List.concat_eq_append]⟩
theorem okL_snoc {p : List Int} {q : Int} (h : okL (p ++ [q]) = true) : okL p = true ∧ okI q = true := by
  rw [okL_iff] at h
  refine ⟨okL_iff.2 ⟨by have := h.1; simp at this; omega, fun x hx => h.2 x (by simp [hx])⟩, h.2 q (by simp)⟩
/-- a proof of a part, and the number behind it -/
theorem treUp_parts {n i leaf x : Int} {p : List Int} (h : treUp n i leaf p = (x, true)) (hn : n ≠ 1) :
    ∃ p0 q, p = p0 ++ [q] ∧ okI q = true ∧ 2 ≤ n ∧ n ≤ 40 ∧ 0 ≤ i ∧ i < n ∧
      (i < splitI n → ∃ y, treUp (splitI n) i leaf p0 = (y, true) ∧ x = mixPairI y q) ∧ (splitI n ≤ i → ∃ y, treUp (n - splitI n) (i - splitI n) leaf p0 = (y, true) ∧ x = mixPairI q y) := by
  obtain ⟨h1, h2, h3, h4, h5, h6, h7, h8⟩ := treUp_true (show (treUp n i leaf p).2 = true by rw [h])
  obtain ⟨p0, q, rfl⟩ := snoc_of h7 hn
  obtain ⟨k1, k2⟩ := okL_snoc h6
  have s1 := splitI_pos n
  have s2 := splitI_lt (n := n) (by omega)
  rw [h] at h8
  refine ⟨p0, q, rfl, k2, by omega, h2, h3, h4, fun hi => ?_, fun hi => ?_⟩
  · rw [up_left _ _ _ hn hi] at h7 h8
    exact ⟨_, treUp_mk (by omega) (by omega) h3 hi h5 k1 h7, by rw [mixPair_yes (up_rng h5 _ _ _) k2]; exact h8⟩
  · rw [up_right _ _ _ hn hi] at h7 h8
    exact ⟨_, treUp_mk (by omega) (by omega) (by omega) (by omega) h5 k1 h7, by rw [mixPair_yes k2 (up_rng h5 _ _ _)]; exact h8⟩

/-! ## A clash -/
def clashG (xs : List Int) (i leaf : Int) (p : List Int) : Prop := okL xs = true ∧ ((treUp xs.length i leaf p).2 && (treUp xs.length i leaf p).1 == treeRoot xs) = true ∧ (xs.getD i.toNat 0 == leaf) = false
instance (xs : List Int) (i leaf : Int) (p : List Int) : Decidable (clashG xs i leaf p) := by unfold clashG; infer_instance
def treClash (xs : List Int) (i leaf : Int) (p : List Int) : List Int := if clashG xs i leaf p then clash xs i leaf p else []
theorem treClash_yes {xs : List Int} {i leaf : Int} {p : List Int} (h : clashG xs i leaf p) : treClash xs i leaf p = clash xs i leaf p := by unfold treClash; rw [if_pos h]
theorem treClash_no {xs : List Int} {i leaf : Int} {p : List Int} (h : ¬ clashG xs i leaf p) : treClash xs i leaf p = [] := by unfold treClash; rw [if_neg h]
/-- what the guard of a clash gives -/
theorem clashG_true {xs : List Int} {i leaf : Int} {p : List Int} (h : clashG xs i leaf p) : okL xs = true ∧ 1 ≤ xs.length ∧ 0 ≤ i ∧ i < xs.length ∧ okI leaf = true ∧ okL p = true ∧ up xs.length i leaf p = (root xs, true) ∧ leaf ≠ xs.getD i.toNat 0 := by
  obtain ⟨h1, h2, h3⟩ := h
  rw [Bool.and_eq_true] at h2
  obtain ⟨a1, a2, a3, a4, a5, a6, a7, a8⟩ := treUp_true h2.1
  have e := h2.2
  rw [a8, treRoot_of h1] at e
  refine ⟨h1, by omega, a3, a4, a5, a6, Prod.ext (by simpa using e) a7, ?_⟩
  intro e2
  rw [← e2] at h3
  simp at h3
/-- who shows what is not there has found a clash -/
theorem treClash_law {xs : List Int} {i leaf : Int} {p : List Int} (h : clashG xs i leaf p) :
    ∃ a b c d, treClash xs i leaf p = [a, b, c, d] ∧ ((a != c) || (b != d)) = true ∧ (mixPairI a b == mixPairI c d) = true ∧ okI a = true ∧ okI b = true ∧ okI c = true ∧ okI d = true := by
  obtain ⟨h1, h2, h3, h4, h5, h6, h7, h8⟩ := clashG_true h
  obtain ⟨k, rfl⟩ := Int.eq_ofNat_of_zero_le h3
  obtain ⟨a, b, c, d, e1, e2, e3, e4, e5, e6, e7⟩ := clash_law xs k leaf p h1 h5 (okL_iff.1 h6).2 (by omega) h7 (by simpa using h8)
  refine ⟨a, b, c, d, by rw [treClash_yes h, e1], by simpa using e2, ?_, e4, e5, e6, e7⟩
  rw [mixPair_yes e4 e5, mixPair_yes e6 e7, e3]
  simp
end Go.Proofs.Ytjacddjmconfaaa
