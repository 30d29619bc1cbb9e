/- Plain laws: folded rows. No function of the program in sight. -/
import Derived.Test.YtbgljjmmominbaaFold
namespace Go.Proofs.Ytbgljjmmominbaa
set_option linter.unusedVariables false
open Go.RowKit Pl
theorem foldP_no1 (es : List Ent) : ∀ rs, (foldP rs es).2 = false → (foldP rs es).1 = [] := by
  induction es with
  | nil => intro rs h; simp [foldP] at h
  | cons e es ih =>
    intro rs h
    cases hp : (ownPut rs e).2
    · rw [foldP_no hp]
    · rw [foldP_yes hp] at h ⊢; exact ih _ h
theorem ownFold_no1 {es : List Ent} (h : (ownFold es).2 = false) : (ownFold es).1 = [] := by
  by_cases hl : es.length ≤ 40
  · rw [ownFold_few hl] at h ⊢; exact foldP_no1 _ _ h
  · rw [ownFold_many (by omega)]
theorem ownFold_len {es : List Ent} (h : (ownFold es).2 = true) : es.length ≤ 40 := by
  by_cases hl : es.length ≤ 40
  · exact hl
  · rw [ownFold_many (by omega)] at h; cases h
theorem foldP_take (es : List Ent) : ∀ rs k, (foldP rs es).2 = true → (foldP rs (es.take k)).2 = true := by
  induction es with
  | nil => intro rs k h; simpa using h
  | cons e es ih =>
    intro rs k h
    cases k with
    | zero => rfl
    | succ k =>
      rw [List.take_succ_cons]
      cases hp : (ownPut rs e).2
      · rw [foldP_no hp] at h; cases h
      · rw [foldP_yes hp] at h ⊢; exact ih _ _ h
theorem ownFold_take {es : List Ent} (k : Nat) (h : (ownFold es).2 = true) : (ownFold (es.take k)).2 = true := by
  have hl := ownFold_len h
  rw [ownFold_few hl] at h
  rw [ownFold_few (by simp; omega)]
  exact foldP_take _ _ _ h
theorem rowsOk_set {rs : List Orow} {j : Nat} {y : Orow} (h : rowsOk rs = true) (hy : rowOk y = true) : rowsOk (rs.set j y) = true := by
  have hl := rowsOk_len8 h
  have h2 : rs.all rowOk = true := by
    unfold rowsOk at h
    rw [Bool.and_eq_true] at h
    exact h.2
  unfold rowsOk
  rw [Bool.and_eq_true]
  refine ⟨by simpa using hl, ?_⟩
  rw [List.all_eq_true] at h2 ⊢
  intro x hx
  rcases List.mem_or_eq_of_mem_set hx with hx | rfl
  · exact h2 x hx
  · exact hy
theorem put1_ok {r : Orow} {e : Ent} (hr : rowOk r = true) (he : okE e = true) (hf : fits1 r e = true) : rowOk (put1 r e) = true := by
  obtain ⟨k, t, u, p⟩ := e
  have hu : inB u 1 5 = true ∧ (if k = 1 then inB p 1 50 else if k = 2 then inB p 1 60 else k == 3 && p == 0) = true := by
    unfold okE entOk at he
    rw [Bool.and_eq_true, Bool.and_eq_true] at he
    exact ⟨he.1.2, he.2⟩
  have hface : r.u ≠ 0 → inB r.f 1 50 = true := by
    intro h
    unfold rowOk at hr
    rw [Bool.or_eq_true, Bool.and_eq_true, Bool.and_eq_true, Bool.and_eq_true] at hr
    rcases hr with ⟨⟨h1, _⟩, _⟩ | ⟨_, h1⟩
    · exact absurd (by simpa using h1) h
    · exact h1
  unfold put1
  by_cases k1 : k = 1
  · rw [if_pos k1]
    rw [if_pos k1] at hu
    unfold rowOk
    simp only [hu.1, hu.2, Bool.and_self, Bool.or_true]
  · rw [if_neg k1]
    unfold fits1 at hf
    rw [if_neg k1] at hf
    by_cases k2 : k = 2
    · rw [if_pos k2]
      rw [if_pos k2, Bool.and_eq_true] at hf
      have h0 : r.u ≠ 0 := by simpa using hf.1
      unfold rowOk
      simp only [hu.1, hface h0, Bool.and_self, Bool.or_true]
    · rw [if_neg k2]
      rw [if_neg k2, Bool.and_eq_true] at hf
      have he : r.u = u := by simpa using hf.1
      have h1 := inB_both hu.1
      have h0 : r.u ≠ 0 := by omega
      unfold rowOk
      simp only [he, hu.1, hface h0, Bool.and_self, Bool.or_true]
theorem ownPut_ok {rs : List Orow} {e : Ent} (h : rowsOk rs = true) : rowsOk (ownPut rs e).1 = true := by
  cases hf : ownFits rs e
  · rw [ownPut_no hf]; exact h
  · rw [ownPut_yes hf]
    obtain ⟨_, he, h1⟩ := ownFits_parts hf
    have ht := okE_t he
    exact rowsOk_set h (put1_ok (rowsOk_at h (by rw [rowsOk_len8 h]; omega)) he h1)
theorem foldP_ok (es : List Ent) : ∀ rs, rowsOk rs = true → (foldP rs es).2 = true → rowsOk (foldP rs es).1 = true := by
  induction es with
  | nil => intro rs h _; exact h
  | cons e es ih =>
    intro rs h h2
    cases hp : (ownPut rs e).2
    · rw [foldP_no hp] at h2; cases h2
    · rw [foldP_yes hp] at h2 ⊢; exact ih _ (ownPut_ok h) h2
theorem ownFold_ok {es : List Ent} (h : (ownFold es).2 = true) : rowsOk (ownFold es).1 = true := by
  have hl := ownFold_len h
  rw [ownFold_few hl] at h ⊢
  exact foldP_ok _ _ (by decide) h
theorem foldP_len (es : List Ent) : ∀ rs, (foldP rs es).1.length ≤ rs.length := by
  induction es with
  | nil => intro rs; exact Nat.le_refl _
  | cons e es ih =>
    intro rs
    cases hp : (ownPut rs e).2
    · rw [foldP_no hp]; simp
    · rw [foldP_yes hp]
      have := ih (ownPut rs e).1
      rw [ownPut_len] at this
      exact this
theorem ownFold_le (es : List Ent) : (ownFold es).1.length ≤ 8 := by
  by_cases hl : es.length ≤ 40
  · rw [ownFold_few hl]; exact foldP_len es _
  · rw [ownFold_many (by omega)]; simp
end Go.Proofs.Ytbgljjmmominbaa
