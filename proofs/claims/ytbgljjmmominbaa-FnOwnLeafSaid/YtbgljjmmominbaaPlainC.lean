/- Plain mathematics: mixing pairs and leaves tells its arguments apart: no program in sight. -/
import Derived.Test.YtbgljjmmominbaaPlain
namespace Go.Proofs.Ytbgljjmmominbaa.Pl
set_option linter.unusedVariables false

theorem small_div : ∀ d : Nat, d < 257 → 2 ≤ d → 65521 % d ≠ 0 := by decide +kernel
theorem prime_p (d : Nat) (h : d ∣ 65521) : d = 1 ∨ d = 65521 := by
  obtain ⟨e, he⟩ := h
  have hd0 : d ≠ 0 := by rintro rfl; simp at he
  have he0 : e ≠ 0 := by rintro rfl; simp at he
  by_cases h1 : d = 1
  · exact .inl h1
  · by_cases h2 : e = 1
    · subst h2; right; omega
    · exfalso
      rcases Nat.lt_or_ge d 257 with hd | hd
      · exact small_div d hd (by omega) (by rw [he]; simp)
      · rcases Nat.lt_or_ge e 257 with hee | hee
        · exact small_div e hee (by omega) (by rw [he]; simp)
        · have : 257 * 257 ≤ d * e := Nat.mul_le_mul hd hee
          omega
/-- a product that the modulus divides has a factor that it divides -/
theorem prime_mul (a b : Nat) (h : 65521 ∣ a * b) (h0 : 0 < a) (h1 : a < 65521) : 65521 ∣ b := by
  have hg : Nat.gcd 65521 a = 1 := by
    rcases prime_p (Nat.gcd 65521 a) (Nat.gcd_dvd_left _ _) with h2 | h2
    · exact h2
    · have := Nat.le_of_dvd h0 (Nat.gcd_dvd_right 65521 a); omega
  exact Nat.Coprime.dvd_of_dvd_mul_left hg h
theorem prime_imul {a b : Int} (h : a * b % 65521 = 0) (h0 : a ≠ 0) (h1 : -65521 < a) (h2 : a < 65521) : b % 65521 = 0 := by
  have hd : (65521 : Int) ∣ a * b := Int.dvd_of_emod_eq_zero h
  have hn : 65521 ∣ a.natAbs * b.natAbs := by
    have := Int.natAbs_dvd_natAbs.2 hd
    rwa [Int.natAbs_mul] at this
  have := prime_mul _ _ hn (by omega) (by omega)
  have h3 : (65521 : Int) ∣ b := Int.natAbs_dvd_natAbs.1 (by simpa using this)
  exact Int.emod_eq_zero_of_dvd h3
theorem pair_left {a b c : Int} (ha : okI a = true) (hb : okI b = true) (hc : okI c = true) (hne : c ≠ a) (hx : b ≠ 57330) : pairI c b ≠ pairI a b := by
  rw [okI_iff] at ha hb hc
  intro h
  unfold pairI at h
  have e : (c - a) * (8191 + b) % 65521 = 0 := by
    have e1 : (c - a) * (8191 + b) = (c * 8191 + b * 127 + c * b + 31) - (a * 8191 + b * 127 + a * b + 31) := by rw [Int.sub_mul, Int.mul_add, Int.mul_add]; omega
    rw [e1]; omega
  have := prime_imul e (by omega) (by omega) (by omega)
  omega
theorem pair_right {a b c : Int} (ha : okI a = true) (hb : okI b = true) (hc : okI c = true) (hne : c ≠ b) (hx : a ≠ 65394) : pairI a c ≠ pairI a b := by
  rw [okI_iff] at ha hb hc
  intro h
  unfold pairI at h
  have e : (c - b) * (127 + a) % 65521 = 0 := by
    have e1 : (c - b) * (127 + a) = (a * 8191 + c * 127 + a * c + 31) - (a * 8191 + b * 127 + a * b + 31) := by
      rw [Int.sub_mul, Int.mul_add, Int.mul_add, Int.mul_comm c a, Int.mul_comm b a]; omega
    rw [e1]; omega
  have := prime_imul e (by omega) (by omega) (by omega)
  omega

theorem step_inj_n {x n m : Int} (h : leafStep x n = leafStep x m) : n % 65521 = m % 65521 := by unfold leafStep at h; omega
theorem step_inj_x {x y n : Int} (hx : 0 ≤ x ∧ x < 65521) (hy : 0 ≤ y ∧ y < 65521) (h : leafStep x n = leafStep y n) : x = y := by
  unfold leafStep at h
  by_cases e : x = y
  · exact e
  · exfalso
    have e2 : (x - y) * 4099 % 65521 = 0 := by omega
    have := prime_imul e2 (by omega) (by omega) (by omega)
    omega
theorem mixLeaf_inj {l k : List Int} (hl : l.length = k.length) (h : mixLeafI l = mixLeafI k) : leafFold l = leafFold k := by
  have h1 := leafFold_rng l
  have h2 := leafFold_rng k
  unfold mixLeafI at h
  rw [hl] at h
  by_cases e : leafFold l = leafFold k
  · exact e
  · exfalso
    have e2 : (leafFold l - leafFold k) * 31 % 65521 = 0 := by omega
    have := prime_imul e2 (by omega) (by omega) (by omega)
    omega
theorem fold_split (l r : List Int) : leafFold (l ++ r) = r.foldl leafStep (leafFold l) := by simp [leafFold]
theorem foldl_inj (r : List Int) : ∀ x y : Int, (0 ≤ x ∧ x < 65521) → (0 ≤ y ∧ y < 65521) → r.foldl leafStep x = r.foldl leafStep y → x = y := by
  induction r with
  | nil => intro x y _ _ h; simpa using h
  | cons n r ih =>
    intro x y hx hy h
    simp only [List.foldl_cons] at h
    exact step_inj_x hx hy (ih _ _ (leafStep_rng _ _) (leafStep_rng _ _) h)
/-- one number turned, and not by a multiple of the modulus: another leaf -/
theorem mixLeaf_ne (l r : List Int) {n m : Int} (h : n % 65521 ≠ m % 65521) : mixLeafI (l ++ n :: r) ≠ mixLeafI (l ++ m :: r) := by
  intro e
  have e1 := mixLeaf_inj (by simp) e
  rw [fold_split, fold_split, List.foldl_cons, List.foldl_cons] at e1
  exact h (step_inj_n (foldl_inj r _ _ (leafStep_rng _ _) (leafStep_rng _ _) e1))
theorem mixLeaf_last {l : List Int} (h : l ≠ []) {m : Int} (hm : l.getLastD 0 % 65521 ≠ m % 65521) : mixLeafI (l.set (l.length - 1) m) ≠ mixLeafI l := by
  rcases List.eq_nil_or_concat l with rfl | ⟨t, a, rfl⟩
  · exact absurd rfl h
  · rw [List.concat_eq_append] at *
    have e : (t ++ [a]).set ((t ++ [a]).length - 1) m = t ++ [m] := by simp
    rw [e]
    have := mixLeaf_ne t [] (n := m) (m := a) (by simp at hm; exact fun e => hm e.symm)
    exact this

end Go.Proofs.Ytbgljjmmominbaa.Pl
