/- Plain mathematics of hashing, trees and proofs: no program in sight. -/
namespace Go.Proofs.Ytbgljjmmominbaa.Pl
set_option linter.unusedVariables false

/-! ## Hash values -/
def okI (n : Int) : Bool := decide (0 ≤ n ∧ n < 65521)
theorem okI_iff {n : Int} : okI n = true ↔ 0 ≤ n ∧ n < 65521 := by simp [okI]
theorem okI_no {n : Int} : okI n = false ↔ ¬ (0 ≤ n ∧ n < 65521) := by simp [okI]
theorem okI_of {n : Int} (a : 0 ≤ n) (b : n < 65521) : okI n = true := okI_iff.2 ⟨a, b⟩

def pairI (a b : Int) : Int := (a * 8191 + b * 127 + a * b + 31) % 65521
theorem pair_lo (a b : Int) : 0 ≤ pairI a b := by unfold pairI; omega
theorem pair_hi (a b : Int) : pairI a b < 65521 := by unfold pairI; omega
theorem pair_ok (a b : Int) : okI (pairI a b) = true := okI_of (pair_lo a b) (pair_hi a b)
def mixPairI (a b : Int) : Int := if okI a = true ∧ okI b = true then pairI a b else 0
theorem mixPair_yes {a b : Int} (ha : okI a = true) (hb : okI b = true) : mixPairI a b = pairI a b := if_pos ⟨ha, hb⟩

/-- what a product of two values below the modulus is bounded by -/
theorem mul_hi {a b : Int} (a0 : 0 ≤ a) (a1 : a < 65521) (b0 : 0 ≤ b) (b1 : b < 65521) : 0 ≤ a * b ∧ a * b ≤ 4293001441 := by
  refine ⟨Int.mul_nonneg a0 b0, ?_⟩
  have h1 : a * b ≤ 65521 * b := Int.mul_le_mul_of_nonneg_right (by omega) b0
  omega

/-! ## Leaves -/
def leafStep (x n : Int) : Int := (x * 4099 + n % 65521 + 11) % 65521
def leafFold (l : List Int) : Int := l.foldl leafStep 7
def mixLeafI (l : List Int) : Int := (leafFold l * 31 + l.length) % 65521
theorem leafStep_rng (x n : Int) : 0 ≤ leafStep x n ∧ leafStep x n < 65521 := by unfold leafStep; omega
theorem leafFold_snoc (l : List Int) (n : Int) : leafFold (l ++ [n]) = leafStep (leafFold l) n := by simp [leafFold]
theorem leafFold_rng (l : List Int) : 0 ≤ leafFold l ∧ leafFold l < 65521 := by
  rcases List.eq_nil_or_concat l with rfl | ⟨t, a, rfl⟩
  · simp [leafFold]
  · rw [List.concat_eq_append, leafFold_snoc]; exact leafStep_rng _ _
theorem mixLeaf_rng (l : List Int) : 0 ≤ mixLeafI l ∧ mixLeafI l < 65521 := by unfold mixLeafI; omega
theorem mixLeaf_ok (l : List Int) : okI (mixLeafI l) = true := okI_of (mixLeaf_rng l).1 (mixLeaf_rng l).2

/-! ## Where a tree is parted -/
def splitN (n : Nat) : Nat := if n ≤ 2 then 1 else if n ≤ 4 then 2 else if n ≤ 8 then 4 else if n ≤ 16 then 8 else if n ≤ 32 then 16 else 32
theorem split_pos (n : Nat) : 1 ≤ splitN n := by unfold splitN; (repeat' split) <;> omega
theorem split_lt {n : Nat} (h : 2 ≤ n) : splitN n < n := by unfold splitN; (repeat' split) <;> omega
theorem split_ge {n : Nat} (h : n ≤ 64) : n ≤ 2 * splitN n := by unfold splitN; (repeat' split) <;> omega
def splitI (n : Int) : Int := splitN n.toNat
theorem splitI_cast (n : Nat) : splitI (n : Int) = (splitN n : Int) := by simp [splitI]
theorem splitI_pos (n : Int) : 1 ≤ splitI n := by have := split_pos n.toNat; unfold splitI; omega
theorem splitI_lt {n : Int} (h : 2 ≤ n) : splitI n < n := by have := split_lt (n := n.toNat) (by omega); unfold splitI; omega

def pow2 (k : Int) : Prop := k = 1 ∨ k = 2 ∨ k = 4 ∨ k = 8 ∨ k = 16 ∨ k = 32
theorem split_step {n k : Int} (h : pow2 k) (hk : 2 * k < n) (hn : n ≤ 40) : 2 * k ≤ splitI n ∧ pow2 (2 * k) ∧ 1 ≤ k ∧ k ≤ 16 := by
  unfold pow2 splitI splitN at *
  rcases h with rfl | rfl | rfl | rfl | rfl | rfl
  all_goals (refine ⟨?_, by omega, by omega, by omega⟩; (repeat' split) <;> omega)
theorem split_done {n k : Int} (h : pow2 k) (hk : ¬ 2 * k < n) (hle : k ≤ splitI n) (hn : n ≤ 40) : k = splitI n := by
  unfold pow2 splitI splitN at *
  rcases h with rfl | rfl | rfl | rfl | rfl | rfl
  all_goals ((repeat' split at hle) <;> (repeat' split) <;> omega)
theorem pow2_rng {k : Int} (h : pow2 k) : 1 ≤ k ∧ k ≤ 32 := by unfold pow2 at h; omega

/-! ## Roots -/
def okL (l : List Int) : Bool := decide (l.length ≤ 40) && l.all okI
theorem okL_iff {l : List Int} : okL l = true ↔ l.length ≤ 40 ∧ ∀ x ∈ l, okI x = true := by simp [okL, List.all_eq_true]
theorem okL_take {l : List Int} (h : okL l = true) (k : Nat) : okL (l.take k) = true := by
  rw [okL_iff] at h ⊢
  exact ⟨by have := h.1; simp; omega, fun x hx => h.2 x (List.mem_of_mem_take hx)⟩
theorem okL_drop {l : List Int} (h : okL l = true) (k : Nat) : okL (l.drop k) = true := by
  rw [okL_iff] at h ⊢
  exact ⟨by have := h.1; simp; omega, fun x hx => h.2 x (List.mem_of_mem_drop hx)⟩

def rootF : Nat → List Int → Int
  | 0, _ => 5
  | f + 1, l => if l.length = 0 then 5 else if l.length = 1 then l.headD 0 else pairI (rootF f (l.take (splitN l.length))) (rootF f (l.drop (splitN l.length)))
theorem rootF_more (f : Nat) : ∀ (g : Nat) (l : List Int), l.length ≤ f → l.length ≤ g → rootF f l = rootF g l := by
  induction f with
  | zero =>
    intro g l h _
    obtain rfl : l = [] := List.eq_nil_of_length_eq_zero (by omega)
    cases g <;> simp [rootF]
  | succ f ih =>
    intro g l h hg
    cases g with
    | zero =>
      obtain rfl : l = [] := List.eq_nil_of_length_eq_zero (by omega)
      simp [rootF]
    | succ g =>
      simp only [rootF]
      by_cases h0 : l.length = 0
      · simp [h0]
      · by_cases h1 : l.length = 1
        · simp [h1]
        · have hp := split_pos l.length
          have hl := split_lt (n := l.length) (by omega)
          rw [if_neg h0, if_neg h1, if_neg h0, if_neg h1, ih g _ (by simp; omega) (by simp; omega), ih g _ (by simp; omega) (by simp; omega)]
def root (l : List Int) : Int := rootF l.length l
theorem root_nil : root [] = 5 := rfl
theorem root_one (x : Int) : root [x] = x := rfl
theorem root_len0 {l : List Int} (h : l.length = 0) : root l = 5 := by
  obtain rfl : l = [] := List.eq_nil_of_length_eq_zero h
  rfl
theorem root_len1 {l : List Int} (h : l.length = 1) : root l = l.getD 0 0 := by
  match l, h with
  | [x], _ => rfl
theorem root_two {l : List Int} (h : 2 ≤ l.length) : root l = pairI (root (l.take (splitN l.length))) (root (l.drop (splitN l.length))) := by
  have hp := split_pos l.length
  have hl := split_lt h
  have e : rootF l.length l = rootF (l.length + 1) l := rootF_more _ _ _ (Nat.le_refl _) (by omega)
  unfold root
  rw [e, rootF, if_neg (by omega), if_neg (by omega), rootF_more l.length (l.take (splitN l.length)).length _ (by simp; omega) (Nat.le_refl _),
    rootF_more l.length (l.drop (splitN l.length)).length _ (by simp) (Nat.le_refl _)]
theorem root_ok {l : List Int} (h : okL l = true) : okI (root l) = true := by
  rcases Nat.lt_or_ge l.length 2 with hl | hl
  · rcases Nat.lt_or_ge l.length 1 with h0 | h1
    · rw [root_len0 (by omega)]; rfl
    · rw [root_len1 (by omega)]
      have := (okL_iff.1 h).2 (l.getD 0 0) (by
        match l, h1 with
        | x :: _, _ => simp)
      exact this
  · rw [root_two hl]; exact pair_ok _ _

/-! ## The proof of a leaf -/
def inclF : Nat → List Int → Nat → List Int
  | 0, _, _ => []
  | f + 1, l, i => if l.length ≤ 1 then [] else if i < splitN l.length then inclF f (l.take (splitN l.length)) i ++ [root (l.drop (splitN l.length))]
      else inclF f (l.drop (splitN l.length)) (i - splitN l.length) ++ [root (l.take (splitN l.length))]
theorem inclF_more (f : Nat) : ∀ (g : Nat) (l : List Int) (i : Nat), l.length ≤ f → l.length ≤ g → inclF f l i = inclF g l i := by
  induction f with
  | zero =>
    intro g l i h _
    obtain rfl : l = [] := List.eq_nil_of_length_eq_zero (by omega)
    cases g <;> simp [inclF]
  | succ f ih =>
    intro g l i h hg
    cases g with
    | zero =>
      obtain rfl : l = [] := List.eq_nil_of_length_eq_zero (by omega)
      simp [inclF]
    | succ g =>
      simp only [inclF]
      by_cases h0 : l.length ≤ 1
      · simp [h0]
      · have hp := split_pos l.length
        have hl := split_lt (n := l.length) (by omega)
        rw [if_neg h0, if_neg h0, ih g _ _ (by simp; omega) (by simp; omega), ih g _ _ (by simp; omega) (by simp; omega)]
def incl (l : List Int) (i : Nat) : List Int := inclF l.length l i
theorem incl_one {l : List Int} (h : l.length ≤ 1) (i : Nat) : incl l i = [] := by
  unfold incl
  rw [inclF_more _ (l.length + 1) _ _ (Nat.le_refl _) (by omega), inclF, if_pos h]
theorem incl_left {l : List Int} (h : 2 ≤ l.length) {i : Nat} (hi : i < splitN l.length) : incl l i = incl (l.take (splitN l.length)) i ++ [root (l.drop (splitN l.length))] := by
  have hp := split_pos l.length
  have hl := split_lt h
  unfold incl
  rw [inclF_more _ (l.length + 1) _ _ (Nat.le_refl _) (by omega), inclF, if_neg (by omega), if_pos hi, inclF_more l.length (l.take (splitN l.length)).length _ _ (by simp; omega) (Nat.le_refl _)]
theorem incl_right {l : List Int} (h : 2 ≤ l.length) {i : Nat} (hi : splitN l.length ≤ i) : incl l i = incl (l.drop (splitN l.length)) (i - splitN l.length) ++ [root (l.take (splitN l.length))] := by
  have hp := split_pos l.length
  unfold incl
  rw [inclF_more _ (l.length + 1) _ _ (Nat.le_refl _) (by omega), inclF, if_neg (by omega), if_neg (by omega), inclF_more l.length (l.drop (splitN l.length)).length _ _ (by simp) (Nat.le_refl _)]

/-- an induction over a tree's parts -/
theorem tree_ind {P : List Int → Prop} (small : ∀ l : List Int, l.length ≤ 1 → P l) (step : ∀ l : List Int, 2 ≤ l.length → P (l.take (splitN l.length)) → P (l.drop (splitN l.length)) → P l) : ∀ l, P l := by
  have main : ∀ (n : Nat) (l : List Int), l.length ≤ n → P l := by
    intro n
    induction n with
    | zero => intro l h; exact small l (by omega)
    | succ n ih =>
      intro l h
      rcases Nat.lt_or_ge l.length 2 with h2 | h2
      · exact small l (by omega)
      · have hp := split_pos l.length
        have hl := split_lt h2
        exact step l h2 (ih _ (by simp; omega)) (ih _ (by simp; omega))
  exact fun l => main l.length l (Nat.le_refl _)

theorem incl_main : ∀ (d : Nat) (l : List Int), l.length ≤ 2 ^ d → okL l = true → ∀ i : Nat, (∀ x ∈ incl l i, okI x = true) ∧ (2 ≤ l.length → 1 ≤ (incl l i).length) ∧ (incl l i).length ≤ d := by
  intro d
  induction d with
  | zero => intro l h _ i; rw [incl_one (by simpa using h)]; exact ⟨by simp, fun h2 => by simp at h; omega, by simp⟩
  | succ d ih =>
    intro l h hok i
    rcases Nat.lt_or_ge l.length 2 with h2 | h2
    · rw [incl_one (by omega)]; exact ⟨by simp, fun h2 => by omega, by simp⟩
    · have h40 := (okL_iff.1 hok).1
      have hs : splitN l.length ≤ 2 ^ d ∧ l.length - splitN l.length ≤ 2 ^ d := by
        have e : 2 ^ (d + 1) = 2 * 2 ^ d := by rw [Nat.pow_succ]; omega
        rw [e] at h
        have hg := split_ge (n := l.length) (by omega)
        have hd : 2 ^ d = 1 ∨ 2 ^ d = 2 ∨ 2 ^ d = 4 ∨ 2 ^ d = 8 ∨ 2 ^ d = 16 ∨ 32 ≤ 2 ^ d := by
          match d with
          | 0 => simp
          | 1 => simp
          | 2 => simp
          | 3 => simp
          | 4 => simp
          | d + 5 => right; right; right; right; right; have := Nat.one_le_two_pow (n := d); rw [Nat.pow_add]; omega
        generalize 2 ^ d = z at *
        unfold splitN at *
        repeat' split at *
        all_goals omega
      rcases Nat.lt_or_ge i (splitN l.length) with hi | hi
      · have := ih (l.take (splitN l.length)) (by simp; omega) (okL_take hok _) i
        rw [incl_left h2 hi]
        exact ⟨by intro x hx; rcases List.mem_append.1 hx with hx | hx; exact this.1 x hx; rw [List.mem_singleton.1 hx]; exact root_ok (okL_drop hok _), fun _ => by simp, by have := this.2.2; simp; omega⟩
      · have := ih (l.drop (splitN l.length)) (by simp; omega) (okL_drop hok _) (i - splitN l.length)
        rw [incl_right h2 hi]
        exact ⟨by intro x hx; rcases List.mem_append.1 hx with hx | hx; exact this.1 x hx; rw [List.mem_singleton.1 hx]; exact root_ok (okL_take hok _), fun _ => by simp, by have := this.2.2; simp; omega⟩
theorem incl_ok : ∀ (l : List Int), okL l = true → ∀ i : Nat, okL (incl l i) = true ∧ (2 ≤ l.length → 1 ≤ (incl l i).length) ∧ (incl l i).length ≤ 6 := by
  intro l hok i
  have h := incl_main 6 l (by have := (okL_iff.1 hok).1; simp; omega) hok i
  exact ⟨okL_iff.2 ⟨by omega, h.1⟩, h.2.1, h.2.2⟩

end Go.Proofs.Ytbgljjmmominbaa.Pl
