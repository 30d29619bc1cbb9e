/- Plain mathematics: what a proof leads to, clashes, growth: no program in sight. -/
import Derived.Test.YtjacddjmconfaaaPlain
namespace Go.Proofs.Ytjacddjmconfaaa.Pl
set_option linter.unusedVariables false

/-! ## What a leaf leads to: over the proof turned round -/
def upR : List Int → Int → Int → Int → Int × Bool
  | [], n, _, leaf => if n = 1 then (leaf, true) else (0, false)
  | q :: r, n, i, leaf => if n = 1 then (leaf, false) else
      if i < splitI n then (pairI (upR r (splitI n) i leaf).1 q, (upR r (splitI n) i leaf).2)
      else (pairI q (upR r (n - splitI n) (i - splitI n) leaf).1, (upR r (n - splitI n) (i - splitI n) leaf).2)
def up (n i leaf : Int) (p : List Int) : Int × Bool := upR p.reverse n i leaf

theorem up_one (i leaf : Int) (p : List Int) : up 1 i leaf p = (leaf, p.isEmpty) := by
  unfold up
  rcases List.eq_nil_or_concat p with rfl | ⟨t, a, rfl⟩
  · simp [upR]
  · simp [upR]
theorem up_nil {n : Int} (i leaf : Int) (h : n ≠ 1) : up n i leaf [] = (0, false) := by simp [up, upR, h]
theorem up_left {n i : Int} (leaf : Int) (p : List Int) (q : Int) (h : n ≠ 1) (hi : i < splitI n) :
    up n i leaf (p ++ [q]) = (pairI (up (splitI n) i leaf p).1 q, (up (splitI n) i leaf p).2) := by simp [up, upR, h, hi]
theorem up_right {n i : Int} (leaf : Int) (p : List Int) (q : Int) (h : n ≠ 1) (hi : splitI n ≤ i) :
    up n i leaf (p ++ [q]) = (pairI q (up (n - splitI n) (i - splitI n) leaf p).1, (up (n - splitI n) (i - splitI n) leaf p).2) := by
  have : ¬ i < splitI n := by omega
  simp [up, upR, h, this]
theorem snoc_ind {P : List Int → Prop} (h0 : P []) (h1 : ∀ p q, P p → P (p ++ [q])) (p : List Int) : P p := by
  have : ∀ r : List Int, P r.reverse := by
    intro r
    induction r with
    | nil => exact h0
    | cons q r ih => rw [List.reverse_cons]; exact h1 _ _ ih
  have := this p.reverse
  rwa [List.reverse_reverse] at this
theorem up_rng {leaf : Int} (hl : okI leaf = true) (p : List Int) : ∀ (n i : Int), okI (up n i leaf p).1 = true := by
  induction p using snoc_ind with
  | h0 =>
    intro n i
    by_cases h : n = 1
    · subst h; rw [up_one]; exact hl
    · rw [up_nil _ _ h]; rfl
  | h1 p q ih =>
    intro n i
    by_cases h : n = 1
    · subst h; rw [up_one]; exact hl
    · by_cases hi : i < splitI n
      · rw [up_left _ _ _ h hi]; exact pair_ok _ _
      · rw [up_right _ _ _ h (by omega)]; exact pair_ok _ _

/-- what is there can be shown -/
theorem up_incl (l : List Int) : ∀ (i : Nat), i < l.length → up l.length i (l.getD i 0) (incl l i) = (root l, true) := by
  induction l using tree_ind with
  | small l h =>
    intro i hi
    rw [incl_one h, show ((l.length : Nat) : Int) = 1 by omega, up_one, root_len1 (by omega), show i = 0 by omega]
    rfl
  | step l h ihl ihr =>
    intro i hi
    have hp := split_pos l.length
    have hl := split_lt h
    have hn : ((l.length : Nat) : Int) ≠ 1 := by omega
    by_cases hs : i < splitN l.length
    · have := ihl i (by simp; omega)
      rw [incl_left h hs, up_left _ _ _ hn (by rw [splitI_cast]; omega), splitI_cast, root_two h]
      rw [show (l.take (splitN l.length)).length = splitN l.length by simp; omega] at this
      rw [show (l.take (splitN l.length)).getD i 0 = l.getD i 0 by simp [List.getD, hs]] at this
      rw [this]
    · have := ihr (i - splitN l.length) (by simp; omega)
      rw [incl_right h (by omega), up_right _ _ _ hn (by rw [splitI_cast]; omega), splitI_cast, root_two h]
      rw [show (l.drop (splitN l.length)).length = l.length - splitN l.length by simp] at this
      rw [show (l.drop (splitN l.length)).getD (i - splitN l.length) 0 = l.getD i 0 by simp only [List.getD, List.getElem?_drop]; rw [show splitN l.length + (i - splitN l.length) = i by omega]] at this
      rw [show ((l.length - splitN l.length : Nat) : Int) = (l.length : Int) - (splitN l.length : Int) by omega, show ((i - splitN l.length : Nat) : Int) = (i : Int) - (splitN l.length : Int) by omega] at this
      rw [this]

/-- the proof of a leaf does not hang on the leaf -/
theorem incl_set (l : List Int) : ∀ (i : Nat) (x : Int), i < l.length → incl (l.set i x) i = incl l i := by
  induction l using tree_ind with
  | small l h => intro i x _; rw [incl_one h, incl_one (by simpa using h)]
  | step l h ihl ihr =>
    intro i x hi
    have hp := split_pos l.length
    have hl := split_lt h
    have h' : 2 ≤ (l.set i x).length := by simpa using h
    by_cases hs : i < splitN l.length
    · rw [incl_left h' (by simpa using hs), incl_left h hs]
      simp only [List.length_set]
      rw [List.take_set, ihl i x (by simp; omega), List.drop_set, if_pos hs]
    · rw [incl_right h' (by simpa using (by omega : splitN l.length ≤ i)), incl_right h (by omega)]
      simp only [List.length_set]
      rw [List.drop_set, if_neg hs, ihr (i - splitN l.length) x (by simp; omega), List.take_set, List.set_eq_of_length_le (by simp; omega)]

/-! ## A clash -/
def clashF : Nat → List Int → Int → Int → List Int → List Int
  | 0, _, _, _, _ => []
  | f + 1, l, i, leaf, p => if l.length < 2 then [] else
      if i < splitI l.length then
        if (up (splitI l.length) i leaf p.dropLast).1 ≠ root (l.take (splitN l.length)) ∨ p.getLastD 0 ≠ root (l.drop (splitN l.length)) then
          [(up (splitI l.length) i leaf p.dropLast).1, p.getLastD 0, root (l.take (splitN l.length)), root (l.drop (splitN l.length))]
        else clashF f (l.take (splitN l.length)) i leaf p.dropLast
      else
        if p.getLastD 0 ≠ root (l.take (splitN l.length)) ∨ (up (l.length - splitI l.length) (i - splitI l.length) leaf p.dropLast).1 ≠ root (l.drop (splitN l.length)) then
          [p.getLastD 0, (up (l.length - splitI l.length) (i - splitI l.length) leaf p.dropLast).1, root (l.take (splitN l.length)), root (l.drop (splitN l.length))]
        else clashF f (l.drop (splitN l.length)) (i - splitI l.length) leaf p.dropLast
def clash (l : List Int) (i leaf : Int) (p : List Int) : List Int := clashF l.length l i leaf p
theorem clashF_more (f : Nat) : ∀ (g : Nat) (l : List Int) (i leaf : Int) (p : List Int), l.length ≤ f → l.length ≤ g → clashF f l i leaf p = clashF g l i leaf p := by
  induction f with
  | zero =>
    intro g l i leaf p h _
    cases g with
    | zero => rfl
    | succ g => rw [clashF, clashF, if_pos (by omega)]
  | succ f ih =>
    intro g l i leaf p h hg
    cases g with
    | zero => rw [clashF, clashF, if_pos (by omega)]
    | succ g =>
      simp only [clashF]
      by_cases h0 : l.length < 2
      · simp [h0]
      · have hp := split_pos l.length
        have hl := split_lt (n := l.length) (by omega)
        rw [if_neg h0, if_neg h0, ih g _ _ _ _ (by simp; omega) (by simp; omega), ih g _ _ _ _ (by simp; omega) (by simp; omega)]
theorem clash_small {l : List Int} (h : l.length < 2) (i leaf : Int) (p : List Int) : clash l i leaf p = [] := by
  unfold clash
  rw [clashF_more _ (l.length + 1) _ _ _ _ (Nat.le_refl _) (by omega), clashF, if_pos h]
theorem clash_left {l : List Int} (h : 2 ≤ l.length) {i : Int} (leaf : Int) (p : List Int) (hi : i < splitI l.length) : clash l i leaf p =
    if (up (splitI l.length) i leaf p.dropLast).1 ≠ root (l.take (splitN l.length)) ∨ p.getLastD 0 ≠ root (l.drop (splitN l.length)) then
      [(up (splitI l.length) i leaf p.dropLast).1, p.getLastD 0, root (l.take (splitN l.length)), root (l.drop (splitN l.length))]
    else clash (l.take (splitN l.length)) i leaf p.dropLast := by
  have hp := split_pos l.length
  have hl := split_lt h
  unfold clash
  rw [clashF_more _ (l.length + 1) _ _ _ _ (Nat.le_refl _) (by omega), clashF, if_neg (by omega), if_pos hi, clashF_more l.length (l.take (splitN l.length)).length _ _ _ _ (by simp; omega) (Nat.le_refl _)]
theorem clash_right {l : List Int} (h : 2 ≤ l.length) {i : Int} (leaf : Int) (p : List Int) (hi : splitI l.length ≤ i) : clash l i leaf p =
    if p.getLastD 0 ≠ root (l.take (splitN l.length)) ∨ (up (l.length - splitI l.length) (i - splitI l.length) leaf p.dropLast).1 ≠ root (l.drop (splitN l.length)) then
      [p.getLastD 0, (up (l.length - splitI l.length) (i - splitI l.length) leaf p.dropLast).1, root (l.take (splitN l.length)), root (l.drop (splitN l.length))]
    else clash (l.drop (splitN l.length)) (i - splitI l.length) leaf p.dropLast := by
  have hp := split_pos l.length
  unfold clash
  rw [clashF_more _ (l.length + 1) _ _ _ _ (Nat.le_refl _) (by omega), clashF, if_neg (by omega), if_neg (by omega), clashF_more l.length (l.drop (splitN l.length)).length _ _ _ _ (by simp) (Nat.le_refl _)]

/-- who shows what is not there has found a clash -/
theorem clash_law (l : List Int) : ∀ (i : Nat) (leaf : Int) (p : List Int), okL l = true → okI leaf = true → (∀ x ∈ p, okI x = true) → i < l.length → up l.length i leaf p = (root l, true) → leaf ≠ l.getD i 0 →
    ∃ a b c d, clash l i leaf p = [a, b, c, d] ∧ (a ≠ c ∨ b ≠ d) ∧ pairI a b = pairI c d ∧ okI a = true ∧ okI b = true ∧ okI c = true ∧ okI d = true := by
  induction l using tree_ind with
  | small l h =>
    intro i leaf p _ _ _ hi hu hne
    rw [show ((l.length : Nat) : Int) = 1 by omega, up_one, root_len1 (by omega)] at hu
    rw [show i = 0 by omega] at hne
    simp at hu
    exact absurd hu.1 hne
  | step l h ihl ihr =>
    intro i leaf p hok hleaf hpok hi hu hne
    have hp := split_pos l.length
    have hl := split_lt h
    have hn : ((l.length : Nat) : Int) ≠ 1 := by omega
    rcases List.eq_nil_or_concat p with rfl | ⟨p, q, rfl⟩
    · rw [up_nil _ _ hn] at hu; simp at hu
    · rw [List.concat_eq_append] at *
      have hq : okI q = true := hpok q (by simp)
      have hpok' : ∀ x ∈ p, okI x = true := fun x hx => hpok x (by simp [hx])
      have hdl : (p ++ [q]).dropLast = p := by simp
      have hgl : (p ++ [q]).getLastD 0 = q := by simp
      by_cases hs : i < splitN l.length
      · have hsi : (i : Int) < splitI l.length := by rw [splitI_cast]; omega
        rw [up_left _ _ _ hn hsi, root_two h] at hu
        simp only [Prod.mk.injEq] at hu
        rw [clash_left h _ _ hsi, hdl, hgl]
        by_cases hc : (up (splitI l.length) i leaf p).1 ≠ root (l.take (splitN l.length)) ∨ q ≠ root (l.drop (splitN l.length))
        · rw [if_pos hc]
          exact ⟨_, _, _, _, rfl, hc, hu.1, up_rng hleaf _ _ _, hq, root_ok (okL_take hok _), root_ok (okL_drop hok _)⟩
        · rw [if_neg hc]
          have hc1 : (up (splitI l.length) i leaf p).1 = root (l.take (splitN l.length)) := by
            by_cases e : (up (splitI l.length) i leaf p).1 = root (l.take (splitN l.length))
            · exact e
            · exact absurd (.inl e) hc
          refine ihl i leaf p (okL_take hok _) hleaf hpok' (by simp; omega) ?_ ?_
          · rw [show (l.take (splitN l.length)).length = splitN l.length by simp; omega, ← splitI_cast]
            exact Prod.ext hc1 hu.2
          · rw [show (l.take (splitN l.length)).getD i 0 = l.getD i 0 by simp [List.getD, hs]]
            exact hne
      · have hsi : splitI l.length ≤ (i : Int) := by rw [splitI_cast]; omega
        rw [up_right _ _ _ hn hsi, root_two h] at hu
        simp only [Prod.mk.injEq] at hu
        rw [clash_right h _ _ hsi, hdl, hgl]
        by_cases hc : q ≠ root (l.take (splitN l.length)) ∨ (up (l.length - splitI l.length) (i - splitI l.length) leaf p).1 ≠ root (l.drop (splitN l.length))
        · rw [if_pos hc]
          exact ⟨_, _, _, _, rfl, hc, hu.1, hq, up_rng hleaf _ _ _, root_ok (okL_take hok _), root_ok (okL_drop hok _)⟩
        · rw [if_neg hc]
          have hc1 : (up (l.length - splitI l.length) (i - splitI l.length) leaf p).1 = root (l.drop (splitN l.length)) := by
            by_cases e : (up (l.length - splitI l.length) (i - splitI l.length) leaf p).1 = root (l.drop (splitN l.length))
            · exact e
            · exact absurd (.inr e) hc
          have e1 : ((i - splitN l.length : Nat) : Int) = (i : Int) - splitI l.length := by rw [splitI_cast]; omega
          have := ihr (i - splitN l.length) leaf p (okL_drop hok _) hleaf hpok' (by simp; omega)
          rw [e1] at this
          refine this ?_ ?_
          · rw [show (((l.drop (splitN l.length)).length : Nat) : Int) = (l.length : Int) - splitI l.length by rw [splitI_cast]; simp; omega]
            exact Prod.ext hc1 hu.2
          · rw [show (l.drop (splitN l.length)).getD (i - splitN l.length) 0 = l.getD i 0 by simp only [List.getD, List.getElem?_drop]; rw [show splitN l.length + (i - splitN l.length) = i by omega]]
            exact hne

/-! ## Growth -/
def growF : Nat → List Int → Int → Bool → List Int
  | 0, _, _, _ => []
  | f + 1, l, m, kn => if m = l.length then (if kn = true then [] else [root l]) else
      if m ≤ splitI l.length then growF f (l.take (splitN l.length)) m kn ++ [root (l.drop (splitN l.length))]
      else growF f (l.drop (splitN l.length)) (m - splitI l.length) false ++ [root (l.take (splitN l.length))]
theorem growF_more (f : Nat) : ∀ (g : Nat) (l : List Int) (m : Int) (kn : Bool), l.length < f → l.length < g → 1 ≤ m → m ≤ l.length → growF f l m kn = growF g l m kn := by
  induction f with
  | zero => intro g l m kn h; omega
  | succ f ih =>
    intro g l m kn h hg h1 h2
    cases g with
    | zero => omega
    | succ g =>
      simp only [growF]
      by_cases h0 : m = l.length
      · simp [h0]
      · have hp := split_pos l.length
        have hl := split_lt (n := l.length) (by omega)
        have hc := splitI_cast l.length
        rw [if_neg h0, if_neg h0]
        by_cases hm : m ≤ splitI l.length
        · rw [if_pos hm, if_pos hm, ih g _ _ _ (by simp; omega) (by simp; omega) h1 (by simp; omega)]
        · rw [if_neg hm, if_neg hm, ih g _ _ _ (by simp; omega) (by simp; omega) (by omega) (by simp; omega)]
def grow (l : List Int) (m : Int) (kn : Bool) : List Int := growF (l.length + 1) l m kn
theorem grow_all (l : List Int) (kn : Bool) : grow l l.length kn = if kn = true then [] else [root l] := by
  unfold grow; rw [growF, if_pos rfl]
theorem grow_left {l : List Int} {m : Int} (kn : Bool) (h1 : 1 ≤ m) (h2 : m < l.length) (hm : m ≤ splitI l.length) : grow l m kn = grow (l.take (splitN l.length)) m kn ++ [root (l.drop (splitN l.length))] := by
  have hp := split_pos l.length
  have hl := split_lt (n := l.length) (by omega)
  have hc := splitI_cast l.length
  unfold grow
  rw [growF, if_neg (by omega), if_pos hm, growF_more l.length ((l.take (splitN l.length)).length + 1) _ _ _ (by simp; omega) (by omega) h1 (by simp; omega)]
theorem grow_right {l : List Int} {m : Int} (kn : Bool) (h2 : m < l.length) (hm : splitI l.length < m) : grow l m kn = grow (l.drop (splitN l.length)) (m - splitI l.length) false ++ [root (l.take (splitN l.length))] := by
  have hp := split_pos l.length
  have hc := splitI_cast l.length
  have hl := split_lt (n := l.length) (by omega)
  unfold grow
  rw [growF, if_neg (by omega), if_neg (by omega), growF_more l.length ((l.drop (splitN l.length)).length + 1) _ _ _ (by simp; omega) (by omega) (by omega) (by simp; omega)]

/-- both roots, over the proof turned round -/
def grownR : List Int → Int → Int → Int → Bool → (Int × Int) × Bool
  | [], m, n, old, kn => if m = n ∧ kn = true then ((old, old), true) else ((0, 0), false)
  | q :: r, m, n, old, kn => if m = n then (if kn = true then ((old, old), false) else (((q :: r).getLastD 0, (q :: r).getLastD 0), r.isEmpty)) else
      if m ≤ splitI n then (((grownR r m (splitI n) old kn).1.1, pairI (grownR r m (splitI n) old kn).1.2 q), (grownR r m (splitI n) old kn).2)
      else ((pairI q (grownR r (m - splitI n) (n - splitI n) old false).1.1, pairI q (grownR r (m - splitI n) (n - splitI n) old false).1.2), (grownR r (m - splitI n) (n - splitI n) old false).2)
def grown (m n old : Int) (p : List Int) (kn : Bool) : (Int × Int) × Bool := grownR p.reverse m n old kn
theorem grown_known (n old : Int) (p : List Int) : grown n n old p true = ((old, old), p.isEmpty) := by
  unfold grown
  rcases List.eq_nil_or_concat p with rfl | ⟨t, a, rfl⟩
  · simp [grownR]
  · simp [grownR]
theorem grown_nil {m n : Int} (old : Int) {kn : Bool} (h : ¬ (m = n ∧ kn = true)) : grown m n old [] kn = ((0, 0), false) := by
  unfold grown
  rw [List.reverse_nil, grownR, if_neg h]
theorem grown_one (n old : Int) {p : List Int} (h : p ≠ []) : grown n n old p false = ((p.getD 0 0, p.getD 0 0), decide (p.length = 1)) := by
  unfold grown
  rcases List.eq_nil_or_concat p with rfl | ⟨t, a, rfl⟩
  · exact absurd rfl h
  · match t with
    | [] => simp [grownR]
    | x :: t =>
      have e : (a :: (t.reverse ++ [x])).getLast?.getD 0 = x := by rw [← List.cons_append, List.getLast?_concat]; rfl
      simp [grownR, e]
theorem grown_left {m n : Int} (old : Int) (p : List Int) (q : Int) (kn : Bool) (h : m ≠ n) (hm : m ≤ splitI n) :
    grown m n old (p ++ [q]) kn = (((grown m (splitI n) old p kn).1.1, pairI (grown m (splitI n) old p kn).1.2 q), (grown m (splitI n) old p kn).2) := by
  unfold grown
  rw [List.reverse_append, List.reverse_singleton, List.singleton_append, grownR, if_neg h, if_pos hm]
theorem grown_right {m n : Int} (old : Int) (p : List Int) (q : Int) (kn : Bool) (h : m ≠ n) (hm : splitI n < m) :
    grown m n old (p ++ [q]) kn = ((pairI q (grown (m - splitI n) (n - splitI n) old p false).1.1, pairI q (grown (m - splitI n) (n - splitI n) old p false).1.2), (grown (m - splitI n) (n - splitI n) old p false).2) := by
  unfold grown
  rw [List.reverse_append, List.reverse_singleton, List.singleton_append, grownR, if_neg h, if_neg (by omega)]
theorem grown_rng {old : Int} (ho : okI old = true) (p : List Int) : ∀ (m n : Int) (kn : Bool), (∀ x ∈ p, okI x = true) → okI (grown m n old p kn).1.1 = true ∧ okI (grown m n old p kn).1.2 = true := by
  induction p using snoc_ind with
  | h0 =>
    intro m n kn _
    by_cases h : m = n ∧ kn = true
    · obtain ⟨rfl, rfl⟩ := h; rw [grown_known]; exact ⟨ho, ho⟩
    · rw [grown_nil _ h]; exact ⟨rfl, rfl⟩
  | h1 p q ih =>
    intro m n kn hx
    have hp : ∀ x ∈ p, okI x = true := fun x h => hx x (by simp [h])
    by_cases h : m = n
    · subst h
      cases kn with
      | true => rw [grown_known]; exact ⟨ho, ho⟩
      | false =>
        rw [grown_one _ _ (by simp)]
        have : okI ((p ++ [q]).getD 0 0) = true := hx _ (by
          match p with
          | [] => simp
          | y :: p => simp)
        exact ⟨this, this⟩
    · by_cases hm : m ≤ splitI n
      · rw [grown_left _ _ _ _ h hm]; exact ⟨(ih _ _ _ hp).1, pair_ok _ _⟩
      · rw [grown_right _ _ _ _ h (by omega)]; exact ⟨pair_ok _ _, pair_ok _ _⟩

theorem split_same {m n : Nat} (h1 : splitN n < m) (h2 : m ≤ n) (h3 : n ≤ 64) : splitN m = splitN n := by
  unfold splitN at *
  repeat' split at h1
  all_goals (repeat' split)
  all_goals omega

/-- what has grown can be shown to have grown -/
theorem grown_grow (l : List Int) : ∀ (m : Nat) (kn : Bool) (old : Int), l.length ≤ 64 → 1 ≤ m → m ≤ l.length → (kn = true → old = root (l.take m)) →
    grown m l.length old (grow l m kn) kn = ((root (l.take m), root l), true) := by
  induction l using tree_ind with
  | small l h =>
    intro m kn old _ h1 h2 hk
    obtain rfl : m = l.length := by omega
    rw [grow_all]
    cases kn with
    | true => rw [if_pos rfl, grown_known, hk rfl]; simp
    | false => rw [if_neg (by simp), grown_one _ _ (by simp)]; simp
  | step l h ihl ihr =>
    intro m kn old h64 h1 h2 hk
    have hp := split_pos l.length
    have hl := split_lt h
    have hc := splitI_cast l.length
    by_cases he : m = l.length
    · subst he
      rw [grow_all]
      cases kn with
      | true => rw [if_pos rfl, grown_known, hk rfl]; simp
      | false => rw [if_neg (by simp), grown_one _ _ (by simp)]; simp
    · by_cases hm : m ≤ splitN l.length
      · have := ihl m kn old (by simp; omega) h1 (by simp; omega) (by rw [List.take_take, Nat.min_eq_left hm]; exact hk)
        rw [List.take_take, Nat.min_eq_left hm, show (l.take (splitN l.length)).length = splitN l.length by simp; omega, ← hc] at this
        rw [grow_left kn (by omega) (by omega) (by omega), grown_left _ _ _ _ (by omega) (by omega), this, root_two h]
      · have hsm : splitN m = splitN l.length := split_same (by omega) h2 h64
        have e1 : ((m - splitN l.length : Nat) : Int) = (m : Int) - splitI l.length := by omega
        have e2 : (((l.drop (splitN l.length)).length : Nat) : Int) = (l.length : Int) - splitI l.length := by simp; omega
        have := ihr (m - splitN l.length) false old (by simp; omega) (by omega) (by simp; omega) (by simp)
        rw [e1, e2] at this
        rw [grow_right kn (by omega) (by omega), grown_right _ _ _ _ (by omega) (by omega), this, root_two h]
        have e3 : root (l.take m) = pairI (root (l.take (splitN l.length))) (root ((l.drop (splitN l.length)).take (m - splitN l.length))) := by
          have hlm : (l.take m).length = m := by simp; omega
          rw [root_two (l := l.take m) (by omega), hlm, hsm, List.take_take, Nat.min_eq_left (by omega), List.drop_take]
        rw [e3]

theorem grow_ok (l : List Int) : ∀ (m : Nat) (kn : Bool), okL l = true → 1 ≤ m → m ≤ l.length → ∀ x ∈ grow l m kn, okI x = true := by
  induction l using tree_ind with
  | small l h =>
    intro m kn hok h1 h2 x hx
    obtain rfl : m = l.length := by omega
    rw [grow_all] at hx
    cases kn with
    | true => simp at hx
    | false => simp at hx; rw [hx]; exact root_ok hok
  | step l h ihl ihr =>
    intro m kn hok h1 h2 x hx
    have hp := split_pos l.length
    have hl := split_lt h
    have hc := splitI_cast l.length
    by_cases he : m = l.length
    · subst he
      rw [grow_all] at hx
      cases kn with
      | true => simp at hx
      | false => simp at hx; rw [hx]; exact root_ok hok
    · by_cases hm : m ≤ splitN l.length
      · rw [grow_left kn (by omega) (by omega) (by omega)] at hx
        rcases List.mem_append.1 hx with hx | hx
        · exact ihl m kn (okL_take hok _) h1 (by simp; omega) x hx
        · rw [List.mem_singleton.1 hx]; exact root_ok (okL_drop hok _)
      · have e1 : ((m - splitN l.length : Nat) : Int) = (m : Int) - splitI l.length := by omega
        rw [grow_right kn (by omega) (by omega), ← e1] at hx
        rcases List.mem_append.1 hx with hx | hx
        · exact ihr (m - splitN l.length) false (okL_drop hok _) (by omega) (by simp; omega) x hx
        · rw [List.mem_singleton.1 hx]; exact root_ok (okL_take hok _)
theorem grow_len (l : List Int) : ∀ (m : Nat) (kn : Bool), 1 ≤ m → m ≤ l.length → (grow l m kn).length ≤ l.length := by
  induction l using tree_ind with
  | small l h =>
    intro m kn h1 h2
    obtain rfl : m = l.length := by omega
    rw [grow_all]
    cases kn <;> simp; omega
  | step l h ihl ihr =>
    intro m kn h1 h2
    have hp := split_pos l.length
    have hl := split_lt h
    have hc := splitI_cast l.length
    by_cases he : m = l.length
    · subst he
      rw [grow_all]
      cases kn <;> simp; omega
    · by_cases hm : m ≤ splitN l.length
      · have := ihl m kn h1 (by simp; omega)
        rw [grow_left kn (by omega) (by omega) (by omega)]
        simp at this ⊢; omega
      · have e1 : ((m - splitN l.length : Nat) : Int) = (m : Int) - splitI l.length := by omega
        have := ihr (m - splitN l.length) false (by omega) (by simp; omega)
        rw [grow_right kn (by omega) (by omega), ← e1]
        simp at this ⊢; omega
theorem grow_okL {l : List Int} {m : Nat} (kn : Bool) (h : okL l = true) (h1 : 1 ≤ m) (h2 : m ≤ l.length) : okL (grow l m kn) = true :=
  okL_iff.2 ⟨by have := grow_len l m kn h1 h2; have := (okL_iff.1 h).1; omega, grow_ok l m kn h h1 h2⟩

end Go.Proofs.Ytjacddjmconfaaa.Pl
