/- Contracts: whether a proof of growth leads to both roots (reference). -/
import Derived.Test.YtjacddjmconfaaaGrow
namespace Go.Proofs.Ytjacddjmconfaaa
set_option linter.unusedVariables false
open Go.RowKit Pl

/-- as 'grown', but nothing beside false -/
def bothR : List Int → Int → Int → Int → Bool → (Int × Int) × Bool
  | [], m, n, old, kn => if m = n ∧ kn = true then ((old, old), true) else ((0, 0), false)
  | q :: r, m, n, old, kn => if m = n then (if kn = true then ((old, old), false) else if r = [] then ((q, q), true) else ((0, 0), false)) else
      if m ≤ splitI n then (((bothR r m (splitI n) old kn).1.1, pairI (bothR r m (splitI n) old kn).1.2 q), (bothR r m (splitI n) old kn).2)
      else ((pairI q (bothR r (m - splitI n) (n - splitI n) old false).1.1, pairI q (bothR r (m - splitI n) (n - splitI n) old false).1.2), (bothR r (m - splitI n) (n - splitI n) old false).2)
def both (m n old : Int) (p : List Int) (kn : Bool) : (Int × Int) × Bool := bothR p.reverse m n old kn
theorem both_known (n old : Int) (p : List Int) : both n n old p true = ((old, old), p.isEmpty) := by
  unfold both
  rcases List.eq_nil_or_concat p with rfl | ⟨t, a, rfl⟩
  · simp [bothR]
  · simp [bothR]
theorem both_nil {m n : Int} (old : Int) {kn : Bool} (h : ¬ (m = n ∧ kn = true)) : both m n old [] kn = ((0, 0), false) := by
  unfold both
  rw [List.reverse_nil, bothR, if_neg h]
theorem both_one (n old q : Int) : both n n old [q] false = ((q, q), true) := by simp [both, bothR]
theorem both_more (n old : Int) {p : List Int} (h : p.length ≠ 1) : both n n old p false = ((0, 0), false) := by
  unfold both
  rcases List.eq_nil_or_concat p with rfl | ⟨t, a, rfl⟩
  · simp [bothR]
  · match t with
    | [] => simp at h
    | x :: t => simp [bothR]
theorem both_left {m n : Int} (old : Int) (p : List Int) (q : Int) (kn : Bool) (h : m ≠ n) (hm : m ≤ splitI n) :
    both m n old (p ++ [q]) kn = (((both m (splitI n) old p kn).1.1, pairI (both m (splitI n) old p kn).1.2 q), (both m (splitI n) old p kn).2) := by
  unfold both
  rw [List.reverse_append, List.reverse_singleton, List.singleton_append, bothR, if_neg h, if_pos hm]
theorem both_right {m n : Int} (old : Int) (p : List Int) (q : Int) (kn : Bool) (h : m ≠ n) (hm : splitI n < m) :
    both m n old (p ++ [q]) kn = ((pairI q (both (m - splitI n) (n - splitI n) old p false).1.1, pairI q (both (m - splitI n) (n - splitI n) old p false).1.2), (both (m - splitI n) (n - splitI n) old p false).2) := by
  unfold both
  rw [List.reverse_append, List.reverse_singleton, List.singleton_append, bothR, if_neg h, if_neg (by omega)]
theorem both_rng {old : Int} (ho : okI old = true) (p : List Int) : ∀ (m n : Int) (kn : Bool), (∀ x ∈ p, okI x = true) → okI (both m n old p kn).1.1 = true ∧ okI (both m n old p kn).1.2 = true := by
  induction p using snoc_ind with
  | h0 =>
    intro m n kn _
    by_cases h : m = n ∧ kn = true
    · obtain ⟨rfl, rfl⟩ := h; rw [both_known]; exact ⟨ho, ho⟩
    · rw [both_nil _ h]; exact ⟨rfl, rfl⟩
  | h1 p q ih =>
    intro m n kn hx
    have hp : ∀ x ∈ p, okI x = true := fun x h => hx x (by simp [h])
    by_cases h : m = n
    · subst h
      cases kn with
      | true => rw [both_known]; exact ⟨ho, ho⟩
      | false =>
        by_cases hl : (p ++ [q]).length = 1
        · have e : p = [] := by
            match p with
            | [] => rfl
            | y :: p => simp at hl
          subst e
          rw [List.nil_append, both_one]
          exact ⟨hx q (by simp), hx q (by simp)⟩
        · rw [both_more _ _ hl]; exact ⟨rfl, rfl⟩
    · by_cases hm : m ≤ splitI n
      · rw [both_left _ _ _ _ h hm]; exact ⟨(ih _ _ _ hp).1, pair_ok _ _⟩
      · rw [both_right _ _ _ _ h (by omega)]; exact ⟨pair_ok _ _, pair_ok _ _⟩
/-- both say the same, and give the same where they say true -/
theorem both_grown (old : Int) (p : List Int) : ∀ (m n : Int) (kn : Bool), (both m n old p kn).2 = (grown m n old p kn).2 ∧ ((grown m n old p kn).2 = true → both m n old p kn = grown m n old p kn) := by
  induction p using snoc_ind with
  | h0 =>
    intro m n kn
    by_cases h : m = n ∧ kn = true
    · obtain ⟨rfl, rfl⟩ := h; rw [both_known, grown_known]; simp
    · rw [both_nil _ h, grown_nil _ h]; simp
  | h1 p q ih =>
    intro m n kn
    by_cases h : m = n
    · subst h
      cases kn with
      | true => rw [both_known, grown_known]; simp
      | false =>
        rw [grown_one _ _ (by simp)]
        by_cases hl : (p ++ [q]).length = 1
        · have e : p = [] := by
            match p with
            | [] => rfl
            | y :: p => simp at hl
          subst e
          rw [List.nil_append, both_one]
          simp
        · rw [both_more _ _ hl]; simp only [hl]; simp
    · by_cases hm : m ≤ splitI n
      · rw [both_left _ _ _ _ h hm, grown_left _ _ _ _ h hm]
        have := ih m (splitI n) kn
        refine ⟨this.1, fun ht => ?_⟩
        rw [this.2 ht]
      · rw [both_right _ _ _ _ h (by omega), grown_right _ _ _ _ h (by omega)]
        have := ih (m - splitI n) (n - splitI n) false
        refine ⟨this.1, fun ht => ?_⟩
        rw [this.2 ht]

theorem tri_of {a b : Int} {k : Bool} {x : (Int × Int) × Bool} (h : x = ((a, b), k)) : Ending.returned (.tuple #[.int .i64 a, .int .i64 b, .bool k]) = .returned (.tuple #[.int .i64 x.1.1, .int .i64 x.1.2, .bool x.2]) := by rw [h]

set_option maxHeartbeats 1000000 in
theorem l3Both_any (old : Int) (hold : okI old = true) (p : List Int) : ∀ (A : Option Addr) (m n : Int) (kn : Bool) (q c L : Nat) (w : World), p.length = q → q ≤ c → q ≤ 2000000 → RI w L A p → (∀ x ∈ p, okI x = true) → n ≤ 40 → 1 ≤ m → m ≤ n →
    Calls Try.prog 58 #[.int .i64 m, .int .i64 n, .int .i64 old, .slice A q c, .bool kn] w fun e w' => e = .returned (.tuple #[.int .i64 (both m n old p kn).1.1, .int .i64 (both m n old p kn).1.2, .bool (both m n old p kn).2]) ∧ ∃ d, w' = w.drewN d := by
  induction p using snoc_ind with
  | h0 =>
    intro A m n kn q c L w hq hc _ _ _ n40 m1 mn
    obtain rfl : q = 0 := by simpa using hq.symm
    clear hq
    by_cases h : m = n
    · subst h
      have g1 : (m == m) = true := by simp
      cases kn
      · rw [both_nil _ (by simp)]
        go_enter Try.func58, Try.ntmps58
        go_wp2_with fail
        go_ret3
        exact ⟨rfl, 0, rfl⟩
      · rw [both_known]
        go_enter Try.func58, Try.ntmps58
        go_wp2_with fail
        go_ret3
        exact ⟨rfl, 0, rfl⟩
    · rw [both_nil _ (by simp [h])]
      have g1 : (m == n) = false := by simp; omega
      clear h
      go_enter Try.func58, Try.ntmps58
      go_wp2_with fail
      go_ret3
      exact ⟨rfl, 0, rfl⟩
  | h1 p q ih =>
    intro A m n kn pq c L w hm hc hm2 hr hok n40 m1 mn
    rw [app_len] at hm
    subst hm
    obtain ⟨b, o, rfl, _, _, hcell⟩ := hr.at_ (j := p.length) (by rw [app_len]; omega)
    rw [app_get] at hcell
    have g3 : (((p.length + 1 : Nat) : Int) == 0) = false := by simp; omega
    by_cases h : m = n
    · subst h
      have g1 : (m == m) = true := by simp
      cases kn
      · by_cases hl : (p ++ [q]).length = 1
        · have e : p = [] := by
            match p with
            | [] => rfl
            | y :: p => simp at hl
          subst e
          have hcell' : w.cell? ⟨b, o, none⟩ = some (.int .i64 q) := hcell
          rw [List.nil_append, both_one]
          clear hr hok ih hcell g3
          go_enter Try.func58, Try.ntmps58
          go_wp2_with fail
          go_quiet (fail)
          go_wp2_with fail
          go_ret3
          exact ⟨rfl, _, rfl⟩
        · rw [both_more _ _ hl]
          have g2 : (((p.length + 1 : Nat) : Int) != 1) = true := by
            rw [app_len] at hl
            simp; omega
          clear hr hok ih hcell hl
          go_enter Try.func58, Try.ntmps58
          go_wp2_with fail
          go_ret3
          exact ⟨rfl, 0, rfl⟩
      · rw [both_known, show (p ++ [q]).isEmpty = false by simp]
        clear hr hok ih hcell
        go_enter Try.func58, Try.ntmps58
        go_wp2_with fail
        go_ret3
        exact ⟨rfl, 0, rfl⟩
    · have h2 : 2 ≤ n := by omega
      have g1 : (m == n) = false := by simp; omega
      have hs1 := splitI_pos n
      have hs2 := splitI_lt h2
      have T := Lib.hid (show RI w L (some ⟨b, o, none⟩) p by have := hr.take p.length; simpa using this)
      have K := Lib.hid (show ∀ x ∈ p, okI x = true from fun x hx => hok x (by simp [hx]))
      have Y2 := Lib.hid (hok q (by simp))
      have IH := Lib.hid ih
      have mn' : m < n := by omega
      clear hr hok ih
      by_cases hi : m ≤ splitI n
      · have Y1 := Lib.hid (both_rng hold p m (splitI n) kn K.out)
        have E := Lib.hid (both_left old p q kn h hi)
        clear h
        go_enter Try.func58, Try.ntmps58
        go_wp2_with (first | (go_at_call 79; refine (sTreSplit_yes _ _ (by omega) (by omega)).mono ?_; rintro e w' ⟨rfl, rfl⟩) | (go_at_call 58; refine (IH.out _ _ _ _ _ _ L _ rfl (by omega) (by omega) T.out K.out (by omega) (by omega) (by omega)).mono ?_; rintro e w' ⟨rfl, d, rfl⟩) | (go_at_call 80; refine (sMixPair_yes _ _ _ Y1.out.2 Y2.out).mono ?_; rintro e w' ⟨rfl, rfl⟩))
        go_ret3
        exact ⟨tri_of E.out, _, rfl⟩
      · have hi' : splitI n < m := by omega
        have Y1 := Lib.hid (both_rng hold p (m - splitI n) (n - splitI n) false K.out)
        have E := Lib.hid (both_right old p q kn h hi')
        clear h hi
        go_enter Try.func58, Try.ntmps58
        go_wp2_with (first | (go_at_call 79; refine (sTreSplit_yes _ _ (by omega) (by omega)).mono ?_; rintro e w' ⟨rfl, rfl⟩) | (go_at_call 58; refine (IH.out _ _ _ _ _ _ L _ rfl (by omega) (by omega) T.out K.out (by omega) (by omega) (by omega)).mono ?_; rintro e w' ⟨rfl, d, rfl⟩) | (go_at_call 80; refine (sMixPair_yes _ _ _ Y2.out (by first | exact Y1.out.1 | exact Y1.out.2)).mono ?_; rintro e w' ⟨rfl, rfl⟩))
        go_ret3
        exact ⟨tri_of E.out, _, rfl⟩
end Go.Proofs.Ytjacddjmconfaaa
