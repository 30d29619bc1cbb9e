/- Contracts: what a leaf leads to; whether a proof shows it. -/
import Derived.Test.YtjacddjmconfaaaRoot
import Derived.Test.YtjacddjmconfaaaPlainB
namespace Go.Proofs.Ytjacddjmconfaaa
set_option linter.unusedVariables false
open Go.RowKit Pl

theorem tup_of {a : Int} {b : Bool} {x : Int × Bool} (h : x = (a, b)) : Ending.returned (.tuple #[.int .i64 a, .bool b]) = .returned (.tuple #[.int .i64 x.1, .bool x.2]) := by rw [h]
theorem app_get (p : List Int) (q : Int) : (p ++ [q]).getD p.length 0 = q := by simp [List.getD]
theorem app_len (p : List Int) (q : Int) : (p ++ [q]).length = p.length + 1 := by simp

set_option maxHeartbeats 1000000 in
theorem upW_any (leaf : Int) (hleaf : okI leaf = true) (p : List Int) : ∀ (A : Option Addr) (n i : Int) (m c L : Nat) (w : World), p.length = m → m ≤ c → m ≤ 2000000 → RI w L A p → (∀ x ∈ p, okI x = true) → 1 ≤ n → n ≤ 40 → 0 ≤ i → i < n →
    Calls Try.prog 57 #[.int .i64 n, .int .i64 i, .int .i64 leaf, .slice A m c] w fun e w' => e = .returned (.tuple #[.int .i64 (up n i leaf p).1, .bool (up n i leaf p).2]) ∧ w = w' := by
  induction p using snoc_ind with
  | h0 =>
    intro A n i m c L w hm hc _ _ _ n1 n40 i0 i1
    obtain rfl : m = 0 := by simpa using hm.symm
    clear hm
    by_cases h : n = 1
    · subst h
      rw [up_one]
      go_enter Try.func57, Try.ntmps57
      go_wp2_with fail
      go_ret2
      exact ⟨rfl, rfl⟩
    · rw [up_nil _ _ h]
      have g1 : (n == 1) = false := by simp; omega
      have g2 : 2 ≤ n := by omega
      clear h
      go_enter Try.func57, Try.ntmps57
      go_wp2_with fail
      go_ret2
      exact ⟨rfl, rfl⟩
  | h1 p q ih =>
    intro A n i m c L w hm hc hm2 hr hok n1 n40 i0 i1
    rw [app_len] at hm
    subst hm
    by_cases h : n = 1
    · subst h
      rw [up_one, show (p ++ [q]).isEmpty = false by simp]
      clear hr hok ih
      go_enter Try.func57, Try.ntmps57
      go_wp2_with fail
      go_ret2
      exact ⟨rfl, rfl⟩
    · have h2 : 2 ≤ n := by omega
      have g1 : (n == 1) = false := by simp; omega
      have g3 : (((p.length + 1 : Nat) : Int) == 0) = false := by simp; omega
      have hs1 := splitI_pos n
      have hs2 := splitI_lt h2
      obtain ⟨b, o, rfl, _, _, hcell⟩ := hr.at_ (j := p.length) (by rw [app_len]; omega)
      rw [app_get] at hcell
      have T := Lib.hid (show RI w L (some ⟨b, o, none⟩) p by have := hr.take p.length; simpa using this)
      have K := Lib.hid (show ∀ x ∈ p, okI x = true from fun x hx => hok x (by simp [hx]))
      have Y2 := Lib.hid (hok q (by simp))
      have IH := Lib.hid ih
      obtain ⟨q0, q1⟩ := okI_iff.1 Y2.out
      clear hr hok ih
      by_cases hi : i < splitI n
      · have Y1 := Lib.hid (up_rng hleaf p (splitI n) i)
        obtain ⟨u0, u1⟩ := okI_iff.1 Y1.out
        have E := Lib.hid (up_left leaf p q h hi)
        clear h
        go_enter Try.func57, Try.ntmps57
        go_wp2_with (first | (go_at_call 65; refine (split_any _ _ (by omega) (by omega)).mono ?_; rintro e w' ⟨rfl, rfl⟩) | (go_at_call 57; refine (IH.out _ _ _ _ _ L _ rfl (by omega) (by omega) T.out K.out (by omega) (by omega) (by omega) (by omega)).mono ?_; rintro e w' ⟨rfl, rfl⟩) | (go_at_call 81; refine (pair_any _ _ _ (by omega) (by omega) (by omega) (by omega)).mono ?_; rintro e w' ⟨rfl, rfl⟩))
        go_ret2
        exact ⟨tup_of E.out, rfl⟩
      · have Y1 := Lib.hid (up_rng hleaf p (n - splitI n) (i - splitI n))
        obtain ⟨u0, u1⟩ := okI_iff.1 Y1.out
        have E := Lib.hid (up_right leaf p q h (Int.not_lt.1 hi))
        have hi' : splitI n ≤ i := by omega
        clear h hi
        go_enter Try.func57, Try.ntmps57
        go_wp2_with (first | (go_at_call 65; refine (split_any _ _ (by omega) (by omega)).mono ?_; rintro e w' ⟨rfl, rfl⟩) | (go_at_call 57; refine (IH.out _ _ _ _ _ L _ rfl (by omega) (by omega) T.out K.out (by omega) (by omega) (by omega) (by omega)).mono ?_; rintro e w' ⟨rfl, rfl⟩) | (go_at_call 81; refine (pair_any _ _ _ (by omega) (by omega) (by omega) (by omega)).mono ?_; rintro e w' ⟨rfl, rfl⟩))
        go_ret2
        exact ⟨tup_of E.out, rfl⟩

set_option maxHeartbeats 1000000 in
theorem l2Up_any (leaf : Int) (hleaf : okI leaf = true) (p : List Int) : ∀ (A : Option Addr) (n i : Int) (m c L : Nat) (w : World), p.length = m → m ≤ c → m ≤ 2000000 → RI w L A p → (∀ x ∈ p, okI x = true) → 1 ≤ n → n ≤ 40 → 0 ≤ i → i < n →
    Calls Try.prog 55 #[.int .i64 n, .int .i64 i, .int .i64 leaf, .slice A m c] w fun e w' => e = .returned (.tuple #[.int .i64 (up n i leaf p).1, .bool (up n i leaf p).2]) ∧ w = w' := by
  induction p using snoc_ind with
  | h0 =>
    intro A n i m c L w hm hc _ _ _ n1 n40 i0 i1
    obtain rfl : m = 0 := by simpa using hm.symm
    clear hm
    by_cases h : n = 1
    · subst h
      rw [up_one]
      go_enter Try.func55, Try.ntmps55
      go_wp2_with fail
      go_ret2
      exact ⟨rfl, rfl⟩
    · rw [up_nil _ _ h]
      have g1 : (n == 1) = false := by simp; omega
      have g2 : 2 ≤ n := by omega
      clear h
      go_enter Try.func55, Try.ntmps55
      go_wp2_with fail
      go_ret2
      exact ⟨rfl, rfl⟩
  | h1 p q ih =>
    intro A n i m c L w hm hc hm2 hr hok n1 n40 i0 i1
    rw [app_len] at hm
    subst hm
    by_cases h : n = 1
    · subst h
      rw [up_one, show (p ++ [q]).isEmpty = false by simp]
      clear hr hok ih
      go_enter Try.func55, Try.ntmps55
      go_wp2_with fail
      go_ret2
      exact ⟨rfl, rfl⟩
    · have h2 : 2 ≤ n := by omega
      have g1 : (n == 1) = false := by simp; omega
      have g3 : (((p.length + 1 : Nat) : Int) == 0) = false := by simp; omega
      have hs1 := splitI_pos n
      have hs2 := splitI_lt h2
      obtain ⟨b, o, rfl, _, _, hcell⟩ := hr.at_ (j := p.length) (by rw [app_len]; omega)
      rw [app_get] at hcell
      have T := Lib.hid (show RI w L (some ⟨b, o, none⟩) p by have := hr.take p.length; simpa using this)
      have K := Lib.hid (show ∀ x ∈ p, okI x = true from fun x hx => hok x (by simp [hx]))
      have Y2 := Lib.hid (hok q (by simp))
      have IH := Lib.hid ih
      obtain ⟨q0, q1⟩ := okI_iff.1 Y2.out
      clear hr hok ih
      by_cases hi : i < splitI n
      · have Y1 := Lib.hid (up_rng hleaf p (splitI n) i)
        obtain ⟨u0, u1⟩ := okI_iff.1 Y1.out
        have E := Lib.hid (up_left leaf p q h hi)
        clear h
        go_enter Try.func55, Try.ntmps55
        go_wp2_with (first | (go_at_call 79; refine (sTreSplit_yes _ _ (by omega) (by omega)).mono ?_; rintro e w' ⟨rfl, rfl⟩) | (go_at_call 55; refine (IH.out _ _ _ _ _ L _ rfl (by omega) (by omega) T.out K.out (by omega) (by omega) (by omega) (by omega)).mono ?_; rintro e w' ⟨rfl, rfl⟩) | (go_at_call 80; refine (sMixPair_yes _ _ _ Y1.out Y2.out).mono ?_; rintro e w' ⟨rfl, rfl⟩))
        go_ret2
        exact ⟨tup_of E.out, rfl⟩
      · have Y1 := Lib.hid (up_rng hleaf p (n - splitI n) (i - splitI n))
        obtain ⟨u0, u1⟩ := okI_iff.1 Y1.out
        have E := Lib.hid (up_right leaf p q h (Int.not_lt.1 hi))
        have hi' : splitI n ≤ i := by omega
        clear h hi
        go_enter Try.func55, Try.ntmps55
        go_wp2_with (first | (go_at_call 79; refine (sTreSplit_yes _ _ (by omega) (by omega)).mono ?_; rintro e w' ⟨rfl, rfl⟩) | (go_at_call 55; refine (IH.out _ _ _ _ _ L _ rfl (by omega) (by omega) T.out K.out (by omega) (by omega) (by omega) (by omega)).mono ?_; rintro e w' ⟨rfl, rfl⟩) | (go_at_call 80; refine (sMixPair_yes _ _ _ Y2.out Y1.out).mono ?_; rintro e w' ⟨rfl, rfl⟩))
        go_ret2
        exact ⟨tup_of E.out, rfl⟩

def treUp (n i leaf : Int) (p : List Int) : Int × Bool := if inB n 1 40 = true ∧ inB i 0 (n - 1) = true ∧ okI leaf = true ∧ okL p = true then (if (up n i leaf p).2 = true then ((up n i leaf p).1, true) else (0, false)) else (0, false)
theorem treUp_no {n i leaf : Int} {p : List Int} (h : ¬ (inB n 1 40 = true ∧ inB i 0 (n - 1) = true ∧ okI leaf = true ∧ okL p = true)) : treUp n i leaf p = (0, false) := by unfold treUp; rw [if_neg h]
theorem treUp_yes {n i leaf : Int} {p : List Int} (h : inB n 1 40 = true ∧ inB i 0 (n - 1) = true ∧ okI leaf = true ∧ okL p = true) (hu : (up n i leaf p).2 = true) : treUp n i leaf p = ((up n i leaf p).1, true) := by unfold treUp; rw [if_pos h, if_pos hu]
theorem treUp_bad {n i leaf : Int} {p : List Int} (hu : (up n i leaf p).2 = false) : treUp n i leaf p = (0, false) := by unfold treUp; rw [hu]; simp
theorem inB_iff {n lo hi : Int} : inB n lo hi = true ↔ lo ≤ n ∧ n ≤ hi := by simp [inB]
/-- four guards, one behind the other -/
theorem guards4 (a b c d : Bool) : (a = false ∨ (a = true ∧ b = false) ∨ (a = true ∧ b = true ∧ c = false) ∨ (a = true ∧ b = true ∧ c = true ∧ d = false)) ∨ (a = true ∧ b = true ∧ c = true ∧ d = true) := by
  cases a <;> cases b <;> cases c <;> cases d <;> simp

set_option maxHeartbeats 1000000 in
theorem TreUp_any (A : Option Addr) (n i leaf : Int) (m c L : Nat) (p : List Int) (w : World) (hl : p.length = m) (hc : m ≤ c) (hm2 : m ≤ 2000000) (hr : RI w L A p) :
    Calls Try.prog 24 #[.int .i64 n, .int .i64 i, .int .i64 leaf, .slice A m c] w fun e w' => e = .returned (.tuple #[.int .i64 (treUp n i leaf p).1, .bool (treUp n i leaf p).2]) ∧ w = w' := by
  have HL := Lib.hid hl
  clear hl
  rcases guards4 (inB n 1 40) (inB i 0 (n - 1)) (okI leaf) (okL p) with h | h
  · rw [treUp_no (by rcases h with h | h | h | h <;> simp [h])]
    rcases h with h1 | ⟨h1, h2⟩ | ⟨h1, h2, h3⟩ | ⟨h1, h2, h3, h4⟩
    · go_enter Try.func24, Try.ntmps24
      go_wp2_with (first | (go_at_call 56; refine (in_any _ _ _ _).mono ?_; rintro e w' ⟨rfl, rfl⟩) | (go_at_call 51; refine (MixOk_any _ _).mono ?_; rintro e w' ⟨rfl, rfl⟩) | (go_at_call 20; refine (TreOk_any _ _ _ L p _ HL.out hr hm2).mono ?_; rintro e w' ⟨rfl, rfl⟩))
      go_ret2
      exact ⟨rfl, rfl⟩
    all_goals
      have hn1 := (inB_iff.1 h1).1
      have hn2 := (inB_iff.1 h1).2
      go_enter Try.func24, Try.ntmps24
      go_wp2_with (first | (go_at_call 56; refine (in_any _ _ _ _).mono ?_; rintro e w' ⟨rfl, rfl⟩) | (go_at_call 51; refine (MixOk_any _ _).mono ?_; rintro e w' ⟨rfl, rfl⟩) | (go_at_call 20; refine (TreOk_any _ _ _ L p _ HL.out hr hm2).mono ?_; rintro e w' ⟨rfl, rfl⟩))
      go_ret2
      exact ⟨rfl, rfl⟩
  · cases hu : (up n i leaf p).2
    · rw [treUp_bad hu]
      obtain ⟨h1, h2, h3, h4⟩ := h
      have hn1 := (inB_iff.1 h1).1
      have hn2 := (inB_iff.1 h1).2
      have hi1 := (inB_iff.1 h2).1
      have hi2 := (inB_iff.1 h2).2
      have H3 := Lib.hid h3
      have H4 := Lib.hid (okL_iff.1 h4).2
      go_enter Try.func24, Try.ntmps24
      go_wp2_with (first | (go_at_call 56; refine (in_any _ _ _ _).mono ?_; rintro e w' ⟨rfl, rfl⟩) | (go_at_call 51; refine (MixOk_any _ _).mono ?_; rintro e w' ⟨rfl, rfl⟩) | (go_at_call 20; refine (TreOk_any _ _ _ L p _ HL.out hr hm2).mono ?_; rintro e w' ⟨rfl, rfl⟩) | (go_at_call 57; refine (upW_any _ H3.out p _ _ _ _ _ L _ HL.out hc hm2 hr H4.out (by omega) (by omega) (by omega) (by omega)).mono ?_; rintro e w' ⟨rfl, rfl⟩))
      go_ret2
      exact ⟨rfl, rfl⟩
    · rw [treUp_yes h hu]
      obtain ⟨h1, h2, h3, h4⟩ := h
      have hn1 := (inB_iff.1 h1).1
      have hn2 := (inB_iff.1 h1).2
      have hi1 := (inB_iff.1 h2).1
      have hi2 := (inB_iff.1 h2).2
      have H3 := Lib.hid h3
      have H4 := Lib.hid (okL_iff.1 h4).2
      go_enter Try.func24, Try.ntmps24
      go_wp2_with (first | (go_at_call 56; refine (in_any _ _ _ _).mono ?_; rintro e w' ⟨rfl, rfl⟩) | (go_at_call 51; refine (MixOk_any _ _).mono ?_; rintro e w' ⟨rfl, rfl⟩) | (go_at_call 20; refine (TreOk_any _ _ _ L p _ HL.out hr hm2).mono ?_; rintro e w' ⟨rfl, rfl⟩) | (go_at_call 57; refine (upW_any _ H3.out p _ _ _ _ _ L _ HL.out hc hm2 hr H4.out (by omega) (by omega) (by omega) (by omega)).mono ?_; rintro e w' ⟨rfl, rfl⟩))
      go_ret2
      exact ⟨rfl, rfl⟩
theorem TreCheck_any (A : Option Addr) (r n i leaf : Int) (m c L : Nat) (p : List Int) (w : World) (hl : p.length = m) (hc : m ≤ c) (hm2 : m ≤ 2000000) (hr : RI w L A p) :
    Calls Try.prog 28 #[.int .i64 r, .int .i64 n, .int .i64 i, .int .i64 leaf, .slice A m c] w fun e w' => e = .returned (.bool ((treUp n i leaf p).2 && (treUp n i leaf p).1 == r)) ∧ w = w' := by
  cases hu : (treUp n i leaf p).2
  all_goals
    go_enter Try.func28, Try.ntmps28
    go_wp2_with (go_at_call 24; refine (TreUp_any _ _ _ _ _ _ L p _ hl hc hm2 hr).mono ?_; rintro e w' ⟨rfl, rfl⟩)
    go_ret
    exact ⟨rfl, rfl⟩

set_option maxHeartbeats 1000000 in
theorem sTreUp_any (A : Option Addr) (n i leaf : Int) (m c L : Nat) (p : List Int) (w : World) (hl : p.length = m) (hc : m ≤ c) (hm2 : m ≤ 2000000) (hr : RI w L A p) :
    Calls Try.prog 23 #[.int .i64 n, .int .i64 i, .int .i64 leaf, .slice A m c] w fun e w' => e = .returned (.tuple #[.int .i64 (treUp n i leaf p).1, .bool (treUp n i leaf p).2]) ∧ w = w' := by
  have HL := Lib.hid hl
  clear hl
  rcases guards4 (inB n 1 40) (inB i 0 (n - 1)) (okI leaf) (okL p) with h | h
  · rw [treUp_no (by rcases h with h | h | h | h <;> simp [h])]
    rcases h with h1 | ⟨h1, h2⟩ | ⟨h1, h2, h3⟩ | ⟨h1, h2, h3, h4⟩
    · go_enter Try.func23, Try.ntmps23
      go_wp2_with (first | (go_at_call 54; refine (l1In_any _ _ _ _).mono ?_; rintro e w' ⟨rfl, rfl⟩) | (go_at_call 48; refine (sMixOk_any _ _).mono ?_; rintro e w' ⟨rfl, rfl⟩) | (go_at_call 19; refine (sTreOk_any _ _ _ L p _ HL.out hr hm2).mono ?_; rintro e w' ⟨rfl, rfl⟩))
      go_ret2
      exact ⟨rfl, rfl⟩
    all_goals
      have hn1 := (inB_iff.1 h1).1
      have hn2 := (inB_iff.1 h1).2
      go_enter Try.func23, Try.ntmps23
      go_wp2_with (first | (go_at_call 54; refine (l1In_any _ _ _ _).mono ?_; rintro e w' ⟨rfl, rfl⟩) | (go_at_call 48; refine (sMixOk_any _ _).mono ?_; rintro e w' ⟨rfl, rfl⟩) | (go_at_call 19; refine (sTreOk_any _ _ _ L p _ HL.out hr hm2).mono ?_; rintro e w' ⟨rfl, rfl⟩))
      go_ret2
      exact ⟨rfl, rfl⟩
  · cases hu : (up n i leaf p).2
    · rw [treUp_bad hu]
      obtain ⟨h1, h2, h3, h4⟩ := h
      have hn1 := (inB_iff.1 h1).1
      have hn2 := (inB_iff.1 h1).2
      have hi1 := (inB_iff.1 h2).1
      have hi2 := (inB_iff.1 h2).2
      have H3 := Lib.hid h3
      have H4 := Lib.hid (okL_iff.1 h4).2
      go_enter Try.func23, Try.ntmps23
      go_wp2_with (first | (go_at_call 54; refine (l1In_any _ _ _ _).mono ?_; rintro e w' ⟨rfl, rfl⟩) | (go_at_call 48; refine (sMixOk_any _ _).mono ?_; rintro e w' ⟨rfl, rfl⟩) | (go_at_call 19; refine (sTreOk_any _ _ _ L p _ HL.out hr hm2).mono ?_; rintro e w' ⟨rfl, rfl⟩) | (go_at_call 55; refine (l2Up_any _ H3.out p _ _ _ _ _ L _ HL.out hc hm2 hr H4.out (by omega) (by omega) (by omega) (by omega)).mono ?_; rintro e w' ⟨rfl, rfl⟩))
      go_ret2
      exact ⟨rfl, rfl⟩
    · rw [treUp_yes h hu]
      obtain ⟨h1, h2, h3, h4⟩ := h
      have hn1 := (inB_iff.1 h1).1
      have hn2 := (inB_iff.1 h1).2
      have hi1 := (inB_iff.1 h2).1
      have hi2 := (inB_iff.1 h2).2
      have H3 := Lib.hid h3
      have H4 := Lib.hid (okL_iff.1 h4).2
      go_enter Try.func23, Try.ntmps23
      go_wp2_with (first | (go_at_call 54; refine (l1In_any _ _ _ _).mono ?_; rintro e w' ⟨rfl, rfl⟩) | (go_at_call 48; refine (sMixOk_any _ _).mono ?_; rintro e w' ⟨rfl, rfl⟩) | (go_at_call 19; refine (sTreOk_any _ _ _ L p _ HL.out hr hm2).mono ?_; rintro e w' ⟨rfl, rfl⟩) | (go_at_call 55; refine (l2Up_any _ H3.out p _ _ _ _ _ L _ HL.out hc hm2 hr H4.out (by omega) (by omega) (by omega) (by omega)).mono ?_; rintro e w' ⟨rfl, rfl⟩))
      go_ret2
      exact ⟨rfl, rfl⟩
theorem sTreCheck_any (A : Option Addr) (r n i leaf : Int) (m c L : Nat) (p : List Int) (w : World) (hl : p.length = m) (hc : m ≤ c) (hm2 : m ≤ 2000000) (hr : RI w L A p) :
    Calls Try.prog 27 #[.int .i64 r, .int .i64 n, .int .i64 i, .int .i64 leaf, .slice A m c] w fun e w' => e = .returned (.bool ((treUp n i leaf p).2 && (treUp n i leaf p).1 == r)) ∧ w = w' := by
  cases hu : (treUp n i leaf p).2
  all_goals
    go_enter Try.func27, Try.ntmps27
    go_wp2_with (go_at_call 23; refine (sTreUp_any _ _ _ _ _ _ L p _ hl hc hm2 hr).mono ?_; rintro e w' ⟨rfl, rfl⟩)
    go_ret
    exact ⟨rfl, rfl⟩
end Go.Proofs.Ytjacddjmconfaaa
