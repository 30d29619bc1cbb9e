/- Contracts: whether a proof shows that a tree has grown. -/
import Derived.Test.YtjacddjmconfaaaGrown
namespace Go.Proofs.Ytjacddjmconfaaa
set_option linter.unusedVariables false
open Go.RowKit Pl

def conG (m old n r : Int) (p : List Int) : Prop := inB n 1 40 = true ∧ inB m 1 n = true ∧ okI old = true ∧ okI r = true ∧ okL p = true
def conV (m old n r : Int) (p : List Int) : Bool := (grown m n old p true).2 && ((grown m n old p true).1.1 == old && (grown m n old p true).1.2 == r)
instance (m old n r : Int) (p : List Int) : Decidable (conG m old n r p) := by unfold conG; infer_instance
def conCheck (m old n r : Int) (p : List Int) : Bool := if conG m old n r p then conV m old n r p else false
theorem guards5 (a b c d f : Bool) : (a = false ∨ (a = true ∧ b = false) ∨ (a = true ∧ b = true ∧ c = false) ∨ (a = true ∧ b = true ∧ c = true ∧ d = false) ∨ (a = true ∧ b = true ∧ c = true ∧ d = true ∧ f = false)) ∨ (a = true ∧ b = true ∧ c = true ∧ d = true ∧ f = true) := by
  cases a <;> cases b <;> cases c <;> cases d <;> cases f <;> simp
theorem conCheck_no {m old n r : Int} {p : List Int} (h : ¬ conG m old n r p) : conCheck m old n r p = false := by unfold conCheck; rw [if_neg h]
theorem conCheck_yes {m old n r : Int} {p : List Int} (h : conG m old n r p) : conCheck m old n r p = conV m old n r p := by unfold conCheck; rw [if_pos h]

set_option maxHeartbeats 1000000 in
theorem ConCheck_any (A : Option Addr) (m old n r : Int) (q c L : Nat) (p : List Int) (w : World) (hl : p.length = q) (hc : q ≤ c) (hm2 : q ≤ 2000000) (hr : RI w L A p) :
    Calls Try.prog 26 #[.int .i64 m, .int .i64 old, .int .i64 n, .int .i64 r, .slice A q c] w fun e w' => e = .returned (.bool (conCheck m old n r p)) ∧ Below w.heap.size w w' := by
  have HL := Lib.hid hl
  clear hl
  rcases guards5 (inB n 1 40) (inB m 1 n) (okI old) (okI r) (okL p) with h | h
  · rw [conCheck_no (by unfold conG; rcases h with h | h | h | h | h <;> simp [h])]
    rcases h with h1 | ⟨h1, h2⟩ | ⟨h1, h2, h3⟩ | ⟨h1, h2, h3, h4⟩ | ⟨h1, h2, h3, h4, h5⟩
    all_goals
      go_enter Try.func26, Try.ntmps26
      go_wp2_with (first | (go_at_call 56; refine (in_any _ _ _ _).mono ?_; rintro e w' ⟨rfl, rfl⟩) | (go_at_call 51; refine (MixOk_any _ _).mono ?_; rintro e w' ⟨rfl, rfl⟩) | (go_at_call 20; refine (TreOk_any _ _ _ L p _ HL.out hr hm2).mono ?_; rintro e w' ⟨rfl, rfl⟩))
      go_ret
      exact ⟨rfl, Below.refl _ _⟩
  · rw [conCheck_yes h]
    obtain ⟨h1, h2, h3, h3b, h4⟩ := h
    obtain ⟨hn1, hn2⟩ := inB_iff.1 h1
    obtain ⟨hi1, hi2⟩ := inB_iff.1 h2
    have H3 := Lib.hid h3
    have H4 := Lib.hid (okL_iff.1 h4).2
    cases hu : (grown m n old p true).2
    · rw [show conV m old n r p = false by simp [conV, hu]]
      go_enter Try.func26, Try.ntmps26
      go_wp2_with (first | (go_at_call 56; refine (in_any _ _ _ _).mono ?_; rintro e w' ⟨rfl, rfl⟩) | (go_at_call 51; refine (MixOk_any _ _).mono ?_; rintro e w' ⟨rfl, rfl⟩) | (go_at_call 20; refine (TreOk_any _ _ _ L p _ HL.out hr hm2).mono ?_; rintro e w' ⟨rfl, rfl⟩) | (go_at_call 59; refine (grownW_any _ H3.out p _ _ _ _ _ _ L _ HL.out hc hm2 hr H4.out (by omega) (by omega) (by omega)).mono ?_; rintro e w1 ⟨rfl, hb1⟩))
      go_ret
      exact ⟨rfl, hb1.alloc hb1.size _⟩
    · rw [show conV m old n r p = ((grown m n old p true).1.1 == old && (grown m n old p true).1.2 == r) by simp [conV, hu]]
      go_enter Try.func26, Try.ntmps26
      go_wp2_with (first | (go_at_call 56; refine (in_any _ _ _ _).mono ?_; rintro e w' ⟨rfl, rfl⟩) | (go_at_call 51; refine (MixOk_any _ _).mono ?_; rintro e w' ⟨rfl, rfl⟩) | (go_at_call 20; refine (TreOk_any _ _ _ L p _ HL.out hr hm2).mono ?_; rintro e w' ⟨rfl, rfl⟩) | (go_at_call 59; refine (grownW_any _ H3.out p _ _ _ _ _ _ L _ HL.out hc hm2 hr H4.out (by omega) (by omega) (by omega)).mono ?_; rintro e w1 ⟨rfl, hb1⟩))
      all_goals
        go_ret
        exact ⟨ret_bool (by clear hb1 H3 H4 HL; simp_all), hb1.alloc hb1.size _⟩

set_option maxHeartbeats 1000000 in
theorem sConCheck_any (A : Option Addr) (m old n r : Int) (q c L : Nat) (p : List Int) (w : World) (hl : p.length = q) (hc : q ≤ c) (hm2 : q ≤ 2000000) (hr : RI w L A p) :
    Calls Try.prog 25 #[.int .i64 m, .int .i64 old, .int .i64 n, .int .i64 r, .slice A q c] w fun e w' => e = .returned (.bool (conCheck m old n r p)) ∧ ∃ d, w' = w.drewN d := by
  have HL := Lib.hid hl
  clear hl
  rcases guards5 (inB n 1 40) (inB m 1 n) (okI old) (okI r) (okL p) with h | h
  · rw [conCheck_no (by unfold conG; rcases h with h | h | h | h | h <;> simp [h])]
    rcases h with h1 | ⟨h1, h2⟩ | ⟨h1, h2, h3⟩ | ⟨h1, h2, h3, h4⟩ | ⟨h1, h2, h3, h4, h5⟩
    all_goals
      go_enter Try.func25, Try.ntmps25
      go_wp2_with (first | (go_at_call 54; refine (l1In_any _ _ _ _).mono ?_; rintro e w' ⟨rfl, rfl⟩) | (go_at_call 48; refine (sMixOk_any _ _).mono ?_; rintro e w' ⟨rfl, rfl⟩) | (go_at_call 19; refine (sTreOk_any _ _ _ L p _ HL.out hr hm2).mono ?_; rintro e w' ⟨rfl, rfl⟩))
      go_ret
      exact ⟨rfl, 0, rfl⟩
  · rw [conCheck_yes h]
    obtain ⟨h1, h2, h3, h3b, h4⟩ := h
    obtain ⟨hn1, hn2⟩ := inB_iff.1 h1
    obtain ⟨hi1, hi2⟩ := inB_iff.1 h2
    have H3 := Lib.hid h3
    have H4 := Lib.hid (okL_iff.1 h4).2
    have hb := both_grown old p m n true
    cases hu : (grown m n old p true).2
    · rw [show conV m old n r p = false by simp [conV, hu]]
      have h5 : (both m n old p true).2 = false := by rw [hb.1, hu]
      clear hb hu
      go_enter Try.func25, Try.ntmps25
      go_wp2_with (first | (go_at_call 54; refine (l1In_any _ _ _ _).mono ?_; rintro e w' ⟨rfl, rfl⟩) | (go_at_call 48; refine (sMixOk_any _ _).mono ?_; rintro e w' ⟨rfl, rfl⟩) | (go_at_call 19; refine (sTreOk_any _ _ _ L p _ HL.out hr hm2).mono ?_; rintro e w' ⟨rfl, rfl⟩) | (go_at_call 58; refine (l3Both_any _ H3.out p _ _ _ _ _ _ L _ HL.out hc hm2 hr H4.out (by omega) (by omega) (by omega)).mono ?_; rintro e w' ⟨rfl, d, rfl⟩))
      go_ret
      exact ⟨rfl, _, rfl⟩
    · rw [show conV m old n r p = ((both m n old p true).1.1 == old && (both m n old p true).1.2 == r) by simp [conV, hu, hb.2 hu]]
      have h5 : (both m n old p true).2 = true := by rw [hb.1, hu]
      clear hb hu
      cases h6 : ((both m n old p true).1.1 == old)
      all_goals
        go_enter Try.func25, Try.ntmps25
        go_wp2_with (first | (go_at_call 54; refine (l1In_any _ _ _ _).mono ?_; rintro e w' ⟨rfl, rfl⟩) | (go_at_call 48; refine (sMixOk_any _ _).mono ?_; rintro e w' ⟨rfl, rfl⟩) | (go_at_call 19; refine (sTreOk_any _ _ _ L p _ HL.out hr hm2).mono ?_; rintro e w' ⟨rfl, rfl⟩) | (go_at_call 58; refine (l3Both_any _ H3.out p _ _ _ _ _ _ L _ HL.out hc hm2 hr H4.out (by omega) (by omega) (by omega)).mono ?_; rintro e w' ⟨rfl, d, rfl⟩))
        go_ret
        exact ⟨rfl, _, rfl⟩
end Go.Proofs.Ytjacddjmconfaaa
