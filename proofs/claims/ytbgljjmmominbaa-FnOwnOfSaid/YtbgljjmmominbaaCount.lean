/- Contracts: how many tickets somebody has. -/
import Derived.Test.YtbgljjmmominbaaOf
namespace Go.Proofs.Ytbgljjmmominbaa
set_option linter.unusedVariables false
open Go.RowKit Pl
theorem OwnCount_any (A : Option Addr) (n c L : Nat) (rs : List Orow) (who : Int) (w : World) (hl : rs.length = n) (hr : RV w L A (flatR rs)) (hn : n ≤ 1500000) : Calls Try.prog 28 #[.slice A n c, .int .i64 who] w fun e w' => e = .returned (.int .i64 ((ownOf rs who).length : Int)) ∧ Below w.heap.size w w' := by
  go_enter Try.func28, Try.ntmps28
  go_wp2_with fail
  refine (OwnOf_any _ _ _ _ rs who _ hl hr hn).mono ?_
  rintro e w2 ⟨A2, n2, c2, rfl, hl2, ho2, hb2⟩
  obtain rfl : n2 = (ownOf rs who).length := hl2.symm
  go_wp2_with fail
  go_ret
  exact ⟨rfl, hb2⟩
set_option maxHeartbeats 1000000 in
theorem sOwnCount_any (A : Option Addr) (n c L : Nat) (rs : List Orow) (who : Int) (w : World) (hl : rs.length = n) (hr : RV w L A (flatR rs)) (hn : n ≤ 1500000) : Calls Try.prog 26 #[.slice A n c, .int .i64 who] w fun e w' => e = .returned (.int .i64 ((ownOf rs who).length : Int)) ∧ Below w.heap.size w w' := by
  have HL := Lib.hid hl
  have HR := Lib.hid hr
  clear hl hr
  obtain ⟨V, hV⟩ : ∃ V, V = ((ownOf rs who).length : Int) := ⟨_, rfl⟩
  rw [← hV]
  have HV := Lib.hid hV
  clear hV
  go_enter Try.func26, Try.ntmps26
  go_wp2_with fail
  go_loop [5, 6] (fun q i => ∃ (k m : Nat), k ≤ n ∧ m ≤ k ∧ i = .int .i64 (k : Int) ∧ q = .int .i64 (m : Int) ∧ Hid (m = (ofP rs who k).length)) (fun _ i => n - (intOf i).toNat)
  case atStart => exact ⟨0, 0, by omega, by omega, rfl, rfl, rfl⟩
  case round =>
    obtain ⟨k, m, hk, hm, rfl, rfl, hm2⟩ := hrel
    by_cases hlt : k < n
    · obtain ⟨b, o, rfl, _, hbs, h1, h2, h3⟩ := HR.out.atR (j := k) (by rw [HL.out]; exact hlt)
      cases hu : (rs.getD k r0).u == who
      · have hs := Lib.hid (ofP_no rs who k hu)
        generalize rs.getD k r0 = e1 at *
        go_wp2_with fail
        go_round
        case rel => exact ⟨k + 1, m, by omega, by omega, by go_num, rfl, Lib.hid (by rw [hs.out]; exact hm2.out)⟩
        case measure => simp [intOf]; omega
      · have hs := Lib.hid (ofP_yes rs who k hu)
        generalize rs.getD k r0 = e1 at *
        go_wp2_with fail
        go_round
        case rel => exact ⟨k + 1, m + 1, by omega, by omega, by go_num, by go_num, Lib.hid (by rw [hs.out, List.length_append, ← hm2.out]; rfl)⟩
        case measure => simp [intOf]; omega
    · have hv : V = (m : Int) := by
        rw [HV.out, ownOf, HL.out, hm2.out, show k = n by omega]
      subst hv
      clear hm2
      go_wp2_with fail
      go_ret
      exact ⟨rfl, Below.refl _ _⟩
end Go.Proofs.Ytbgljjmmominbaa
