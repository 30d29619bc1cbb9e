/- Contracts: how all tickets stand, folded (program and reference). -/
import Derived.Test.YtbgljjmmominbaaLog
namespace Go.Proofs.Ytbgljjmmominbaa
set_option linter.unusedVariables false
open Go.RowKit Pl
def foldP (rs : List Orow) : List Ent → List Orow × Bool
  | [] => (rs, true)
  | e :: es => if (ownPut rs e).2 = true then foldP (ownPut rs e).1 es else ([], false)
def ownFold (es : List Ent) : List Orow × Bool := if es.length ≤ 40 then foldP (List.replicate 8 r0) es else ([], false)
theorem ownFold_few {es : List Ent} (h : es.length ≤ 40) : ownFold es = foldP (List.replicate 8 r0) es := by unfold ownFold; rw [if_pos h]
theorem ownFold_many {es : List Ent} (h : 40 < es.length) : ownFold es = ([], false) := by unfold ownFold; rw [if_neg (by omega)]
theorem foldP_no {rs : List Orow} {e : Ent} (h : (ownPut rs e).2 = false) (es : List Ent) : foldP rs (e :: es) = ([], false) := by rw [foldP, if_neg (by rw [h]; decide)]
theorem foldP_yes {rs : List Orow} {e : Ent} (h : (ownPut rs e).2 = true) (es : List Ent) : foldP rs (e :: es) = foldP (ownPut rs e).1 es := by rw [foldP, if_pos h]
theorem drop_head (es : List Ent) (k : Nat) (h : k < es.length) : es.drop k = es.getD k e0 :: es.drop (k + 1) := by
  rw [getD_get es e0 h]; exact List.drop_eq_getElem_cons h
theorem own_litR (w : World) (base : Nat) (hb : base ≤ w.heap.size) : OwnR (w.alloc (.cells #[] 31)) base (some ⟨w.heap.size, 0, none⟩) 0 0 [] := World.ownsRow_made w #[] 0 hb (by decide) rfl
set_option maxHeartbeats 4000000 in
theorem OwnFold_any (A : Option Addr) (n c L : Nat) (es : List Ent) (w : World) (hl : es.length = n) (hr : RV w L A (flatE es)) (hn : n ≤ 1500000) : Calls Try.prog 66 #[.slice A n c] w (PutRes w (ownFold es)) := by
  obtain ⟨i0, hi, hz0, hz1, hz2⟩ := info_parts info_row
  by_cases hbig : n ≤ 40
  · have HL := Lib.hid hl
    have HR := Lib.hid hr
    rw [ownFold_few (by omega)]
    clear hl hr
    obtain ⟨V, hV⟩ : ∃ V, foldP (List.replicate 8 r0) es = V := ⟨_, rfl⟩
    rw [hV]
    have HV := Lib.hid hV
    clear hV
    go_enter Try.func66, Try.ntmps66
    go_wp2_with (at_make; refine wpList_make_full _ rfl _ _ 37 rfl w.heap.size 31 i0 (.agg #[.int .i64 0, .int .i64 0, .bool false]) 3 Try.underlying37 hi hz0 hz1 _ _ _ _ 8 rfl rfl rfl rfl (by rw [hz2]; omega) (by unfold maxLen; omega) (Nat.le_refl _) ?_; intro w1 hown1 hg1; have OM := Lib.hid (show OwnR w1 w.heap.size (some ⟨w.heap.size, 0, none⟩) 8 8 (List.replicate 8 r0) from by (show w1.ownsRow _ _ 3 _ 8 (flatR (List.replicate 8 r0))); rw [← flatR_rep 8]; exact hown1); have BM := Lib.hid ((Below.refl _ _).grown hg1 (Nat.le_refl _) (fun k hk => by cases hk)); clear hown1 hg1)
    go_loopw [4, 15] (fun o i wr => ∃ (k : Nat) (A' : Option Addr) (c' : Nat) (rs : List Orow), k ≤ n ∧ i = .int .i64 (k : Int) ∧ o = .slice A' 8 c' ∧ OwnR wr w.heap.size A' 8 c' rs ∧ Below w.heap.size w wr ∧ foldP rs (es.drop k) = V) (fun _ i _ => n - (intOf i).toNat)
    case atStart => exact ⟨0, _, _, List.replicate 8 r0, by omega, rfl, rfl, OM.out, BM.out, HV.out⟩
    case round =>
      obtain ⟨k, A', c', rs, hk, rfl, rfl, ho, hb, hf⟩ := hrel
      obtain ⟨g2, c2, hv2, hB2, hlt2⟩ := World.ownsRow.form ho (by omega)
      injection hv2 with e1 _ e3
      subst e1 e3
      have O := Lib.hid ho
      have B := Lib.hid hb
      have F := Lib.hid hf
      have hrl := Lib.hid (ownR_len ho)
      have hsz : w.heap.size ≤ wr.heap.size := hb.size
      clear ho hb hf OM BM
      by_cases hlt : k < n
      · obtain ⟨b, o, rfl, _, hbs, h1, h2, h3, h4⟩ := (HR.out.below B.out).atE (j := k) (by rw [HL.out]; exact hlt)
        have hd := Lib.hid (drop_head es k (by rw [HL.out]; exact hlt))
        generalize es.getD k e0 = z at *
        go_wp2_with fail
        refine (OwnPut_any _ 8 _ w.heap.size rs _ _ _ _ _ hrl.out ((RV.of_own (World.ownsRow.alloc O.out _))) (fun e => by cases e) (by omega)).mono ?_
        rintro e w3 ⟨A3, n3, c3, rfl, hl3, ho3, hb3⟩
        obtain rfl : n3 = 8 := by rw [← hl3, ownPut_len]; exact hrl.out
        have B3 := Lib.hid (below_at (B.out.alloc hsz _) hb3)
        have O3 := Lib.hid (owns_less ho3 (Nat.le_trans hsz (by simp)))
        have hs3 : w.heap.size ≤ w3.heap.size := B3.out.size
        clear hl3 ho3 hb3 h1 h2 h3 h4 O B
        have F2 := Lib.hid (F.out)
        rw [hd.out] at F2
        cases hp : (ownPut rs ⟨z.k, z.t, z.u, z.p⟩).2
        · have F3 := Lib.hid ((foldP_no (e := z) hp (es.drop (k + 1))).symm.trans F2.out)
          have HP := Lib.hid hp
          clear hp F F2
          go_wp2_with fail
          go_ret2
          rw [← F3.out]
          exact ⟨none, 0, 0, rfl, rfl, World.ownsRow_nil _ _ _ _, B3.out⟩
        · have F3 := Lib.hid ((foldP_yes (e := z) hp (es.drop (k + 1))).symm.trans F2.out)
          have HP := Lib.hid hp
          clear hp F F2
          go_wp2_with fail
          go_roundw
          case rel => exact ⟨k + 1, _, _, _, by omega, by go_num, rfl, O3.out, B3.out, F3.out⟩
          case measure => simp [intOf]; omega
      · obtain rfl : k = n := by omega
        go_wp2_with fail
        go_ret2
        have F2 := F.out
        rw [List.drop_of_length_le (by rw [HL.out]; exact Nat.le_refl _), foldP] at F2
        rw [← F2]
        exact ⟨_, _, _, rfl, hrl.out, O.out, B.out⟩
  · have hb : 40 < n := by omega
    rw [ownFold_many (by omega)]
    clear hl hr hbig
    go_enter Try.func66, Try.ntmps66
    go_wp2_with fail
    go_ret2
    exact ⟨none, 0, 0, rfl, rfl, World.ownsRow_nil _ _ _ _, Below.refl _ _⟩
set_option maxHeartbeats 4000000 in
theorem sOwnFold_any (A : Option Addr) (n c L : Nat) (es : List Ent) (w : World) (hl : es.length = n) (hr : RV w L A (flatE es)) (hn : n ≤ 1500000) : Calls Try.prog 67 #[.slice A n c] w (PutRes w (ownFold es)) := by
  skip
  by_cases hbig : n ≤ 40
  · have HL := Lib.hid hl
    have HR := Lib.hid hr
    rw [ownFold_few (by omega)]
    clear hl hr
    obtain ⟨V, hV⟩ : ∃ V, foldP (List.replicate 8 r0) es = V := ⟨_, rfl⟩
    rw [hV]
    have HV := Lib.hid hV
    clear hV
    go_enter Try.func67, Try.ntmps67
    go_wp2_with fail
    refine (l5New_any _).mono ?_
    rintro e w1 ⟨rfl, hrow1, hb1⟩
    have OM := Lib.hid hrow1
    have BM := Lib.hid hb1
    clear hrow1 hb1
    go_wp2_with fail
    go_loopw [4, 5] (fun o i wr => ∃ (k : Nat) (A' : Option Addr) (c' : Nat) (rs : List Orow), k ≤ n ∧ i = .int .i64 (k : Int) ∧ o = .slice A' 8 c' ∧ OwnR wr w.heap.size A' 8 c' rs ∧ Below w.heap.size w wr ∧ foldP rs (es.drop k) = V) (fun _ i _ => n - (intOf i).toNat)
    case atStart => exact ⟨0, _, _, List.replicate 8 r0, by omega, rfl, rfl, OM.out, BM.out, HV.out⟩
    case round =>
      obtain ⟨k, A', c', rs, hk, rfl, rfl, ho, hb, hf⟩ := hrel
      obtain ⟨g2, c2, hv2, hB2, hlt2⟩ := World.ownsRow.form ho (by omega)
      injection hv2 with e1 _ e3
      subst e1 e3
      have O := Lib.hid ho
      have B := Lib.hid hb
      have F := Lib.hid hf
      have hrl := Lib.hid (ownR_len ho)
      have hsz : w.heap.size ≤ wr.heap.size := hb.size
      clear ho hb hf OM BM
      by_cases hlt : k < n
      · obtain ⟨b, o, rfl, _, hbs, h1, h2, h3, h4⟩ := (HR.out.below B.out).atE (j := k) (by rw [HL.out]; exact hlt)
        have hd := Lib.hid (drop_head es k (by rw [HL.out]; exact hlt))
        generalize es.getD k e0 = z at *
        go_wp2_with fail
        refine (sOwnPut_any _ 8 _ w.heap.size rs _ _ _ _ _ hrl.out ((RV.of_own O.out)) (fun e => by cases e) (by omega)).mono ?_
        rintro e w3 ⟨A3, n3, c3, rfl, hl3, ho3, hb3⟩
        obtain rfl : n3 = 8 := by rw [← hl3, ownPut_len]; exact hrl.out
        have B3 := Lib.hid (below_at B.out hb3)
        have O3 := Lib.hid (owns_less ho3 hsz)
        have hs3 : w.heap.size ≤ w3.heap.size := B3.out.size
        clear hl3 ho3 hb3 h1 h2 h3 h4 O B
        have F2 := Lib.hid (F.out)
        rw [hd.out] at F2
        cases hp : (ownPut rs ⟨z.k, z.t, z.u, z.p⟩).2
        · have F3 := Lib.hid ((foldP_no (e := z) hp (es.drop (k + 1))).symm.trans F2.out)
          have HP := Lib.hid hp
          clear hp F F2
          go_wp2_with fail
          go_ret2
          rw [← F3.out]
          exact ⟨_, 0, 0, rfl, rfl, own_litR w3 w.heap.size hs3, B3.out.alloc hs3 _⟩
        · have F3 := Lib.hid ((foldP_yes (e := z) hp (es.drop (k + 1))).symm.trans F2.out)
          have HP := Lib.hid hp
          clear hp F F2
          go_wp2_with fail
          go_roundw
          case rel => exact ⟨k + 1, _, _, _, by omega, by go_num, rfl, O3.out, B3.out, F3.out⟩
          case measure => simp [intOf]; omega
      · obtain rfl : k = n := by omega
        go_wp2_with fail
        go_ret2
        have F2 := F.out
        rw [List.drop_of_length_le (by rw [HL.out]; exact Nat.le_refl _), foldP] at F2
        rw [← F2]
        exact ⟨_, _, _, rfl, hrl.out, O.out, B.out⟩
  · have hb : 40 < n := by omega
    rw [ownFold_many (by omega)]
    clear hl hr hbig
    go_enter Try.func67, Try.ntmps67
    go_wp2_with fail
    refine (l5New_any _).mono ?_
    rintro e w1 ⟨rfl, hrow1, hb1⟩
    have BM := Lib.hid hb1
    clear hrow1 hb1
    go_wp2_with fail
    go_ret2
    exact ⟨_, 0, 0, rfl, rfl, own_litR w1 w.heap.size BM.out.size, BM.out.alloc BM.out.size _⟩
end Go.Proofs.Ytbgljjmmominbaa

