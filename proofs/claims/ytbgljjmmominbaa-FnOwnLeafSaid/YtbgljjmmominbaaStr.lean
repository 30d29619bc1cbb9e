/- Contracts: slices of owner rows and of entries: copied, told to be the same, marked, held. -/
import Derived.Test.YtbgljjmmominbaaVals
import Derived.Test.YtbgljjmmominbaaEntB
import Derived.Deep.RegionHeld3
namespace Go.Proofs.Ytbgljjmmominbaa
set_option linter.unusedVariables false
open Go.RowKit
theorem below_drewN1 {w w' : World} (h : Below w.drew.heap.size w.drew w') : Below w.heap.size w w' := ⟨h.os, h.tape, h.output, h.size, h.block⟩
def yR1 (rs : List Orow) (r : Orow) (j : Nat) : Orow := ⟨r.u, (rs.getD j r0).f, (rs.getD j r0).b⟩
def yR2 (rs : List Orow) (r : Orow) (j : Nat) : Orow := ⟨r.u, r.f, (rs.getD j r0).b⟩
def yR3 (rs : List Orow) (r : Orow) (j : Nat) : Orow := ⟨r.u, r.f, r.b⟩
theorem set_getDR (rs : List Orow) (j : Nat) (y d : Orow) (h : j < rs.length) : (rs.set j y).getD j d = y := by simp [List.getD, h]
/-- a whole struct stored -/
theorem ownR_put {w : World} {base g n cap : Nat} {rs : List Orow} (h : OwnR w base (some ⟨g, 0, none⟩) n cap rs) {j : Nat} (hj : j < n) (r : Orow) :
    OwnR ((((w).setCell ⟨g, j * 3, none⟩ (.int .i64 r.u)).setCell ⟨g, j * 3 + 1, none⟩ (.int .i64 r.f)).setCell ⟨g, j * 3 + 2, none⟩ (.bool r.b)) base (some ⟨g, 0, none⟩) n cap (rs.set j r) ∧ w.grownBy ((((w).setCell ⟨g, j * 3, none⟩ (.int .i64 r.u)).setCell ⟨g, j * 3 + 1, none⟩ (.int .i64 r.f)).setCell ⟨g, j * 3 + 2, none⟩ (.bool r.b)) (some g) := by
  have hjl : j < rs.length := by rw [ownR_len h]; exact hj
  have h1 := ownR_set h hj 0 (.int .i64 r.u) (yR1 rs r j) (by omega) (by rfl)
  have h2 := ownR_set h1.1 hj 1 (.int .i64 r.f) (yR2 rs r j) (by omega) (by rw [set_getDR _ _ _ _ hjl]; rfl)
  rw [List.set_set] at h2
  have h3 := ownR_set h2.1 hj 2 (.bool r.b) (yR3 rs r j) (by omega) (by rw [set_getDR _ _ _ _ hjl]; rfl)
  rw [List.set_set] at h3
  exact ⟨h3.1, grownBy_trans' (grownBy_trans' (h1.2) h2.2) h3.2⟩
def partR (rs : List Orow) (n j : Nat) : List Orow := rs.take j ++ List.replicate (n - j) r0
theorem partR_all (rs : List Orow) (n : Nat) (h : rs.length = n) : partR rs n n = rs := by
  simp [partR, List.take_of_length_le (Nat.le_of_eq h)]
theorem partR_step (rs : List Orow) (n j : Nat) (h : j < rs.length) (hn : rs.length = n) : (partR rs n j).set j (rs.getD j r0) = partR rs n (j + 1) := by
  unfold partR
  rw [List.set_append_right _ _ (by simp; omega)]
  rw [show j - (rs.take j).length = 0 by simp; omega]
  rw [show n - j = (n - (j + 1)) + 1 by omega, List.replicate_succ]
  rw [List.set_cons_zero, List.take_succ_eq_append_getElem h, getD_get rs r0 h, List.append_assoc]
  rfl
theorem flatR_rep (n : Nat) : (madeCells #[.int .i64 0, .int .i64 0, .bool false] (n * 3)).toList = flatR (List.replicate n r0) := by
  apply List.ext_getElem?
  intro i
  by_cases hi : i < n * 3
  · have hj : i / 3 < (List.replicate n r0).length := by simp; omega
    have h := flat_at encR_len (List.replicate n r0) (i / 3) (i % 3) hj (Nat.mod_lt _ (by omega))
    rw [show i / 3 * 3 + i % 3 = i from Nat.div_add_mod' i 3] at h
    unfold flatR
    rw [h]
    simp only [madeCells, List.getElem_replicate]
    have hm : i % 3 < 3 := Nat.mod_lt _ (by omega)
    generalize hq : i % 3 = q at *
    simp [hi, hq, encR, r0]
    match q, hm with
    | 0, _ => rfl
    | 1, _ => rfl
    | 2, _ => rfl
  · rw [List.getElem?_eq_none (by simp [madeCells]; omega), List.getElem?_eq_none (by rw [flatR_len]; simp; omega)]
def CopyR (w : World) (n : Nat) (rs : List Orow) (e : Ending) (w' : World) : Prop := ∃ A c, e = .returned (.slice A n c) ∧ n ≤ c ∧ OwnR w' w.heap.size A n c rs ∧ Below w.heap.size w w'
set_option maxHeartbeats 1000000 in
theorem toR_any (A : Option Addr) (n c L : Nat) (rs : List Orow) (w : World) (hl : rs.length = n) (hr : RV w L A (flatR rs)) (hn : n ≤ 1500000) : Calls Try.prog 27 #[.slice A n c] w (CopyR w n rs) := by
  have HL := Lib.hid hl
  have HR := Lib.hid hr
  clear hl hr
  obtain ⟨i0, hi, hz0, hz1, hz2⟩ := info_parts info_row
  go_enter Try.func27, Try.ntmps27
  go_wp2_with (at_make; refine wpList_make_full _ rfl _ _ 37 rfl w.heap.size 31 i0 (.agg #[.int .i64 0, .int .i64 0, .bool false]) 3 Try.underlying37 hi hz0 hz1 _ _ _ _ n rfl rfl rfl rfl (by rw [hz2]; omega) (by unfold maxLen; omega) (Nat.le_refl _) ?_; intro w1 hown1 hg1)
  have HO : Hid (OwnR w1 w.heap.size (some ⟨w.heap.size, 0, none⟩) n n (partR rs n 0)) := Lib.hid (by simpa [OwnR, partR, ← flatR_rep, Value.cells] using hown1)
  have HG : Hid (Below w.heap.size w w1) := Lib.hid ((Below.refl _ _).grown hg1 (Nat.le_refl _) (fun k hk => by cases hk))
  clear hown1 hg1
  go_wp2_with fail
  go_loopw [4] (fun i wr => ∃ k : Nat, k ≤ n ∧ i = .int .i64 k ∧ OwnR wr w.heap.size (some ⟨w.heap.size, 0, none⟩) n n (partR rs n k) ∧ Below w.heap.size w wr) (fun i _ => n - (intOf i).toNat)
  case atStart => exact ⟨0, by omega, rfl, HO.out, HG.out⟩
  case round =>
    obtain ⟨k, hk, rfl, ho, hb⟩ := hrel
    have O := Lib.hid ho
    have B := Lib.hid hb
    clear ho hb HO HG
    by_cases hlt : k < n
    · obtain ⟨b, o, rfl, _, hbs, h1, h2, h3⟩ := HR.out.atR (j := k) (by rw [HL.out]; exact hlt)
      have hc1 := (B.out.cell (p := ⟨b, o + k * 3, none⟩) hbs).trans h1
      have hc2 := (B.out.cell (p := ⟨b, o + k * 3 + 1, none⟩) hbs).trans h2
      have hc3 := (B.out.cell (p := ⟨b, o + k * 3 + 2, none⟩) hbs).trans h3
      have hs := Lib.hid (partR_step rs n k (by rw [HL.out]; exact hlt) HL.out)
      clear h1 h2 h3
      generalize rs.getD k r0 = r at *
      go_wp2_with fail
      refine (toOwnRow_any _ _ _ _).mono ?_
      rintro e w2 ⟨rfl, hb2⟩
      have O2 := Lib.hid (owns_over O.out hb2)
      have B2 := Lib.hid (below_at B.out hb2)
      clear hb2 hc1 hc2 hc3
      obtain ⟨d1, d2, d3⟩ := ownR_cells O2.out hlt
      have f1 := World.ownsRow.frozenAt O2.out (k * 3)
      have f2 := World.ownsRow.frozenAt O2.out (k * 3 + 1)
      have f3 := World.ownsRow.frozenAt O2.out (k * 3 + 2)
      have P := Lib.hid (ownR_put O2.out hlt r)
      generalize (partR rs n k).getD k r0 = y at *
      go_wp2_with fail
      go_roundw
      case rel =>
        have h1 := P.out.1
        rw [hs.out] at h1
        exact ⟨k + 1, by omega, by go_num, h1, B2.out.grown P.out.2 B2.out.size (fun q hq => by injection hq with hq; omega)⟩
      case measure => simp [intOf]; omega
    · obtain rfl : k = n := by omega
      go_wp2_with fail
      go_ret
      have h1 := O.out
      rw [partR_all rs k HL.out] at h1
      exact ⟨_, _, rfl, Nat.le_refl _, h1, B.out⟩
theorem szR_any (A : Option Addr) (n c : Nat) (w : World) (hn : n ≤ 9223372036854775807) : Calls Try.prog 25 #[.slice A n c, .int .i64 1048576] w fun e w' => e = .returned (.int .i64 (if (n : Int) ≤ 1048576 then 1048576 - (n : Int) else -1)) ∧ w = w' := by
  by_cases h : (n : Int) ≤ 1048576
  · rw [if_pos h]
    go_enter Try.func25, Try.ntmps25
    go_wp2_with fail
    go_ret
    exact ⟨rfl, rfl⟩
  · rw [if_neg h]
    have h' : (1048576 : Int) < (n : Int) := by omega
    clear h
    go_enter Try.func25, Try.ntmps25
    go_wp2_with fail
    go_ret
    exact ⟨rfl, rfl⟩
theorem eqR1 (r : Orow) (w : World) : Calls Try.prog 74 #[valR r, valR r] w fun e w' => e = .returned (.bool true) ∧ Below w.heap.size w w' := by
  unfold valR
  go_enter Try.func74, Try.ntmps74
  go_wp2_with fail
  go_ret
  exact ⟨rfl, by go_grown⟩
set_option maxHeartbeats 1000000 in
theorem eqR_same (A B : Option Addr) (n c d L M : Nat) (rs : List Orow) (w : World) (hl : rs.length = n) (hn : n ≤ 2000000) (ha0 : OwnR w L A n c rs) (hb0 : OwnR w M B n d rs) : Calls Try.prog 29 #[.slice A n c, .slice B n d] w fun e w' => e = .returned (.bool true) ∧ Below w.heap.size w w' := by
  have HL := Lib.hid hl
  have HA := Lib.hid (RV.of_own ha0)
  have HB := Lib.hid (RV.of_own hb0)
  clear hl ha0 hb0
  go_enter Try.func29, Try.ntmps29
  go_wp2_with fail
  go_loopw [5] (fun i wr => ∃ k : Nat, k ≤ n ∧ i = .int .i64 k ∧ Below w.heap.size w wr) (fun i _ => n - (intOf i).toNat)
  case atStart => exact ⟨0, by omega, rfl, Below.refl _ _⟩
  case round =>
    obtain ⟨k, hk, rfl, hb⟩ := hrel
    have B := Lib.hid hb
    clear hb
    by_cases hlt : k < n
    · obtain ⟨b, o, rfl, _, hbs, h1, h2, h3⟩ := (HA.out.below B.out).atR (j := k) (by rw [HL.out]; exact hlt)
      obtain ⟨b', o', rfl, _, hbs', g1, g2, g3⟩ := (HB.out.below B.out).atR (j := k) (by rw [HL.out]; exact hlt)
      generalize rs.getD k r0 = r at *
      have hkn : (k : Int) < (n : Int) := by omega
      go_wp2_with fail
      go_region_held3 (fun w' => w'.cell? ⟨b, o + k * 3, none⟩ = some (.int .i64 r.u) ∧ w'.cell? ⟨b, o + k * 3 + 1, none⟩ = some (.int .i64 r.f) ∧ w'.cell? ⟨b, o + k * 3 + 2, none⟩ = some (.bool r.b) ∧ w'.cell? ⟨b', o' + k * 3, none⟩ = some (.int .i64 r.u) ∧ w'.cell? ⟨b', o' + k * 3 + 1, none⟩ = some (.int .i64 r.f) ∧ w'.cell? ⟨b', o' + k * 3 + 2, none⟩ = some (.bool r.b)) (first | exact ⟨h1, h2, h3, g1, g2, g3⟩ | (obtain ⟨q1, q2, q3, p1, p2, p3⟩ := hHS.out; exact ⟨q1, q2, q3, p1, p2, p3⟩))
        ((go_at_call 74; refine (eqR1 r _).mono ?_; rintro e w2 ⟨rfl, hb2⟩; have HBB := Lib.hid (below_drewN1 hb2); have hHS := Lib.hid (show w2.cell? ⟨b, o + k * 3, none⟩ = some (.int .i64 r.u) ∧ w2.cell? ⟨b, o + k * 3 + 1, none⟩ = some (.int .i64 r.f) ∧ w2.cell? ⟨b, o + k * 3 + 2, none⟩ = some (.bool r.b) ∧ w2.cell? ⟨b', o' + k * 3, none⟩ = some (.int .i64 r.u) ∧ w2.cell? ⟨b', o' + k * 3 + 1, none⟩ = some (.int .i64 r.f) ∧ w2.cell? ⟨b', o' + k * 3 + 2, none⟩ = some (.bool r.b) from ⟨(hb2.cell (p := ⟨b, o + k * 3, none⟩) hbs).trans h1, (hb2.cell (p := ⟨b, o + k * 3 + 1, none⟩) hbs).trans h2, (hb2.cell (p := ⟨b, o + k * 3 + 2, none⟩) hbs).trans h3, (hb2.cell (p := ⟨b', o' + k * 3, none⟩) hbs').trans g1, (hb2.cell (p := ⟨b', o' + k * 3 + 1, none⟩) hbs').trans g2, (hb2.cell (p := ⟨b', o' + k * 3 + 2, none⟩) hbs').trans g3⟩); clear hb2))
      go_wp2_with fail
      go_roundw
      case rel => exact ⟨k + 1, by omega, by go_num, below_at B.out HBB.out⟩
      case measure => simp [intOf]; omega
    · go_wp2_with fail
      go_ret
      exact ⟨rfl, B.out⟩
def marksR : Nat → Int → List Orow
  | 0, _ => []
  | n + 1, k => ⟨k, k + 1, (k + 1 + 1) % 3 == 0⟩ :: marksR n (k + 3)
theorem marksR_len (n : Nat) : ∀ k, (marksR n k).length = n := by
  induction n with
  | zero => intro k; rfl
  | succ n ih => intro k; simp [marksR, ih]
def markR1 (k : Int) (j : Nat) : Orow := ⟨k + 3 * (j : Int), k + 3 * (j : Int) + 1, (k + 3 * (j : Int) + 1 + 1) % 3 == 0⟩
theorem marksR_at (n : Nat) : ∀ (k : Int) (j : Nat), j < n → (marksR n k).getD j r0 = markR1 k j := by
  induction n with
  | zero => intro k j h; omega
  | succ n ih =>
    intro k j h
    cases j with
    | zero => simp [marksR, markR1]
    | succ j =>
      have := ih (k + 3) j (by omega)
      simp only [marksR, List.getD_cons_succ, this, markR1]
      rw [show k + 3 + 3 * (j : Int) = k + 3 * ((j + 1 : Nat) : Int) by omega]
theorem marksR_snoc (j : Nat) : ∀ k : Int, marksR (j + 1) k = marksR j k ++ [markR1 k j] := by
  induction j with
  | zero => intro k; simp [marksR, markR1]
  | succ j ih =>
    intro k
    rw [marksR, ih]
    simp only [marksR, List.cons_append, markR1]
    rw [show k + 3 + 3 * (j : Int) = k + 3 * ((j + 1 : Nat) : Int) by omega]
def halfR (ys : List Orow) (k : Int) (j : Nat) : List Orow := marksR j k ++ ys.drop j
theorem halfR_zero (ys : List Orow) (k : Int) : halfR ys k 0 = ys := by simp [halfR, marksR]
theorem halfR_step (ys : List Orow) (k : Int) (j : Nat) (h : j < ys.length) : (halfR ys k j).set j (markR1 k j) = halfR ys k (j + 1) := by
  unfold halfR
  rw [List.set_append_right _ _ (by rw [marksR_len]; exact Nat.le_refl _), marksR_len, Nat.sub_self, List.drop_eq_getElem_cons h, List.set_cons_zero, marksR_snoc, List.append_assoc]
  rfl
theorem halfR_all (ys : List Orow) (k : Int) (n : Nat) (h : ys.length = n) : halfR ys k n = marksR n k := by
  unfold halfR
  rw [List.drop_of_length_le (by omega), List.append_nil]
def MarkRRes (w : World) (base : Nat) (A : Option Addr) (n c : Nat) (k : Int) (e : Ending) (w' : World) : Prop := e = .returned (.int .i64 (k + 3 * (n : Int))) ∧ OwnR w' base A n c (marksR n k) ∧ Below base w w' ∧ w.grownBy w' (Value.slice A n c).ownBlock
set_option maxHeartbeats 2000000 in
theorem markR_any (A : Option Addr) (n c base : Nat) (ys : List Orow) (k : Int) (w : World) (ho : OwnR w base A n c ys) (hn : n ≤ 1500000) (k0 : 0 ≤ k) (k1 : k ≤ 100000000) : Calls Try.prog 42 #[.slice A n c, .int .i64 k] w (MarkRRes w base A n c k) := by
  have HO := Lib.hid ho
  have HL := Lib.hid (ownR_len ho)
  clear ho
  go_enter Try.func42, Try.ntmps42
  go_wp2_with fail
  go_loopw [1, 5] (fun q i wr => ∃ j : Nat, j ≤ n ∧ i = .int .i64 (j : Int) ∧ q = .int .i64 (k + 3 * (j : Int)) ∧ OwnR wr base A n c (halfR ys k j) ∧ Below base w wr ∧ w.grownBy wr (Value.slice A n c).ownBlock) (fun _ i _ => n - (intOf i).toNat)
  case atStart => exact ⟨0, by omega, rfl, by simp, by rw [halfR_zero]; exact HO.out, Below.refl _ _, World.grownBy.refl _ _⟩
  case round =>
    obtain ⟨j, hj, rfl, rfl, ho, hb, hg⟩ := hrel
    have O := Lib.hid ho
    have B := Lib.hid hb
    have G := Lib.hid hg
    clear ho hb hg HO
    by_cases hlt : j < n
    · obtain ⟨g, c', hv, hbg, _⟩ := O.out.form (by omega)
      have hA : A = some ⟨g, 0, none⟩ := by injection hv
      subst hA
      have hs := Lib.hid (halfR_step ys k j (by rw [HL.out]; exact hlt))
      obtain ⟨d1, d2, d3⟩ := ownR_cells O.out hlt
      have f1 := World.ownsRow.frozenAt O.out (j * 3)
      have f2 := World.ownsRow.frozenAt O.out (j * 3 + 1)
      have f3 := World.ownsRow.frozenAt O.out (j * 3 + 2)
      have P := Lib.hid (ownR_put O.out hlt (markR1 k j))
      generalize (halfR ys k j).getD j r0 = y at *
      clear hv
      go_wp2_with fail
      go_roundw
      case rel =>
        have h1 := P.out.1
        rw [hs.out] at h1
        exact ⟨j + 1, by omega, by go_num, by go_num, h1, B.out.grown P.out.2 (by have := B.out.size; have := O.out; have := World.ownsRow.lt O.out g rfl; omega) (fun q hq => by injection hq with hq; omega), grownBy_trans' G.out P.out.2⟩
      case measure => simp [intOf]; omega
    · obtain rfl : j = n := by omega
      go_wp2_with fail
      go_ret
      have h1 := O.out
      rw [halfR_all ys k j HL.out] at h1
      exact ⟨rfl, h1, B.out, G.out⟩
set_option maxHeartbeats 2000000 in
theorem heldR_any (A : Option Addr) (n c base : Nat) (k : Int) (w : World) (ho : OwnR w base A n c (marksR n k)) (hn : n ≤ 1500000) (k0 : 0 ≤ k) (k1 : k ≤ 100000000) : Calls Try.prog 51 #[.slice A n c, .int .i64 k] w fun e w' => e = .returned (.int .i64 (k + 3 * (n : Int))) ∧ Below w.heap.size w w' := by
  have HR := Lib.hid (RV.of_own ho)
  clear ho
  go_enter Try.func51, Try.ntmps51
  go_wp2_with fail
  go_loop [1, 5] (fun q i => ∃ j : Nat, j ≤ n ∧ i = .int .i64 (j : Int) ∧ q = .int .i64 (k + 3 * (j : Int))) (fun _ i => n - (intOf i).toNat)
  case atStart => exact ⟨0, by omega, rfl, by simp⟩
  case round =>
    obtain ⟨j, hj, rfl, rfl⟩ := hrel
    by_cases hlt : j < n
    · obtain ⟨b, o, rfl, _, _, h1, h2, h3⟩ := HR.out.atR (j := j) (by rw [marksR_len]; exact hlt)
      rw [marksR_at n k j hlt] at h1 h2 h3
      simp only [markR1] at h1 h2 h3
      go_wp2_with fail
      go_round
      case rel => exact ⟨j + 1, by omega, by go_num, by go_num⟩
      case measure => simp [intOf]; omega
    · obtain rfl : j = n := by omega
      go_wp2_with fail
      go_ret
      exact ⟨rfl, Below.refl _ _⟩
def yE1 (rs : List Ent) (r : Ent) (j : Nat) : Ent := ⟨r.k, (rs.getD j e0).t, (rs.getD j e0).u, (rs.getD j e0).p⟩
def yE2 (rs : List Ent) (r : Ent) (j : Nat) : Ent := ⟨r.k, r.t, (rs.getD j e0).u, (rs.getD j e0).p⟩
def yE3 (rs : List Ent) (r : Ent) (j : Nat) : Ent := ⟨r.k, r.t, r.u, (rs.getD j e0).p⟩
def yE4 (rs : List Ent) (r : Ent) (j : Nat) : Ent := ⟨r.k, r.t, r.u, r.p⟩
theorem set_getDE (rs : List Ent) (j : Nat) (y d : Ent) (h : j < rs.length) : (rs.set j y).getD j d = y := by simp [List.getD, h]
/-- a whole struct stored -/
theorem ownE_put {w : World} {base g n cap : Nat} {rs : List Ent} (h : OwnE w base (some ⟨g, 0, none⟩) n cap rs) {j : Nat} (hj : j < n) (r : Ent) :
    OwnE (((((w).setCell ⟨g, j * 4, none⟩ (.int .i64 r.k)).setCell ⟨g, j * 4 + 1, none⟩ (.int .i64 r.t)).setCell ⟨g, j * 4 + 2, none⟩ (.int .i64 r.u)).setCell ⟨g, j * 4 + 3, none⟩ (.int .i64 r.p)) base (some ⟨g, 0, none⟩) n cap (rs.set j r) ∧ w.grownBy (((((w).setCell ⟨g, j * 4, none⟩ (.int .i64 r.k)).setCell ⟨g, j * 4 + 1, none⟩ (.int .i64 r.t)).setCell ⟨g, j * 4 + 2, none⟩ (.int .i64 r.u)).setCell ⟨g, j * 4 + 3, none⟩ (.int .i64 r.p)) (some g) := by
  have hjl : j < rs.length := by rw [ownE_len h]; exact hj
  have h1 := ownE_set h hj 0 (.int .i64 r.k) (yE1 rs r j) (by omega) (by rfl)
  have h2 := ownE_set h1.1 hj 1 (.int .i64 r.t) (yE2 rs r j) (by omega) (by rw [set_getDE _ _ _ _ hjl]; rfl)
  rw [List.set_set] at h2
  have h3 := ownE_set h2.1 hj 2 (.int .i64 r.u) (yE3 rs r j) (by omega) (by rw [set_getDE _ _ _ _ hjl]; rfl)
  rw [List.set_set] at h3
  have h4 := ownE_set h3.1 hj 3 (.int .i64 r.p) (yE4 rs r j) (by omega) (by rw [set_getDE _ _ _ _ hjl]; rfl)
  rw [List.set_set] at h4
  exact ⟨h4.1, grownBy_trans' (grownBy_trans' (grownBy_trans' (h1.2) h2.2) h3.2) h4.2⟩
def partE (rs : List Ent) (n j : Nat) : List Ent := rs.take j ++ List.replicate (n - j) e0
theorem partE_all (rs : List Ent) (n : Nat) (h : rs.length = n) : partE rs n n = rs := by
  simp [partE, List.take_of_length_le (Nat.le_of_eq h)]
theorem partE_step (rs : List Ent) (n j : Nat) (h : j < rs.length) (hn : rs.length = n) : (partE rs n j).set j (rs.getD j e0) = partE rs n (j + 1) := by
  unfold partE
  rw [List.set_append_right _ _ (by simp; omega)]
  rw [show j - (rs.take j).length = 0 by simp; omega]
  rw [show n - j = (n - (j + 1)) + 1 by omega, List.replicate_succ]
  rw [List.set_cons_zero, List.take_succ_eq_append_getElem h, getD_get rs e0 h, List.append_assoc]
  rfl
theorem flatE_rep (n : Nat) : (madeCells #[.int .i64 0, .int .i64 0, .int .i64 0, .int .i64 0] (n * 4)).toList = flatE (List.replicate n e0) := by
  apply List.ext_getElem?
  intro i
  by_cases hi : i < n * 4
  · have hj : i / 4 < (List.replicate n e0).length := by simp; omega
    have h := flat_at encE_len (List.replicate n e0) (i / 4) (i % 4) hj (Nat.mod_lt _ (by omega))
    rw [show i / 4 * 4 + i % 4 = i from Nat.div_add_mod' i 4] at h
    unfold flatE
    rw [h]
    simp only [madeCells, List.getElem_replicate]
    have hm : i % 4 < 4 := Nat.mod_lt _ (by omega)
    generalize hq : i % 4 = q at *
    simp [hi, hq, encE, e0]
    match q, hm with
    | 0, _ => rfl
    | 1, _ => rfl
    | 2, _ => rfl
    | 3, _ => rfl
  · rw [List.getElem?_eq_none (by simp [madeCells]; omega), List.getElem?_eq_none (by rw [flatE_len]; simp; omega)]
def CopyE (w : World) (n : Nat) (rs : List Ent) (e : Ending) (w' : World) : Prop := ∃ A c, e = .returned (.slice A n c) ∧ n ≤ c ∧ OwnE w' w.heap.size A n c rs ∧ Below w.heap.size w w'
set_option maxHeartbeats 1000000 in
theorem toE_any (A : Option Addr) (n c L : Nat) (rs : List Ent) (w : World) (hl : rs.length = n) (hr : RV w L A (flatE rs)) (hn : n ≤ 1500000) : Calls Try.prog 34 #[.slice A n c] w (CopyE w n rs) := by
  have HL := Lib.hid hl
  have HR := Lib.hid hr
  clear hl hr
  obtain ⟨i0, hi, hz0, hz1, hz2⟩ := info_parts info_ent
  go_enter Try.func34, Try.ntmps34
  go_wp2_with (at_make; refine wpList_make_full _ rfl _ _ 45 rfl w.heap.size 25 i0 (.agg #[.int .i64 0, .int .i64 0, .int .i64 0, .int .i64 0]) 4 Try.underlying45 hi hz0 hz1 _ _ _ _ n rfl rfl rfl rfl (by rw [hz2]; omega) (by unfold maxLen; omega) (Nat.le_refl _) ?_; intro w1 hown1 hg1)
  have HO : Hid (OwnE w1 w.heap.size (some ⟨w.heap.size, 0, none⟩) n n (partE rs n 0)) := Lib.hid (by simpa [OwnE, partE, ← flatE_rep, Value.cells] using hown1)
  have HG : Hid (Below w.heap.size w w1) := Lib.hid ((Below.refl _ _).grown hg1 (Nat.le_refl _) (fun k hk => by cases hk))
  clear hown1 hg1
  go_wp2_with fail
  go_loopw [4] (fun i wr => ∃ k : Nat, k ≤ n ∧ i = .int .i64 k ∧ OwnE wr w.heap.size (some ⟨w.heap.size, 0, none⟩) n n (partE rs n k) ∧ Below w.heap.size w wr) (fun i _ => n - (intOf i).toNat)
  case atStart => exact ⟨0, by omega, rfl, HO.out, HG.out⟩
  case round =>
    obtain ⟨k, hk, rfl, ho, hb⟩ := hrel
    have O := Lib.hid ho
    have B := Lib.hid hb
    clear ho hb HO HG
    by_cases hlt : k < n
    · obtain ⟨b, o, rfl, _, hbs, h1, h2, h3, h4⟩ := HR.out.atE (j := k) (by rw [HL.out]; exact hlt)
      have hc1 := (B.out.cell (p := ⟨b, o + k * 4, none⟩) hbs).trans h1
      have hc2 := (B.out.cell (p := ⟨b, o + k * 4 + 1, none⟩) hbs).trans h2
      have hc3 := (B.out.cell (p := ⟨b, o + k * 4 + 2, none⟩) hbs).trans h3
      have hc4 := (B.out.cell (p := ⟨b, o + k * 4 + 3, none⟩) hbs).trans h4
      have hs := Lib.hid (partE_step rs n k (by rw [HL.out]; exact hlt) HL.out)
      clear h1 h2 h3 h4
      generalize rs.getD k e0 = r at *
      go_wp2_with fail
      refine (toEntEntry_any _ _ _ _ _).mono ?_
      rintro e w2 ⟨rfl, hb2⟩
      have O2 := Lib.hid (owns_over O.out hb2)
      have B2 := Lib.hid (below_at B.out hb2)
      clear hb2 hc1 hc2 hc3 hc4
      obtain ⟨d1, d2, d3, d4⟩ := ownE_cells O2.out hlt
      have f1 := World.ownsRow.frozenAt O2.out (k * 4)
      have f2 := World.ownsRow.frozenAt O2.out (k * 4 + 1)
      have f3 := World.ownsRow.frozenAt O2.out (k * 4 + 2)
      have f4 := World.ownsRow.frozenAt O2.out (k * 4 + 3)
      have P := Lib.hid (ownE_put O2.out hlt r)
      generalize (partE rs n k).getD k e0 = y at *
      go_wp2_with fail
      go_roundw
      case rel =>
        have h1 := P.out.1
        rw [hs.out] at h1
        exact ⟨k + 1, by omega, by go_num, h1, B2.out.grown P.out.2 B2.out.size (fun q hq => by injection hq with hq; omega)⟩
      case measure => simp [intOf]; omega
    · obtain rfl : k = n := by omega
      go_wp2_with fail
      go_ret
      have h1 := O.out
      rw [partE_all rs k HL.out] at h1
      exact ⟨_, _, rfl, Nat.le_refl _, h1, B.out⟩
theorem szE_any (A : Option Addr) (n c : Nat) (w : World) (hn : n ≤ 9223372036854775807) : Calls Try.prog 32 #[.slice A n c, .int .i64 1048576] w fun e w' => e = .returned (.int .i64 (if (n : Int) ≤ 1048576 then 1048576 - (n : Int) else -1)) ∧ w = w' := by
  by_cases h : (n : Int) ≤ 1048576
  · rw [if_pos h]
    go_enter Try.func32, Try.ntmps32
    go_wp2_with fail
    go_ret
    exact ⟨rfl, rfl⟩
  · rw [if_neg h]
    have h' : (1048576 : Int) < (n : Int) := by omega
    clear h
    go_enter Try.func32, Try.ntmps32
    go_wp2_with fail
    go_ret
    exact ⟨rfl, rfl⟩
theorem eqE1 (r : Ent) (w : World) : Calls Try.prog 77 #[valE r, valE r] w fun e w' => e = .returned (.bool true) ∧ Below w.heap.size w w' := by
  unfold valE
  go_enter Try.func77, Try.ntmps77
  go_wp2_with fail
  go_ret
  exact ⟨rfl, by go_grown⟩
set_option maxHeartbeats 1000000 in
theorem eqE_same (A B : Option Addr) (n c d L M : Nat) (rs : List Ent) (w : World) (hl : rs.length = n) (hn : n ≤ 2000000) (ha0 : OwnE w L A n c rs) (hb0 : OwnE w M B n d rs) : Calls Try.prog 36 #[.slice A n c, .slice B n d] w fun e w' => e = .returned (.bool true) ∧ Below w.heap.size w w' := by
  have HL := Lib.hid hl
  have HA := Lib.hid (RV.of_own ha0)
  have HB := Lib.hid (RV.of_own hb0)
  clear hl ha0 hb0
  go_enter Try.func36, Try.ntmps36
  go_wp2_with fail
  go_loopw [5] (fun i wr => ∃ k : Nat, k ≤ n ∧ i = .int .i64 k ∧ Below w.heap.size w wr) (fun i _ => n - (intOf i).toNat)
  case atStart => exact ⟨0, by omega, rfl, Below.refl _ _⟩
  case round =>
    obtain ⟨k, hk, rfl, hb⟩ := hrel
    have B := Lib.hid hb
    clear hb
    by_cases hlt : k < n
    · obtain ⟨b, o, rfl, _, hbs, h1, h2, h3, h4⟩ := (HA.out.below B.out).atE (j := k) (by rw [HL.out]; exact hlt)
      obtain ⟨b', o', rfl, _, hbs', g1, g2, g3, g4⟩ := (HB.out.below B.out).atE (j := k) (by rw [HL.out]; exact hlt)
      generalize rs.getD k e0 = r at *
      have hkn : (k : Int) < (n : Int) := by omega
      go_wp2_with fail
      go_region_held3 (fun w' => w'.cell? ⟨b, o + k * 4, none⟩ = some (.int .i64 r.k) ∧ w'.cell? ⟨b, o + k * 4 + 1, none⟩ = some (.int .i64 r.t) ∧ w'.cell? ⟨b, o + k * 4 + 2, none⟩ = some (.int .i64 r.u) ∧ w'.cell? ⟨b, o + k * 4 + 3, none⟩ = some (.int .i64 r.p) ∧ w'.cell? ⟨b', o' + k * 4, none⟩ = some (.int .i64 r.k) ∧ w'.cell? ⟨b', o' + k * 4 + 1, none⟩ = some (.int .i64 r.t) ∧ w'.cell? ⟨b', o' + k * 4 + 2, none⟩ = some (.int .i64 r.u) ∧ w'.cell? ⟨b', o' + k * 4 + 3, none⟩ = some (.int .i64 r.p)) (first | exact ⟨h1, h2, h3, h4, g1, g2, g3, g4⟩ | (obtain ⟨q1, q2, q3, q4, p1, p2, p3, p4⟩ := hHS.out; exact ⟨q1, q2, q3, q4, p1, p2, p3, p4⟩))
        ((go_at_call 77; refine (eqE1 r _).mono ?_; rintro e w2 ⟨rfl, hb2⟩; have HBB := Lib.hid (below_drewN1 hb2); have hHS := Lib.hid (show w2.cell? ⟨b, o + k * 4, none⟩ = some (.int .i64 r.k) ∧ w2.cell? ⟨b, o + k * 4 + 1, none⟩ = some (.int .i64 r.t) ∧ w2.cell? ⟨b, o + k * 4 + 2, none⟩ = some (.int .i64 r.u) ∧ w2.cell? ⟨b, o + k * 4 + 3, none⟩ = some (.int .i64 r.p) ∧ w2.cell? ⟨b', o' + k * 4, none⟩ = some (.int .i64 r.k) ∧ w2.cell? ⟨b', o' + k * 4 + 1, none⟩ = some (.int .i64 r.t) ∧ w2.cell? ⟨b', o' + k * 4 + 2, none⟩ = some (.int .i64 r.u) ∧ w2.cell? ⟨b', o' + k * 4 + 3, none⟩ = some (.int .i64 r.p) from ⟨(hb2.cell (p := ⟨b, o + k * 4, none⟩) hbs).trans h1, (hb2.cell (p := ⟨b, o + k * 4 + 1, none⟩) hbs).trans h2, (hb2.cell (p := ⟨b, o + k * 4 + 2, none⟩) hbs).trans h3, (hb2.cell (p := ⟨b, o + k * 4 + 3, none⟩) hbs).trans h4, (hb2.cell (p := ⟨b', o' + k * 4, none⟩) hbs').trans g1, (hb2.cell (p := ⟨b', o' + k * 4 + 1, none⟩) hbs').trans g2, (hb2.cell (p := ⟨b', o' + k * 4 + 2, none⟩) hbs').trans g3, (hb2.cell (p := ⟨b', o' + k * 4 + 3, none⟩) hbs').trans g4⟩); clear hb2))
      go_wp2_with fail
      go_roundw
      case rel => exact ⟨k + 1, by omega, by go_num, below_at B.out HBB.out⟩
      case measure => simp [intOf]; omega
    · go_wp2_with fail
      go_ret
      exact ⟨rfl, B.out⟩
def marksE : Nat → Int → List Ent
  | 0, _ => []
  | n + 1, k => ⟨k, k + 1, k + 1 + 1, k + 1 + 1 + 1⟩ :: marksE n (k + 4)
theorem marksE_len (n : Nat) : ∀ k, (marksE n k).length = n := by
  induction n with
  | zero => intro k; rfl
  | succ n ih => intro k; simp [marksE, ih]
def markE1 (k : Int) (j : Nat) : Ent := ⟨k + 4 * (j : Int), k + 4 * (j : Int) + 1, k + 4 * (j : Int) + 1 + 1, k + 4 * (j : Int) + 1 + 1 + 1⟩
theorem marksE_at (n : Nat) : ∀ (k : Int) (j : Nat), j < n → (marksE n k).getD j e0 = markE1 k j := by
  induction n with
  | zero => intro k j h; omega
  | succ n ih =>
    intro k j h
    cases j with
    | zero => simp [marksE, markE1]
    | succ j =>
      have := ih (k + 4) j (by omega)
      simp only [marksE, List.getD_cons_succ, this, markE1]
      rw [show k + 4 + 4 * (j : Int) = k + 4 * ((j + 1 : Nat) : Int) by omega]
theorem marksE_snoc (j : Nat) : ∀ k : Int, marksE (j + 1) k = marksE j k ++ [markE1 k j] := by
  induction j with
  | zero => intro k; simp [marksE, markE1]
  | succ j ih =>
    intro k
    rw [marksE, ih]
    simp only [marksE, List.cons_append, markE1]
    rw [show k + 4 + 4 * (j : Int) = k + 4 * ((j + 1 : Nat) : Int) by omega]
def halfE (ys : List Ent) (k : Int) (j : Nat) : List Ent := marksE j k ++ ys.drop j
theorem halfE_zero (ys : List Ent) (k : Int) : halfE ys k 0 = ys := by simp [halfE, marksE]
theorem halfE_step (ys : List Ent) (k : Int) (j : Nat) (h : j < ys.length) : (halfE ys k j).set j (markE1 k j) = halfE ys k (j + 1) := by
  unfold halfE
  rw [List.set_append_right _ _ (by rw [marksE_len]; exact Nat.le_refl _), marksE_len, Nat.sub_self, List.drop_eq_getElem_cons h, List.set_cons_zero, marksE_snoc, List.append_assoc]
  rfl
theorem halfE_all (ys : List Ent) (k : Int) (n : Nat) (h : ys.length = n) : halfE ys k n = marksE n k := by
  unfold halfE
  rw [List.drop_of_length_le (by omega), List.append_nil]
def MarkERes (w : World) (base : Nat) (A : Option Addr) (n c : Nat) (k : Int) (e : Ending) (w' : World) : Prop := e = .returned (.int .i64 (k + 4 * (n : Int))) ∧ OwnE w' base A n c (marksE n k) ∧ Below base w w' ∧ w.grownBy w' (Value.slice A n c).ownBlock
set_option maxHeartbeats 2000000 in
theorem markE_any (A : Option Addr) (n c base : Nat) (ys : List Ent) (k : Int) (w : World) (ho : OwnE w base A n c ys) (hn : n ≤ 1500000) (k0 : 0 ≤ k) (k1 : k ≤ 100000000) : Calls Try.prog 37 #[.slice A n c, .int .i64 k] w (MarkERes w base A n c k) := by
  have HO := Lib.hid ho
  have HL := Lib.hid (ownE_len ho)
  clear ho
  go_enter Try.func37, Try.ntmps37
  go_wp2_with fail
  go_loopw [1, 5] (fun q i wr => ∃ j : Nat, j ≤ n ∧ i = .int .i64 (j : Int) ∧ q = .int .i64 (k + 4 * (j : Int)) ∧ OwnE wr base A n c (halfE ys k j) ∧ Below base w wr ∧ w.grownBy wr (Value.slice A n c).ownBlock) (fun _ i _ => n - (intOf i).toNat)
  case atStart => exact ⟨0, by omega, rfl, by simp, by rw [halfE_zero]; exact HO.out, Below.refl _ _, World.grownBy.refl _ _⟩
  case round =>
    obtain ⟨j, hj, rfl, rfl, ho, hb, hg⟩ := hrel
    have O := Lib.hid ho
    have B := Lib.hid hb
    have G := Lib.hid hg
    clear ho hb hg HO
    by_cases hlt : j < n
    · obtain ⟨g, c', hv, hbg, _⟩ := O.out.form (by omega)
      have hA : A = some ⟨g, 0, none⟩ := by injection hv
      subst hA
      have hs := Lib.hid (halfE_step ys k j (by rw [HL.out]; exact hlt))
      obtain ⟨d1, d2, d3, d4⟩ := ownE_cells O.out hlt
      have f1 := World.ownsRow.frozenAt O.out (j * 4)
      have f2 := World.ownsRow.frozenAt O.out (j * 4 + 1)
      have f3 := World.ownsRow.frozenAt O.out (j * 4 + 2)
      have f4 := World.ownsRow.frozenAt O.out (j * 4 + 3)
      have P := Lib.hid (ownE_put O.out hlt (markE1 k j))
      generalize (halfE ys k j).getD j e0 = y at *
      clear hv
      go_wp2_with fail
      go_roundw
      case rel =>
        have h1 := P.out.1
        rw [hs.out] at h1
        exact ⟨j + 1, by omega, by go_num, by go_num, h1, B.out.grown P.out.2 (by have := B.out.size; have := O.out; have := World.ownsRow.lt O.out g rfl; omega) (fun q hq => by injection hq with hq; omega), grownBy_trans' G.out P.out.2⟩
      case measure => simp [intOf]; omega
    · obtain rfl : j = n := by omega
      go_wp2_with fail
      go_ret
      have h1 := O.out
      rw [halfE_all ys k j HL.out] at h1
      exact ⟨rfl, h1, B.out, G.out⟩
set_option maxHeartbeats 2000000 in
theorem heldE_any (A : Option Addr) (n c base : Nat) (k : Int) (w : World) (ho : OwnE w base A n c (marksE n k)) (hn : n ≤ 1500000) (k0 : 0 ≤ k) (k1 : k ≤ 100000000) : Calls Try.prog 38 #[.slice A n c, .int .i64 k] w fun e w' => e = .returned (.int .i64 (k + 4 * (n : Int))) ∧ Below w.heap.size w w' := by
  have HR := Lib.hid (RV.of_own ho)
  clear ho
  go_enter Try.func38, Try.ntmps38
  go_wp2_with fail
  go_loop [1, 5] (fun q i => ∃ j : Nat, j ≤ n ∧ i = .int .i64 (j : Int) ∧ q = .int .i64 (k + 4 * (j : Int))) (fun _ i => n - (intOf i).toNat)
  case atStart => exact ⟨0, by omega, rfl, by simp⟩
  case round =>
    obtain ⟨j, hj, rfl, rfl⟩ := hrel
    by_cases hlt : j < n
    · obtain ⟨b, o, rfl, _, _, h1, h2, h3, h4⟩ := HR.out.atE (j := j) (by rw [marksE_len]; exact hlt)
      rw [marksE_at n k j hlt] at h1 h2 h3 h4
      simp only [markE1] at h1 h2 h3 h4
      go_wp2_with fail
      go_round
      case rel => exact ⟨j + 1, by omega, by go_num, by go_num⟩
      case measure => simp [intOf]; omega
    · obtain rfl : j = n := by omega
      go_wp2_with fail
      go_ret
      exact ⟨rfl, Below.refl _ _⟩
end Go.Proofs.Ytbgljjmmominbaa

