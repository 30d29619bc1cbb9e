/- Contracts: an entry applied. -/
import Derived.Test.YtbgljjmmominbaaFits
import Derived.Laws.AppendOwnNone
import Derived.Maps.AppendAt
namespace Go.Proofs.Ytbgljjmmominbaa
set_option linter.unusedVariables false
open Go.RowKit Pl
theorem owns_none {w : World} {base n cap s : Nat} {e : TypeId} {vs : List Value} (h : w.ownsRow base e s (.slice none n cap) n vs) : n = 0 ∧ cap = 0 := by
  rcases h.2 with ⟨h1, h2⟩ | ⟨g, c, cur, hv, _⟩
  · injection h1 with _ _ hc
    exact ⟨h2, hc⟩
  · injection hv with h1 _ _; cases h1
theorem owns_shape {w : World} {base n s : Nat} {v : Value} {e : TypeId} {vs : List Value} (h : w.ownsRow base e s v n vs) : ∃ A cap, v = .slice A n cap := by
  rcases h.2 with ⟨rfl, rfl⟩ | ⟨g, c, cur, hv, _⟩
  · exact ⟨none, 0, rfl⟩
  · exact ⟨_, _, hv⟩
theorem flatR_app (l m : List Orow) : flatR (l ++ m) = flatR l ++ flatR m := by simp [flatR]
theorem flatE_app (l m : List Ent) : flatE (l ++ m) = flatE l ++ flatE m := by simp [flatE]
theorem owns_less {w : World} {base base' n s : Nat} {v : Value} {e : TypeId} {vs : List Value} (h : w.ownsRow base e s v n vs) (hb : base' ≤ base) : w.ownsRow base' e s v n vs :=
  ⟨h.1, h.2.imp id (fun ⟨g, c, cur, hv, hB, r⟩ => ⟨g, c, cur, hv, Nat.le_trans hb hB, r⟩)⟩
theorem owns_cap {w : World} {base n cap s : Nat} {A : Option Addr} {e : TypeId} {vs : List Value} (h : w.ownsRow base e s (.slice A n cap) n vs) : n ≤ cap := by
  rcases h.2 with ⟨h1, h2⟩ | ⟨g, c, cur, hv, _, _, h3, _⟩
  · omega
  · injection hv with _ _ hc
    omega
/-- 'append(row, src...)' of whatever source -/
theorem wpList_spreadR {ops : Array Oper} {rest : List Oper} {o : Oper} {a : Act} {Q : Exit → Act → World → Prop} {w : World} (hgd : o.guard = none) (s x : Operand)
    (ho : o.op = .call { callee := .builtin .append, args := #[s, x], argTypes := #[37, 37] }) (base : Nat) (A : Option Addr) (n cap : Nat) (ys : List Orow) (X : Option Addr) (m c L : Nat) (zs : List Orow)
    (hs : a.eval s = .slice A n cap) (hx : a.eval x = .slice X m c) (hown : OwnR w base A n cap ys) (hlz : zs.length = m) (hX : X = none → m = 0 ∧ c = 0)
    (hr : RV w L X (flatR zs)) (hn : n + m ≤ 2000000) (hbase : base ≤ w.heap.size)
    (h : ∀ A' cap' w', OwnR w' base A' (n + m) cap' (ys ++ zs) → Below base w w' → w.grownBy w' (Value.slice A n cap).ownBlock → wpList Try.prog ops Q rest (a.put o.dst (.slice A' (n + m) cap')) w') : wpList Try.prog ops Q (o :: rest) a w := by
  obtain ⟨i0, hi, hz0, hz1, hz2⟩ := info_parts info_row
  cases X with
  | none =>
    obtain ⟨rfl, rfl⟩ := hX rfl
    obtain rfl := List.eq_nil_of_length_eq_zero hlz
    refine wpList_append_own_none hgd s x 37 ho base 31 i0 3 Try.underlying37 hi _ n _ hs hown hx ?_
    exact h A cap w (by simpa using hown) (Below.refl _ _) (World.grownBy.refl w _)
  | some ad =>
    refine wpList_append_own_at w hgd s x 37 ho base 31 i0 (.agg #[.int .i64 0, .int .i64 0, .bool false]) 3 24 Try.underlying37 hi hz0 hz1 hz2 rfl (by decide) _ n _ hs hown ad m c (flatR zs) hx (by rw [flatR_len, hlz]) ?_ flatR_one (by unfold maxLen; omega) (by omega) hbase ?_
    · intro j u hu
      have hj : 0 < (flatR zs).length := by
        rcases Nat.lt_or_ge j (flatR zs).length with h | h
        · omega
        · rw [List.getElem?_eq_none h] at hu; cases hu
      obtain ⟨b, o', e, _, _, hc⟩ := hr hj
      injection e with e
      subst e
      have e : (⟨b, o', none⟩ : Addr).add j = ⟨b, o' + j, none⟩ := by unfold Addr.add; split <;> simp_all
      rw [e]
      exact hc j u hu
    · intro v' w' h1 h2 _ _
      obtain ⟨A', cap', rfl⟩ := owns_shape h1
      exact h A' cap' w' (by rw [← flatR_app] at h1; exact h1) ((Below.refl _ _).grown h2 hbase (fun q hq => (World.ownsRow.lt hown q hq).1)) h2
/-- 'append(row, src...)' of whatever source -/
theorem wpList_spreadE {ops : Array Oper} {rest : List Oper} {o : Oper} {a : Act} {Q : Exit → Act → World → Prop} {w : World} (hgd : o.guard = none) (s x : Operand)
    (ho : o.op = .call { callee := .builtin .append, args := #[s, x], argTypes := #[45, 45] }) (base : Nat) (A : Option Addr) (n cap : Nat) (ys : List Ent) (X : Option Addr) (m c L : Nat) (zs : List Ent)
    (hs : a.eval s = .slice A n cap) (hx : a.eval x = .slice X m c) (hown : OwnE w base A n cap ys) (hlz : zs.length = m) (hX : X = none → m = 0 ∧ c = 0)
    (hr : RV w L X (flatE zs)) (hn : n + m ≤ 2000000) (hbase : base ≤ w.heap.size)
    (h : ∀ A' cap' w', OwnE w' base A' (n + m) cap' (ys ++ zs) → Below base w w' → w.grownBy w' (Value.slice A n cap).ownBlock → wpList Try.prog ops Q rest (a.put o.dst (.slice A' (n + m) cap')) w') : wpList Try.prog ops Q (o :: rest) a w := by
  obtain ⟨i0, hi, hz0, hz1, hz2⟩ := info_parts info_ent
  cases X with
  | none =>
    obtain ⟨rfl, rfl⟩ := hX rfl
    obtain rfl := List.eq_nil_of_length_eq_zero hlz
    refine wpList_append_own_none hgd s x 45 ho base 25 i0 4 Try.underlying45 hi _ n _ hs hown hx ?_
    exact h A cap w (by simpa using hown) (Below.refl _ _) (World.grownBy.refl w _)
  | some ad =>
    refine wpList_append_own_at w hgd s x 45 ho base 25 i0 (.agg #[.int .i64 0, .int .i64 0, .int .i64 0, .int .i64 0]) 4 32 Try.underlying45 hi hz0 hz1 hz2 rfl (by decide) _ n _ hs hown ad m c (flatE zs) hx (by rw [flatE_len, hlz]) ?_ flatE_one (by unfold maxLen; omega) (by omega) hbase ?_
    · intro j u hu
      have hj : 0 < (flatE zs).length := by
        rcases Nat.lt_or_ge j (flatE zs).length with h | h
        · omega
        · rw [List.getElem?_eq_none h] at hu; cases hu
      obtain ⟨b, o', e, _, _, hc⟩ := hr hj
      injection e with e
      subst e
      have e : (⟨b, o', none⟩ : Addr).add j = ⟨b, o' + j, none⟩ := by unfold Addr.add; split <;> simp_all
      rw [e]
      exact hc j u hu
    · intro v' w' h1 h2 _ _
      obtain ⟨A', cap', rfl⟩ := owns_shape h1
      exact h A' cap' w' (by rw [← flatE_app] at h1; exact h1) ((Below.refl _ _).grown h2 hbase (fun q hq => (World.ownsRow.lt hown q hq).1)) h2
def OwnResR (w : World) (rs : List Orow) (e : Ending) (w' : World) : Prop := ∃ A n cap, e = .returned (.slice A n cap) ∧ rs.length = n ∧ OwnR w' w.heap.size A n cap rs ∧ Below w.heap.size w w'
theorem cloneRows_any (A : Option Addr) (n c L : Nat) (rs : List Orow) (w : World) (hl : rs.length = n) (hr : RV w L A (flatR rs)) (hX : A = none → n = 0 ∧ c = 0) (hn : n ≤ 1500000) : Calls Try.prog 80 #[.slice A n c] w (OwnResR w rs) := by
  go_enter Try.func80, Try.ntmps80
  go_wp2_with (at_builtin; refine wpList_spreadR rfl _ _ rfl w.heap.size none 0 0 [] A n c L rs rfl rfl (World.ownsRow_nil _ _ _ _) hl hX hr (by omega) (Nat.le_refl _) ?_; intro A2 c2 w2 hown2 hb2 hg2; rw [List.nil_append, Nat.zero_add] at hown2; rw [Nat.zero_add]; have O2 := Lib.hid hown2; have B2 := Lib.hid hb2; clear hown2 hb2 hg2)
  go_ret
  exact ⟨_, _, _, rfl, hl, O2.out, B2.out⟩
/-- how a ticket stands behind an entry -/
def put1 (r : Orow) (e : Ent) : Orow := if e.k = 1 then ⟨e.u, e.p, false⟩ else if e.k = 2 then ⟨e.u, r.f, r.b⟩ else ⟨r.u, r.f, true⟩
def ownPut (rs : List Orow) (e : Ent) : List Orow × Bool := if ownFits rs e = true then (rs.set e.t.toNat (put1 (rs.getD e.t.toNat r0) e), true) else (rs, false)
theorem ownPut_no {rs : List Orow} {e : Ent} (h : ownFits rs e = false) : ownPut rs e = (rs, false) := by unfold ownPut; rw [h]; simp
theorem ownPut_yes {rs : List Orow} {e : Ent} (h : ownFits rs e = true) : ownPut rs e = (rs.set e.t.toNat (put1 (rs.getD e.t.toNat r0) e), true) := by unfold ownPut; rw [if_pos h]
theorem rowsOk_len8 {rs : List Orow} (h : rowsOk rs = true) : rs.length = 8 := by
  unfold rowsOk at h
  simp at h
  exact h.1
theorem rowsOk_at {rs : List Orow} (h : rowsOk rs = true) {j : Nat} (hj : j < rs.length) : rowOk (rs.getD j r0) = true := by
  cases h1 : rowOk (rs.getD j r0)
  · rw [rows_bad hj h1] at h; cases h
  · rfl
theorem ownFits_parts {rs : List Orow} {e : Ent} (h : ownFits rs e = true) : rowsOk rs = true ∧ okE e = true ∧ fits1 (rs.getD e.t.toNat r0) e = true := by
  unfold ownFits at h
  rw [Bool.and_eq_true, Bool.and_eq_true] at h
  exact ⟨h.1, h.2.1, h.2.2⟩
/-- a ticket that nobody has is blank -/
theorem fits_blank {r : Orow} {e : Ent} (hr : rowOk r = true) (hf : fits1 r e = true) (hk : e.k = 1) : r = r0 := by
  unfold fits1 at hf
  rw [if_pos hk] at hf
  obtain ⟨u, f, b⟩ := r
  simp at hf
  subst hf
  rcases row_cases 0 f b with ⟨_, rfl, rfl, _⟩ | ⟨_, _, _, h⟩ | ⟨_, _, h⟩ | ⟨h, _⟩ | ⟨h, _⟩ | ⟨h, _⟩
  · rfl
  · rw [hr] at h; cases h
  · rw [hr] at h; cases h
  · cases h
  · cases h
  · cases h
def PutRes (w : World) (x : List Orow × Bool) (e : Ending) (w' : World) : Prop := ∃ A n c, e = .returned (.tuple #[.slice A n c, .bool x.2]) ∧ x.1.length = n ∧ OwnR w' w.heap.size A n c x.1 ∧ Below w.heap.size w w'
theorem put_res {w w' : World} {A : Option Addr} {n c : Nat} {x : List Orow × Bool} {l : List Orow} {b : Bool} (hx : x = (l, b)) (hl : l.length = n) (ho : OwnR w' w.heap.size A n c l) (hb : Below w.heap.size w w') : PutRes w x (.returned (.tuple #[.slice A n c, .bool b])) w' := by
  subst hx
  exact ⟨_, _, _, rfl, hl, ho, hb⟩
theorem put_uf {w : World} {base g n cap : Nat} {rs : List Orow} (h : OwnR w base (some ⟨g, 0, none⟩) n cap rs) {j : Nat} (hj : j < n) (h0 : rs.getD j r0 = r0) (u f : Int) :
    OwnR ((w.setCell ⟨g, j * 3, none⟩ (.int .i64 u)).setCell ⟨g, j * 3 + 1, none⟩ (.int .i64 f)) base (some ⟨g, 0, none⟩) n cap (rs.set j ⟨u, f, false⟩) ∧ w.grownBy ((w.setCell ⟨g, j * 3, none⟩ (.int .i64 u)).setCell ⟨g, j * 3 + 1, none⟩ (.int .i64 f)) (some g) := by
  have hjl : j < rs.length := by rw [ownR_len h]; exact hj
  have h1 := ownR_set h hj 0 (.int .i64 u) ⟨u, 0, false⟩ (by omega) (by rw [h0]; rfl)
  have h2 := ownR_set h1.1 hj 1 (.int .i64 f) ⟨u, f, false⟩ (by omega) (by rw [set_getDR _ _ _ _ hjl]; rfl)
  rw [List.set_set] at h2
  exact ⟨h2.1, grownBy_trans' h1.2 h2.2⟩
theorem put_fu {w : World} {base g n cap : Nat} {rs : List Orow} (h : OwnR w base (some ⟨g, 0, none⟩) n cap rs) {j : Nat} (hj : j < n) (h0 : rs.getD j r0 = r0) (u f : Int) :
    OwnR ((w.setCell ⟨g, j * 3 + 1, none⟩ (.int .i64 f)).setCell ⟨g, j * 3, none⟩ (.int .i64 u)) base (some ⟨g, 0, none⟩) n cap (rs.set j ⟨u, f, false⟩) ∧ w.grownBy ((w.setCell ⟨g, j * 3 + 1, none⟩ (.int .i64 f)).setCell ⟨g, j * 3, none⟩ (.int .i64 u)) (some g) := by
  have hjl : j < rs.length := by rw [ownR_len h]; exact hj
  have h1 := ownR_set h hj 1 (.int .i64 f) ⟨0, f, false⟩ (by omega) (by rw [h0]; rfl)
  have h2 := ownR_set h1.1 hj 0 (.int .i64 u) ⟨u, f, false⟩ (by omega) (by rw [set_getDR _ _ _ _ hjl]; rfl)
  rw [List.set_set] at h2
  exact ⟨h2.1, grownBy_trans' h1.2 h2.2⟩
set_option maxHeartbeats 8000000 in
theorem OwnPut_any (A : Option Addr) (n c L : Nat) (rs : List Orow) (k tt eu p : Int) (w : World) (hl : rs.length = n) (hr : RV w L A (flatR rs)) (hX : A = none → n = 0 ∧ c = 0) (hn : n ≤ 1500000) :
    Calls Try.prog 50 #[.slice A n c, .agg #[.int .i64 k, .int .i64 tt, .int .i64 eu, .int .i64 p]] w (PutRes w (ownPut rs ⟨k, tt, eu, p⟩)) := by
  have HL := Lib.hid hl
  have HR := Lib.hid hr
  clear hl hr
  cases hF : ownFits rs ⟨k, tt, eu, p⟩
  · have hv := Lib.hid (ownPut_no hF)
    go_enter Try.func50, Try.ntmps50
    go_wp2_with fail
    refine (cloneRows_any _ _ _ _ rs _ HL.out (HR.out.alloc _) hX hn).mono ?_
    rintro e w2 ⟨A2, n2, c2, rfl, hl2, ho2, hb2⟩
    obtain rfl : n2 = n := hl2.symm.trans HL.out
    have O2 := Lib.hid (owns_less ho2 (show w.heap.size + 1 ≤ _ by simp))
    obtain ⟨x1, x2, x3, x4⟩ := kept4 hb2
    have hs2 := hb2.size
    have R2 := Lib.hid ((HR.out.alloc _).below hb2)
    have B2 := Lib.hid (((Below.refl _ w).alloc (Nat.le_refl _) _).trans (hb2.mono (by simp)))
    clear ho2 hb2 hl2
    go_wp2_with fail
    refine (OwnFits_any _ _ _ _ rs _ _ _ _ _ HL.out R2.out hn).mono ?_
    rw [hF]
    rintro e w3 ⟨rfl, hb3⟩
    have hlt : w.heap.size < w2.heap.size := by simp at hs2; omega
    have y1 := (hb3.cell (p := ⟨w.heap.size, 0, none⟩) hlt).trans x1
    have y2 := (hb3.cell (p := ⟨w.heap.size, 1, none⟩) hlt).trans x2
    have y3 := (hb3.cell (p := ⟨w.heap.size, 2, none⟩) hlt).trans x3
    have y4 := (hb3.cell (p := ⟨w.heap.size, 3, none⟩) hlt).trans x4
    have O3 := Lib.hid (owns_over O2.out hb3)
    have B3 := Lib.hid (below_at B2.out hb3)
    clear hb3 x1 x2 x3 x4
    go_wp2_with fail
    go_ret2
    exact put_res hv.out HL.out (owns_less O3.out (by omega)) B3.out
  · obtain ⟨g1, g2, g3⟩ := ownFits_parts hF
    have hv0 := ownPut_yes hF
    have ht := okE_t g2
    simp only at ht
    obtain ⟨t0, t7⟩ := ht
    obtain ⟨j, rfl⟩ := Int.eq_ofNat_of_zero_le t0
    simp only [Int.toNat_natCast] at g3 hv0
    obtain rfl : n = 8 := HL.out.symm.trans (rowsOk_len8 g1)
    have hj : j < 8 := by omega
    have hrow := rowsOk_at g1 (j := j) (by rw [HL.out]; exact hj)
    have hjI : (j : Int) < 8 := by omega
    have hbl := Lib.hid (fun hk : k = 1 => fits_blank hrow g3 hk)
    have HV := Lib.hid hv0
    have HF := Lib.hid hF
    clear g1 g2 g3 hv0 hrow t0 t7 hF
    by_cases k1 : k = 1
    · subst k1
      have hb0 := hbl.out rfl
      have HV1 : Hid (ownPut rs ⟨1, (j : Int), eu, p⟩ = (rs.set j ⟨eu, p, false⟩, true)) := Lib.hid (by rw [HV.out]; rfl)
      have hF := HF.out
      clear HV hbl HF
      go_enter Try.func50, Try.ntmps50
      go_wp2_with fail
      refine (cloneRows_any _ _ _ _ rs _ HL.out (HR.out.alloc _) hX hn).mono ?_
      rintro e w2 ⟨A2, n2, c2, rfl, hl2, ho2, hb2⟩
      obtain rfl : n2 = 8 := hl2.symm.trans HL.out
      have O2 := Lib.hid (owns_less ho2 (show w.heap.size + 1 ≤ _ by simp))
      obtain ⟨x1, x2, x3, x4⟩ := kept4 hb2
      have hs2 := hb2.size
      have R2 := Lib.hid ((HR.out.alloc _).below hb2)
      have B2 := Lib.hid (((Below.refl _ w).alloc (Nat.le_refl _) _).trans (hb2.mono (by simp)))
      clear ho2 hb2 hl2
      go_wp2_with fail
      refine (OwnFits_any _ _ _ _ rs _ _ _ _ _ HL.out R2.out hn).mono ?_
      rw [hF]
      rintro e w3 ⟨rfl, hb3⟩
      have hlt : w.heap.size < w2.heap.size := by simp at hs2; omega
      have y1 := (hb3.cell (p := ⟨w.heap.size, 0, none⟩) hlt).trans x1
      have y2 := (hb3.cell (p := ⟨w.heap.size, 1, none⟩) hlt).trans x2
      have y3 := (hb3.cell (p := ⟨w.heap.size, 2, none⟩) hlt).trans x3
      have y4 := (hb3.cell (p := ⟨w.heap.size, 3, none⟩) hlt).trans x4
      have O3 := Lib.hid (owns_over O2.out hb3)
      have B3 := Lib.hid (below_at B2.out hb3)
      clear hb3 x1 x2 x3 x4
      obtain ⟨g, c2', hv2, hB2, hlt2⟩ := World.ownsRow.form O3.out (by omega)
      injection hv2 with e1 _ e3
      subst e1 e3
      obtain ⟨d1, d2, d3⟩ := ownR_cells O3.out hj
      have f1 := World.ownsRow.frozenAt O3.out (j * 3)
      have f2 := World.ownsRow.frozenAt O3.out (j * 3 + 1)
      have f3 := World.ownsRow.frozenAt O3.out (j * 3 + 2)
      rw [hb0] at d1 d2 d3
      simp only [r0] at d1 d2 d3
      clear hF
      have PA := Lib.hid (put_uf O3.out hj hb0 eu p)
      have hne1 : ¬ w.heap.size = g := by omega
      have hne2 : ¬ g = w.heap.size := by omega
      have PB := Lib.hid (put_fu O3.out hj hb0 eu p)
      go_wp2_with fail
      go_region
      all_goals
        go_wp2_with fail
        go_ret2
        first
        | exact put_res HV1.out (by rw [List.length_set]; exact HL.out) (owns_less PA.out.1 (by omega)) (Below.drew (B3.out.grown PA.out.2 B3.out.size (fun q hq => by injection hq with hq; omega)))
        | exact put_res HV1.out (by rw [List.length_set]; exact HL.out) (owns_less PB.out.1 (by omega)) (Below.drew (B3.out.grown PB.out.2 B3.out.size (fun q hq => by injection hq with hq; omega)))
    have k1f : (k == 1) = false := by simpa using k1
    by_cases k2 : k = 2
    · subst k2
      have HV1 : Hid (ownPut rs ⟨2, (j : Int), eu, p⟩ = (rs.set j ⟨eu, (rs.getD j r0).f, (rs.getD j r0).b⟩, true)) := Lib.hid (by rw [HV.out]; rfl)
      have hF := HF.out
      clear HV hbl HF k1
      go_enter Try.func50, Try.ntmps50
      go_wp2_with fail
      refine (cloneRows_any _ _ _ _ rs _ HL.out (HR.out.alloc _) hX hn).mono ?_
      rintro e w2 ⟨A2, n2, c2, rfl, hl2, ho2, hb2⟩
      obtain rfl : n2 = 8 := hl2.symm.trans HL.out
      have O2 := Lib.hid (owns_less ho2 (show w.heap.size + 1 ≤ _ by simp))
      obtain ⟨x1, x2, x3, x4⟩ := kept4 hb2
      have hs2 := hb2.size
      have R2 := Lib.hid ((HR.out.alloc _).below hb2)
      have B2 := Lib.hid (((Below.refl _ w).alloc (Nat.le_refl _) _).trans (hb2.mono (by simp)))
      clear ho2 hb2 hl2
      go_wp2_with fail
      refine (OwnFits_any _ _ _ _ rs _ _ _ _ _ HL.out R2.out hn).mono ?_
      rw [hF]
      rintro e w3 ⟨rfl, hb3⟩
      have hlt : w.heap.size < w2.heap.size := by simp at hs2; omega
      have y1 := (hb3.cell (p := ⟨w.heap.size, 0, none⟩) hlt).trans x1
      have y2 := (hb3.cell (p := ⟨w.heap.size, 1, none⟩) hlt).trans x2
      have y3 := (hb3.cell (p := ⟨w.heap.size, 2, none⟩) hlt).trans x3
      have y4 := (hb3.cell (p := ⟨w.heap.size, 3, none⟩) hlt).trans x4
      have O3 := Lib.hid (owns_over O2.out hb3)
      have B3 := Lib.hid (below_at B2.out hb3)
      clear hb3 x1 x2 x3 x4
      obtain ⟨g, c2', hv2, hB2, hlt2⟩ := World.ownsRow.form O3.out (by omega)
      injection hv2 with e1 _ e3
      subst e1 e3
      obtain ⟨d1, d2, d3⟩ := ownR_cells O3.out hj
      have f1 := World.ownsRow.frozenAt O3.out (j * 3)
      have f2 := World.ownsRow.frozenAt O3.out (j * 3 + 1)
      have f3 := World.ownsRow.frozenAt O3.out (j * 3 + 2)
      have PA := Lib.hid (ownR_set O3.out hj 0 (.int .i64 eu) ⟨eu, (rs.getD j r0).f, (rs.getD j r0).b⟩ (by omega) rfl)
      generalize rs.getD j r0 = y at *
      clear hF
      go_wp2_with fail
      go_ret2
      exact put_res HV1.out (by rw [List.length_set]; exact HL.out) (owns_less PA.out.1 (by omega)) (B3.out.grown PA.out.2 B3.out.size (fun q hq => by injection hq with hq; omega))
    have k2f : (k == 2) = false := by simpa using k2
    have HV1 : Hid (ownPut rs ⟨k, (j : Int), eu, p⟩ = (rs.set j ⟨(rs.getD j r0).u, (rs.getD j r0).f, true⟩, true)) := Lib.hid (by rw [HV.out]; simp only [put1]; rw [if_neg k1, if_neg k2])
    have hF := HF.out
    clear HV hbl HF k1 k2
    go_enter Try.func50, Try.ntmps50
    go_wp2_with fail
    refine (cloneRows_any _ _ _ _ rs _ HL.out (HR.out.alloc _) hX hn).mono ?_
    rintro e w2 ⟨A2, n2, c2, rfl, hl2, ho2, hb2⟩
    obtain rfl : n2 = 8 := hl2.symm.trans HL.out
    have O2 := Lib.hid (owns_less ho2 (show w.heap.size + 1 ≤ _ by simp))
    obtain ⟨x1, x2, x3, x4⟩ := kept4 hb2
    have hs2 := hb2.size
    have R2 := Lib.hid ((HR.out.alloc _).below hb2)
    have B2 := Lib.hid (((Below.refl _ w).alloc (Nat.le_refl _) _).trans (hb2.mono (by simp)))
    clear ho2 hb2 hl2
    go_wp2_with fail
    refine (OwnFits_any _ _ _ _ rs _ _ _ _ _ HL.out R2.out hn).mono ?_
    rw [hF]
    rintro e w3 ⟨rfl, hb3⟩
    have hlt : w.heap.size < w2.heap.size := by simp at hs2; omega
    have y1 := (hb3.cell (p := ⟨w.heap.size, 0, none⟩) hlt).trans x1
    have y2 := (hb3.cell (p := ⟨w.heap.size, 1, none⟩) hlt).trans x2
    have y3 := (hb3.cell (p := ⟨w.heap.size, 2, none⟩) hlt).trans x3
    have y4 := (hb3.cell (p := ⟨w.heap.size, 3, none⟩) hlt).trans x4
    have O3 := Lib.hid (owns_over O2.out hb3)
    have B3 := Lib.hid (below_at B2.out hb3)
    clear hb3 x1 x2 x3 x4
    obtain ⟨g, c2', hv2, hB2, hlt2⟩ := World.ownsRow.form O3.out (by omega)
    injection hv2 with e1 _ e3
    subst e1 e3
    obtain ⟨d1, d2, d3⟩ := ownR_cells O3.out hj
    have f1 := World.ownsRow.frozenAt O3.out (j * 3)
    have f2 := World.ownsRow.frozenAt O3.out (j * 3 + 1)
    have f3 := World.ownsRow.frozenAt O3.out (j * 3 + 2)
    have PA := Lib.hid (ownR_set O3.out hj 2 (.bool true) ⟨(rs.getD j r0).u, (rs.getD j r0).f, true⟩ (by omega) rfl)
    generalize rs.getD j r0 = y at *
    clear hF
    go_wp2_with fail
    go_ret2
    exact put_res HV1.out (by rw [List.length_set]; exact HL.out) (owns_less PA.out.1 (by omega)) (B3.out.grown PA.out.2 B3.out.size (fun q hq => by injection hq with hq; omega))
set_option maxHeartbeats 8000000 in
theorem sOwnPut_any (A : Option Addr) (n c L : Nat) (rs : List Orow) (k tt eu p : Int) (w : World) (hl : rs.length = n) (hr : RV w L A (flatR rs)) (hX : A = none → n = 0 ∧ c = 0) (hn : n ≤ 1500000) :
    Calls Try.prog 49 #[.slice A n c, .agg #[.int .i64 k, .int .i64 tt, .int .i64 eu, .int .i64 p]] w (PutRes w (ownPut rs ⟨k, tt, eu, p⟩)) := by
  have HL := Lib.hid hl
  have HR := Lib.hid hr
  clear hl hr
  cases hF : ownFits rs ⟨k, tt, eu, p⟩
  · have hv := Lib.hid (ownPut_no hF)
    have hs1 : (w.alloc (.cells #[.int .i64 k, .int .i64 tt, .int .i64 eu, .int .i64 p] 25)).heap.size = w.heap.size + 1 := by simp
    have hown1 := World.ownsRow_made (base := w.heap.size + 1) (e := 31) (size := 3) (w.alloc (.cells #[.int .i64 k, .int .i64 tt, .int .i64 eu, .int .i64 p] 25)) #[] 0 (by simp) (by decide) rfl
    rw [hs1] at hown1
    have HS1 := Lib.hid hs1
    clear hs1
    go_enter Try.func49, Try.ntmps49
    go_wp2_with (at_builtin; refine wpList_spreadR rfl _ _ rfl (w.heap.size + 1) _ 0 0 [] A _ c L rs rfl rfl hown1 HL.out hX ((HR.out.alloc _).alloc _) (by omega) (by simp) ?_; intro A2 c2 w2 hown2 hbx hgx; rw [List.nil_append, Nat.zero_add] at hown2; rw [Nat.zero_add]; have O2 := Lib.hid hown2; have hb2 := ((Below.refl (w.alloc (.cells #[.int .i64 k, .int .i64 tt, .int .i64 eu, .int .i64 p] 25)).heap.size _).alloc (Nat.le_refl _) (.cells #[] 31)).trans (by rw [HS1.out]; exact hbx); obtain ⟨x1, x2, x3, x4⟩ := kept4 hb2; have hs2 := hb2.size; have R2 := Lib.hid ((HR.out.alloc _).below hb2); have B2 := Lib.hid (((Below.refl _ w).alloc (Nat.le_refl _) _).trans (hb2.mono (by simp))); clear hown2 hbx hgx hb2)
    refine (sOwnFits_any _ _ _ _ rs _ _ _ _ _ HL.out R2.out hn).mono ?_
    rw [hF]
    rintro e w3 ⟨rfl, hb3⟩
    have hlt : w.heap.size < w2.heap.size := by simp at hs2; omega
    have y1 := (hb3.cell (p := ⟨w.heap.size, 0, none⟩) hlt).trans x1
    have y2 := (hb3.cell (p := ⟨w.heap.size, 1, none⟩) hlt).trans x2
    have y3 := (hb3.cell (p := ⟨w.heap.size, 2, none⟩) hlt).trans x3
    have y4 := (hb3.cell (p := ⟨w.heap.size, 3, none⟩) hlt).trans x4
    have O3 := Lib.hid (owns_over O2.out hb3)
    have B3 := Lib.hid (below_at B2.out hb3)
    clear hb3 x1 x2 x3 x4
    go_wp2_with fail
    go_ret2
    exact put_res hv.out HL.out (owns_less O3.out (by omega)) B3.out
  · obtain ⟨g1, g2, g3⟩ := ownFits_parts hF
    have hv0 := ownPut_yes hF
    have ht := okE_t g2
    simp only at ht
    obtain ⟨t0, t7⟩ := ht
    obtain ⟨j, rfl⟩ := Int.eq_ofNat_of_zero_le t0
    simp only [Int.toNat_natCast] at g3 hv0
    obtain rfl : n = 8 := HL.out.symm.trans (rowsOk_len8 g1)
    have hj : j < 8 := by omega
    have hrow := rowsOk_at g1 (j := j) (by rw [HL.out]; exact hj)
    have hjI : (j : Int) < 8 := by omega
    have hbl := Lib.hid (fun hk : k = 1 => fits_blank hrow g3 hk)
    have HV := Lib.hid hv0
    have HF := Lib.hid hF
    clear g1 g2 g3 hv0 hrow t0 t7 hF
    by_cases k1 : k = 1
    · subst k1
      have hb0 := hbl.out rfl
      have HV1 : Hid (ownPut rs ⟨1, (j : Int), eu, p⟩ = (rs.set j ⟨eu, p, false⟩, true)) := Lib.hid (by rw [HV.out]; rfl)
      have hF := HF.out
      clear HV hbl HF
      have hs1 : (w.alloc (.cells #[.int .i64 1, .int .i64 (j : Int), .int .i64 eu, .int .i64 p] 25)).heap.size = w.heap.size + 1 := by simp
      have hown1 := World.ownsRow_made (base := w.heap.size + 1) (e := 31) (size := 3) (w.alloc (.cells #[.int .i64 1, .int .i64 (j : Int), .int .i64 eu, .int .i64 p] 25)) #[] 0 (by simp) (by decide) rfl
      rw [hs1] at hown1
      have HS1 := Lib.hid hs1
      clear hs1
      go_enter Try.func49, Try.ntmps49
      go_wp2_with (at_builtin; refine wpList_spreadR rfl _ _ rfl (w.heap.size + 1) _ 0 0 [] A _ c L rs rfl rfl hown1 HL.out hX ((HR.out.alloc _).alloc _) (by omega) (by simp) ?_; intro A2 c2 w2 hown2 hbx hgx; rw [List.nil_append, Nat.zero_add] at hown2; rw [Nat.zero_add]; have O2 := Lib.hid hown2; have hb2 := ((Below.refl (w.alloc (.cells #[.int .i64 1, .int .i64 (j : Int), .int .i64 eu, .int .i64 p] 25)).heap.size _).alloc (Nat.le_refl _) (.cells #[] 31)).trans (by rw [HS1.out]; exact hbx); obtain ⟨x1, x2, x3, x4⟩ := kept4 hb2; have hs2 := hb2.size; have R2 := Lib.hid ((HR.out.alloc _).below hb2); have B2 := Lib.hid (((Below.refl _ w).alloc (Nat.le_refl _) _).trans (hb2.mono (by simp))); clear hown2 hbx hgx hb2)
      refine (sOwnFits_any _ _ _ _ rs _ _ _ _ _ HL.out R2.out hn).mono ?_
      rw [hF]
      rintro e w3 ⟨rfl, hb3⟩
      have hlt : w.heap.size < w2.heap.size := by simp at hs2; omega
      have y1 := (hb3.cell (p := ⟨w.heap.size, 0, none⟩) hlt).trans x1
      have y2 := (hb3.cell (p := ⟨w.heap.size, 1, none⟩) hlt).trans x2
      have y3 := (hb3.cell (p := ⟨w.heap.size, 2, none⟩) hlt).trans x3
      have y4 := (hb3.cell (p := ⟨w.heap.size, 3, none⟩) hlt).trans x4
      have O3 := Lib.hid (owns_over O2.out hb3)
      have B3 := Lib.hid (below_at B2.out hb3)
      clear hb3 x1 x2 x3 x4
      obtain ⟨g, c2', hv2, hB2, hlt2⟩ := World.ownsRow.form O3.out (by omega)
      injection hv2 with e1 _ e3
      subst e1 e3
      obtain ⟨d1, d2, d3⟩ := ownR_cells O3.out hj
      have f1 := World.ownsRow.frozenAt O3.out (j * 3)
      have f2 := World.ownsRow.frozenAt O3.out (j * 3 + 1)
      have f3 := World.ownsRow.frozenAt O3.out (j * 3 + 2)
      rw [hb0] at d1 d2 d3
      simp only [r0] at d1 d2 d3
      clear hF
      have PA := Lib.hid (ownR_put O3.out hj ⟨eu, p, false⟩)
      go_wp2_with fail
      go_ret2
      exact put_res HV1.out (by rw [List.length_set]; exact HL.out) (owns_less PA.out.1 (by omega)) (B3.out.grown PA.out.2 B3.out.size (fun q hq => by injection hq with hq; omega))
    have k1f : (k == 1) = false := by simpa using k1
    by_cases k2 : k = 2
    · subst k2
      have HV1 : Hid (ownPut rs ⟨2, (j : Int), eu, p⟩ = (rs.set j ⟨eu, (rs.getD j r0).f, (rs.getD j r0).b⟩, true)) := Lib.hid (by rw [HV.out]; rfl)
      have hF := HF.out
      clear HV hbl HF k1
      have hs1 : (w.alloc (.cells #[.int .i64 2, .int .i64 (j : Int), .int .i64 eu, .int .i64 p] 25)).heap.size = w.heap.size + 1 := by simp
      have hown1 := World.ownsRow_made (base := w.heap.size + 1) (e := 31) (size := 3) (w.alloc (.cells #[.int .i64 2, .int .i64 (j : Int), .int .i64 eu, .int .i64 p] 25)) #[] 0 (by simp) (by decide) rfl
      rw [hs1] at hown1
      have HS1 := Lib.hid hs1
      clear hs1
      go_enter Try.func49, Try.ntmps49
      go_wp2_with (at_builtin; refine wpList_spreadR rfl _ _ rfl (w.heap.size + 1) _ 0 0 [] A _ c L rs rfl rfl hown1 HL.out hX ((HR.out.alloc _).alloc _) (by omega) (by simp) ?_; intro A2 c2 w2 hown2 hbx hgx; rw [List.nil_append, Nat.zero_add] at hown2; rw [Nat.zero_add]; have O2 := Lib.hid hown2; have hb2 := ((Below.refl (w.alloc (.cells #[.int .i64 2, .int .i64 (j : Int), .int .i64 eu, .int .i64 p] 25)).heap.size _).alloc (Nat.le_refl _) (.cells #[] 31)).trans (by rw [HS1.out]; exact hbx); obtain ⟨x1, x2, x3, x4⟩ := kept4 hb2; have hs2 := hb2.size; have R2 := Lib.hid ((HR.out.alloc _).below hb2); have B2 := Lib.hid (((Below.refl _ w).alloc (Nat.le_refl _) _).trans (hb2.mono (by simp))); clear hown2 hbx hgx hb2)
      refine (sOwnFits_any _ _ _ _ rs _ _ _ _ _ HL.out R2.out hn).mono ?_
      rw [hF]
      rintro e w3 ⟨rfl, hb3⟩
      have hlt : w.heap.size < w2.heap.size := by simp at hs2; omega
      have y1 := (hb3.cell (p := ⟨w.heap.size, 0, none⟩) hlt).trans x1
      have y2 := (hb3.cell (p := ⟨w.heap.size, 1, none⟩) hlt).trans x2
      have y3 := (hb3.cell (p := ⟨w.heap.size, 2, none⟩) hlt).trans x3
      have y4 := (hb3.cell (p := ⟨w.heap.size, 3, none⟩) hlt).trans x4
      have O3 := Lib.hid (owns_over O2.out hb3)
      have B3 := Lib.hid (below_at B2.out hb3)
      clear hb3 x1 x2 x3 x4
      obtain ⟨g, c2', hv2, hB2, hlt2⟩ := World.ownsRow.form O3.out (by omega)
      injection hv2 with e1 _ e3
      subst e1 e3
      obtain ⟨d1, d2, d3⟩ := ownR_cells O3.out hj
      have f1 := World.ownsRow.frozenAt O3.out (j * 3)
      have f2 := World.ownsRow.frozenAt O3.out (j * 3 + 1)
      have f3 := World.ownsRow.frozenAt O3.out (j * 3 + 2)
      have PA := Lib.hid (ownR_set O3.out hj 0 (.int .i64 eu) ⟨eu, (rs.getD j r0).f, (rs.getD j r0).b⟩ (by omega) rfl)
      generalize rs.getD j r0 = y at *
      clear hF
      go_wp2_with fail
      go_ret2
      exact put_res HV1.out (by rw [List.length_set]; exact HL.out) (owns_less PA.out.1 (by omega)) (B3.out.grown PA.out.2 B3.out.size (fun q hq => by injection hq with hq; omega))
    have k2f : (k == 2) = false := by simpa using k2
    have HV1 : Hid (ownPut rs ⟨k, (j : Int), eu, p⟩ = (rs.set j ⟨(rs.getD j r0).u, (rs.getD j r0).f, true⟩, true)) := Lib.hid (by rw [HV.out]; simp only [put1]; rw [if_neg k1, if_neg k2])
    have hF := HF.out
    clear HV hbl HF k1 k2
    have hs1 : (w.alloc (.cells #[.int .i64 k, .int .i64 (j : Int), .int .i64 eu, .int .i64 p] 25)).heap.size = w.heap.size + 1 := by simp
    have hown1 := World.ownsRow_made (base := w.heap.size + 1) (e := 31) (size := 3) (w.alloc (.cells #[.int .i64 k, .int .i64 (j : Int), .int .i64 eu, .int .i64 p] 25)) #[] 0 (by simp) (by decide) rfl
    rw [hs1] at hown1
    have HS1 := Lib.hid hs1
    clear hs1
    go_enter Try.func49, Try.ntmps49
    go_wp2_with (at_builtin; refine wpList_spreadR rfl _ _ rfl (w.heap.size + 1) _ 0 0 [] A _ c L rs rfl rfl hown1 HL.out hX ((HR.out.alloc _).alloc _) (by omega) (by simp) ?_; intro A2 c2 w2 hown2 hbx hgx; rw [List.nil_append, Nat.zero_add] at hown2; rw [Nat.zero_add]; have O2 := Lib.hid hown2; have hb2 := ((Below.refl (w.alloc (.cells #[.int .i64 k, .int .i64 (j : Int), .int .i64 eu, .int .i64 p] 25)).heap.size _).alloc (Nat.le_refl _) (.cells #[] 31)).trans (by rw [HS1.out]; exact hbx); obtain ⟨x1, x2, x3, x4⟩ := kept4 hb2; have hs2 := hb2.size; have R2 := Lib.hid ((HR.out.alloc _).below hb2); have B2 := Lib.hid (((Below.refl _ w).alloc (Nat.le_refl _) _).trans (hb2.mono (by simp))); clear hown2 hbx hgx hb2)
    refine (sOwnFits_any _ _ _ _ rs _ _ _ _ _ HL.out R2.out hn).mono ?_
    rw [hF]
    rintro e w3 ⟨rfl, hb3⟩
    have hlt : w.heap.size < w2.heap.size := by simp at hs2; omega
    have y1 := (hb3.cell (p := ⟨w.heap.size, 0, none⟩) hlt).trans x1
    have y2 := (hb3.cell (p := ⟨w.heap.size, 1, none⟩) hlt).trans x2
    have y3 := (hb3.cell (p := ⟨w.heap.size, 2, none⟩) hlt).trans x3
    have y4 := (hb3.cell (p := ⟨w.heap.size, 3, none⟩) hlt).trans x4
    have O3 := Lib.hid (owns_over O2.out hb3)
    have B3 := Lib.hid (below_at B2.out hb3)
    clear hb3 x1 x2 x3 x4
    obtain ⟨g, c2', hv2, hB2, hlt2⟩ := World.ownsRow.form O3.out (by omega)
    injection hv2 with e1 _ e3
    subst e1 e3
    obtain ⟨d1, d2, d3⟩ := ownR_cells O3.out hj
    have f1 := World.ownsRow.frozenAt O3.out (j * 3)
    have f2 := World.ownsRow.frozenAt O3.out (j * 3 + 1)
    have f3 := World.ownsRow.frozenAt O3.out (j * 3 + 2)
    have PA := Lib.hid (ownR_set O3.out hj 2 (.bool true) ⟨(rs.getD j r0).u, (rs.getD j r0).f, true⟩ (by omega) rfl)
    generalize rs.getD j r0 = y at *
    clear hF
    go_wp2_with fail
    go_ret2
    exact put_res HV1.out (by rw [List.length_set]; exact HL.out) (owns_less PA.out.1 (by omega)) (B3.out.grown PA.out.2 B3.out.size (fun q hq => by injection hq with hq; omega))
end Go.Proofs.Ytbgljjmmominbaa

