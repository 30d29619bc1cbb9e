/- Contracts: a proof drawn: often a right one, or one that shows another leaf (reference, layer 20). -/
import Derived.Test.YtandjjbfhcifiaaForge
import Derived.Laws.AppendOwnNone
namespace Go.Proofs.Ytandjjbfhcifiaa
set_option linter.unusedVariables false
open Go.RowKit Pl

theorem results_tmp4 {fn : Func} {t u v x : Tmp} (h : fn.results = #[.tmp t, .tmp u, .tmp v, .tmp x]) (tmps : Array Value) (P : Program) (w : World) :
    (results fn tmps).run P w = .ok (.tuple #[tmps.getD t undef, tmps.getD u undef, tmps.getD v undef, tmps.getD x undef]) w := by simp [results, h]
theorem results_tmp5 {fn : Func} {t u v x y : Tmp} (h : fn.results = #[.tmp t, .tmp u, .tmp v, .tmp x, .tmp y]) (tmps : Array Value) (P : Program) (w : World) :
    (results fn tmps).run P w = .ok (.tuple #[tmps.getD t undef, tmps.getD u undef, tmps.getD v undef, tmps.getD x undef, tmps.getD y undef]) w := by simp [results, h]

theorem own_none {w : World} {base n cap : Nat} {ys : List Int} (h : OwnI w base none n cap ys) : n = 0 ∧ cap = 0 := by
  rcases h.2 with ⟨h1, h2⟩ | ⟨g, c, cur, hv, _⟩
  · injection h1 with _ _ hc
    exact ⟨h2, hc⟩
  · injection hv with h1 _ _; cases h1
theorem own_shape {w : World} {base n : Nat} {v : Value} {xs : List Value} {e : TypeId} {s : Nat} (h : w.ownsRow base e s v n xs) : ∃ A cap, v = .slice A n cap := by
  rcases h.2 with ⟨rfl, rfl⟩ | ⟨g, c, cur, hv, _⟩
  · exact ⟨none, 0, rfl⟩
  · exact ⟨_, _, hv⟩
/-- 'append(row, src...)' of whatever source that reads as numbers, an empty one and nil too -/
theorem wpList_spread_any {ops : Array Oper} {rest : List Oper} {o : Oper} {a : Act} {Q : Exit → Act → World → Prop} {w : World} (hgd : o.guard = none) (s x : Operand)
    (ho : o.op = .call { callee := .builtin .append, args := #[s, x], argTypes := #[30, 30] }) (base : Nat) (A : Option Addr) (n cap : Nat) (ys : List Int) (X : Option Addr) (m c L : Nat) (zs : List Int)
    (hs : a.eval s = .slice A n cap) (hx : a.eval x = .slice X m c) (hown : OwnI w base A n cap ys) (hlz : zs.length = m) (hX : X = none → m = 0 ∧ c = 0)
    (hr : RI w L X zs) (hn : n + m ≤ 2000000) (hbase : base ≤ w.heap.size)
    (h : ∀ A' cap' w', OwnI w' base A' (n + m) cap' (ys ++ zs) → Below base w w' → w.grownBy w' (Value.slice A n cap).ownBlock → wpList Try.prog ops Q rest (a.put o.dst (.slice A' (n + m) cap')) w') : wpList Try.prog ops Q (o :: rest) a w := by
  obtain ⟨i0, hi, hz0, hz1, hz2⟩ := info_parts info_int
  cases X with
  | none =>
    obtain ⟨rfl, rfl⟩ := hX rfl
    obtain rfl := List.eq_nil_of_length_eq_zero hlz
    refine wpList_append_own_none hgd s x 30 ho base 3 i0 1 Try.underlying30 hi _ n _ hs hown hx ?_
    exact h A cap w (by simpa using hown) (Below.refl _ _) (World.grownBy.refl w _)
  | some ad =>
    refine wpList_append_own_at w hgd s x 30 ho base 3 i0 (.int .i64 0) 1 8 Try.underlying30 hi hz0 hz1 hz2 rfl (by decide) _ n _ hs hown ad m c (zs.map (Value.int .i64)) hx (by simpa using hlz) ?_ ?_ (by unfold maxLen; omega) (by omega) hbase ?_
    · intro j u hu
      have hj : j < zs.length := by
        rcases Nat.lt_or_ge j zs.length with h | h
        · exact h
        · rw [List.getElem?_eq_none (by simpa using h)] at hu; cases hu
      obtain ⟨b, o', e, _, _, hc⟩ := hr.at_ hj
      injection e with e
      subst e
      have e : (⟨b, o', none⟩ : Addr).add j = ⟨b, o' + j, none⟩ := by unfold Addr.add; split <;> simp_all
      rw [e, hc, ← hu]
      simp [List.getD, hj]
    · intro u hu
      obtain ⟨z, _, rfl⟩ := List.mem_map.1 hu
      rfl
    · intro v' w' h1 h2 _ _
      obtain ⟨A', cap', rfl⟩ := own_shape h1
      exact h A' cap' w' (by simpa [OwnI] using h1) (own_below hown h2 hbase) h2

/-- leaves, one of them, a proof: in memory from B on -/
structure Shown (B : Nat) (w' : World) (A : Option Addr) (n c : Nat) (xs : List Int) (i : Int) (A2 : Option Addr) (m c2 : Nat) (p : List Int) : Prop where
  len : xs.length = n
  few : n ≤ 100
  cap : n ≤ c
  reads : RI w' B A xs
  plen : p.length = m
  pfew : m ≤ 100
  pcap : m ≤ c2
  preads : RI w' B A2 p
  i0 : 0 ≤ i
  i1 : i ≤ 200
def ShownRes (w : World) (g P : Nat) (e : Ending) (w' : World) : Prop :=
  ∃ (A : Option Addr) (n c : Nat) (xs : List Int) (i leaf : Int) (A2 : Option Addr) (m c2 : Nat) (p : List Int),
    e = .returned (.tuple #[.slice A n c, .int .i64 i, .int .i64 leaf, .slice A2 m c2]) ∧ Shown w.heap.size w' A n c xs i A2 m c2 p ∧ Rd w' g (P + 400) ∧ w.grownBy w' (some g)
/-- on the way: the leaves read, the reader, the frame -/
structure Way (w : World) (g P : Nat) (w' : World) (A : Option Addr) (xs : List Int) : Prop where
  reads : RI w' w.heap.size A xs
  rd : Rd w' g P
  grown : w.grownBy w' (some g)
theorem Way.step {w w1 w2 : World} {g P Q : Nat} {A : Option Addr} {xs : List Int} (h : Way w g P w1 A xs) (hgl : g < w.heap.size) (hr : Rd w2 g Q) (hg : w1.grownBy w2 (some g)) : Way w g Q w2 A xs :=
  ⟨h.reads.kept hg hgl, hr, grownBy_trans h.grown hg⟩
theorem Way.below {w w1 w2 : World} {g P : Nat} {A : Option Addr} {xs : List Int} (h : Way w g P w1 A xs) (hgl : g < w.heap.size) (hb : Below w1.heap.size w1 w2) : Way w g P w2 A xs :=
  ⟨h.reads.below hb, h.rd.below hb (by have := h.grown.size; omega), grownBy_below h.grown hb h.grown.size⟩
/-- a store into a block that the leaves do not lie in -/
theorem Way.store {w w1 : World} {g P : Nat} {A : Option Addr} {xs : List Int} (h : Way w g P w1 A xs) (hgl : g < w.heap.size) {p : Addr} (hp : w.heap.size ≤ p.block) (hA : ∀ b o, A = some ⟨b, o, none⟩ → p.block ≠ b) (v : Value) : Way w g P (w1.setCell p v) A xs :=
  ⟨h.reads.setCell hA v, h.rd.below ((Below.refl w.heap.size w1).setCell hp v) hgl, grownBy_below h.grown ((Below.refl w.heap.size w1).setCell hp v) (Nat.le_refl _)⟩
theorem RK.over {k : IntKind} {w w' : World} {L B : Nat} {A : Option Addr} {xs : List Int} (h : RK k w L A xs) (hb : Below B w w') (hA : ∀ b o, A = some ⟨b, o, none⟩ → b < B) : RK k w' L A xs := fun hp => by
  obtain ⟨b, o, e, hL, hlt, hc⟩ := h hp
  exact ⟨b, o, e, hL, by have := hb.size; omega, fun j hj => (hb.cell (p := ⟨b, o + j, none⟩) (hA b o e)).trans (hc j hj)⟩
theorem treProof_okL (xs : List Int) (i : Int) : okL (treProof xs i) = true := by
  by_cases hg : okL xs = true ∧ inB i 0 ((xs.length : Int) - 1) = true
  · rw [treProof_yes hg.1 hg.2]; exact (incl_ok xs hg.1 i.toNat).1
  · rw [treProof_no hg]; rfl
theorem treProof_some {xs : List Int} {i : Int} (h : treProof xs i ≠ []) : okL xs = true := by
  by_cases hg : okL xs = true ∧ inB i 0 ((xs.length : Int) - 1) = true
  · exact hg.1
  · rw [treProof_no hg] at h; exact absurd rfl h
set_option maxHeartbeats 4000000 in
theorem shown_any (w : World) (g P : Nat) (h : Rd w g P) (hP : P ≤ 500000) : Calls Try.prog 68 #[.pointer (some ⟨g, 0, none⟩)] w (ShownRes w g P) := by
  have hgl := h.lt
  go_enter Try.func68, Try.ntmps68
  go_wp2_with fail
  refine (leaves_any _ g P _ h (by omega) (by omega) (by omega)).mono ?_
  rintro e w1 ⟨A, n, c, xs, rfl, hl, hn, ho, hr1, hg1⟩
  have W1 := Lib.hid (show Way w g (P + 300) w1 A xs from ⟨RK.of_own ho, hr1, hg1⟩)
  have HL := Lib.hid hl
  have hnc := own_cap ho
  have hA := Lib.hid (show A = none → n = 0 ∧ c = 0 from fun e => by subst e; exact own_none ho)
  clear h hl ho hr1 hg1
  by_cases h0 : n = 0
  · subst h0
    go_wp2_with fail
    refine bodyPost_ret (results_tmp4 rfl _ _ _) rfl ?_
    exact ⟨_, _, _, xs, _, _, _, _, _, [], rfl, ⟨HL.out, by omega, hnc, (W1.out.reads.alloc _), rfl, by omega, by omega, RK.nil, by omega, by omega⟩, (W1.out.rd.alloc _).more (by omega), grownBy_alloc W1.out.grown _⟩
  · have hn1 : 1 ≤ n := by omega
    have hnz : ((n : Int) == 0) = false := by simp; omega
    obtain ⟨b, o, rfl, _, _, _⟩ := W1.out.reads.at_ (j := 0) (by rw [HL.out]; omega)
    go_wp2_with fail
    refine (pick_any _ g _ _ W1.out.rd (by omega) (by omega)).mono ?_
    rintro e w2 ⟨i, rfl, hi1, _, hr2, hg2⟩
    have hi := hi1 (by omega)
    have W2 := Lib.hid (W1.out.step hgl hr2 hg2)
    clear hi1 hr2 hg2 W1 hA h0
    go_wp2_with fail
    refine (sTreProof_any _ n c w.heap.size _ xs _ HL.out hnc (by omega) W2.out.reads).mono ?_
    rintro e w3 ⟨A2, m, c2, rfl, hm, own2, hb2⟩
    have W3 := Lib.hid (W2.out.below hgl hb2)
    have hs2 : w.heap.size ≤ w2.heap.size := W2.out.grown.size
    have HM := Lib.hid hm
    have P3 := Lib.hid ((RK.of_own own2).less hs2)
    have N3 := Lib.hid (show A2 = none → m = 0 ∧ c2 = 0 from fun e => by subst e; exact own_none own2)
    have hmc := own_cap own2
    have hm6 : m ≤ 6 := by rw [← hm]; exact treProof_few xs _
    have hpk := Lib.hid (treProof_okL xs (i : Int))
    have hpo := Lib.hid (show 1 ≤ m → okL xs = true from fun h1 => treProof_some (i := (i : Int)) (by intro e; rw [e] at hm; simp at hm; omega))
    generalize treProof xs (i : Int) = p at *
    obtain ⟨b', o', e, _, hbs, hcell⟩ := W3.out.reads.at_ (j := i) (by rw [HL.out]; omega)
    injection e with e; injection e with e1 e2; subst e1 e2
    have hinat : i < n := by omega
    generalize xs.getD i 0 = z at *
    clear own2 hb2 hm W2
    go_wp2_with fail
    refine (pick_any _ g _ _ W3.out.rd (by omega) (by omega)).mono ?_
    rintro e w4 ⟨v, rfl, hv1, _, hr4, hg4⟩
    have hv := hv1 (by omega)
    have W4 := Lib.hid (W3.out.step hgl hr4 hg4)
    have P4 := Lib.hid (P3.out.kept hg4 hgl)
    have hs3 : w3.heap.size ≤ w4.heap.size := hg4.size
    have hs4 : w.heap.size ≤ w4.heap.size := W4.out.grown.size
    have hown0 := own_lit w4 w4.heap.size [] #[] (Nat.le_refl _) rfl (by simp)
    clear hv1 hr4 hg4 W3 P3 hcell
    have hv5 : v = 0 ∨ v = 1 ∨ v = 2 ∨ v = 3 ∨ v = 4 := by omega
    clear hv
    rcases hv5 with rfl | rfl | rfl | rfl | rfl
    · go_wp2_with fail
      refine (mix_any _ g _ _ W4.out.rd (by omega) (by omega) (by omega)).mono ?_
      rintro e w5 ⟨y, rfl, hr5, hg5⟩
      have W5 := Lib.hid (W4.out.step hgl hr5 hg5)
      have P5 := Lib.hid (P4.out.kept hg5 hgl)
      clear hr5 hg5
      go_wp2_with fail
      refine bodyPost_ret (results_tmp4 rfl _ _ _) rfl ?_
      exact ⟨_, _, _, xs, _, _, _, _, _, p, rfl, ⟨HL.out, by omega, hnc, W5.out.reads, HM.out, by omega, hmc, P5.out, by omega, by omega⟩, W5.out.rd.more (by omega), W5.out.grown⟩
    · by_cases hm0 : m = 0
      · subst hm0
        go_wp2_with fail
        refine bodyPost_ret (results_tmp4 rfl _ _ _) rfl ?_
        exact ⟨_, _, _, xs, _, _, _, _, _, p, rfl, ⟨HL.out, by omega, hnc, W4.out.reads, HM.out, by omega, hmc, P4.out, by omega, by omega⟩, W4.out.rd.more (by omega), W4.out.grown⟩
      · have hm1 : 0 < m := by omega
        clear hm0
        go_wp2_with (at_builtin; refine wpList_spread_any rfl _ _ rfl w4.heap.size _ 0 0 [] A2 m c2 w.heap.size p rfl rfl hown0 HM.out N3.out (P4.out.alloc _) (by omega) (by simp) ?_; intro A5 c5 w5 hown5 hb5 hg5; rw [List.nil_append, Nat.zero_add] at hown5; obtain ⟨g5, c5', hv5, hB5, hlt5⟩ := World.ownsRow.form hown5 (by omega); injection hv5 with e1 _ e3; subst e1 e3; have O5 := Lib.hid hown5; have W5 := Lib.hid (W4.out.below hgl (((Below.refl _ _).alloc (Nat.le_refl _) _).trans hb5)); clear hown5 hb5 hg5)
        refine (pick_any _ g _ _ W5.out.rd (by omega) (by omega)).mono ?_
        rintro e w6 ⟨u, rfl, hu1, _, hr6, hg6⟩
        have hu := hu1 (by omega)
        have W6 := Lib.hid (W5.out.step hgl hr6 hg6)
        have O6 := Lib.hid (own_kept O5.out hg6 (by omega))
        clear hu1 hr6 hg6 W5 O5
        go_wp2_with fail
        refine (mix_any _ g _ _ W6.out.rd (by omega) (by omega) (by omega)).mono ?_
        rintro e w7 ⟨y, rfl, hr7, hg7⟩
        have W7 := Lib.hid (W6.out.step hgl hr7 hg7)
        have O7 := Lib.hid (own_kept O6.out hg7 (by omega))
        clear hr7 hg7 W6 O6
        have hd := own_cell O7.out (j := u) (by omega)
        have hf := World.ownsRow.frozenAt O7.out u
        have hst := (own_stored O7.out u y).1
        have hcc := own_cap O7.out
        have WE := Lib.hid (W7.out.store hgl (p := ⟨g5, u, none⟩) (show w.heap.size ≤ g5 by omega) (fun b' o' e => by injection e with e; injection e with e1 _; show g5 ≠ b'; omega) (.int .i64 y))
        have ST := Lib.hid ((RK.of_own hst).less hs4)
        clear hst
        generalize p.getD u 0 = pu at *
        go_wp2_with fail
        refine bodyPost_ret (results_tmp4 rfl _ _ _) rfl ?_
        exact ⟨_, _, _, xs, _, _, _, _, _, p.set u y, rfl, ⟨HL.out, by omega, hnc, WE.out.reads, List.length_set.trans HM.out, by omega, hcc, ST.out, by omega, by omega⟩, WE.out.rd.more (by omega), WE.out.grown⟩
    · go_wp2_with (at_builtin; refine wpList_spread_any rfl _ _ rfl w4.heap.size _ 0 0 [] A2 m c2 w.heap.size p rfl rfl hown0 HM.out N3.out (P4.out.alloc _) (by omega) (by simp) ?_; intro A5 c5 w5 hown5 hb5 hg5; rw [List.nil_append, Nat.zero_add] at hown5; rw [Nat.zero_add]; have O5 := Lib.hid hown5; have hs5 := hb5.size; have W5 := Lib.hid (W4.out.below hgl (((Below.refl _ _).alloc (Nat.le_refl _) _).trans hb5)); clear hown5 hb5 hg5)
      refine (mix_any _ g _ _ W5.out.rd (by omega) (by omega) (by omega)).mono ?_
      rintro e w6 ⟨y, rfl, hr6, hg6⟩
      have W6 := Lib.hid (W5.out.step hgl hr6 hg6)
      have O6 := Lib.hid (own_kept O5.out hg6 (by omega))
      have hs6 : w4.heap.size ≤ w6.heap.size := by have := hg6.size; simp at hs5; omega
      clear hr6 hg6 W5 O5
      go_wp2_with (at_builtin; refine wpList_push rfl _ _ rfl w4.heap.size A5 m c5 p y w6.heap.size rfl rfl (World.ownsRow.alloc O6.out _) (heap_alloc_new _ _) (by omega) (by simp; omega) ?_; intro g7 c7 w7 hown7 hb7 hg7; have O7 := Lib.hid hown7; have B7 := Lib.hid (((Below.refl _ w6).alloc hs6 _).trans hb7); clear hown7 hb7 hg7)
      have hcc := own_cap O7.out
      refine bodyPost_ret (results_tmp4 rfl _ _ _) rfl ?_
      exact ⟨_, _, _, xs, _, _, _, _, _, p ++ [y], rfl, ⟨HL.out, by omega, hnc, W6.out.reads.over B7.out (fun b' o' e => by injection e with e; injection e with e1 _; omega), by simp; exact HM.out, by omega, hcc, (RK.of_own O7.out).less hs4, by omega, by omega⟩, (W6.out.rd.below B7.out (by omega)).more (by omega), grownBy_below W6.out.grown B7.out hs4⟩
    · by_cases hm0 : m = 0
      · subst hm0
        go_wp2_with fail
        refine bodyPost_ret (results_tmp4 rfl _ _ _) rfl ?_
        exact ⟨_, _, _, xs, _, _, _, _, _, p, rfl, ⟨HL.out, by omega, hnc, W4.out.reads, HM.out, by omega, hmc, P4.out, by omega, by omega⟩, W4.out.rd.more (by omega), W4.out.grown⟩
      · have hm1 : 0 < m := by omega
        clear hm0
        go_wp2_with fail
        refine (forge_any _ A2 n c m c2 w.heap.size w.heap.size xs p i _ HL.out W4.out.reads (hpo.out hm1) hinat HM.out hm1 (by omega) P4.out hpk.out).mono ?_
        rintro e w5 ⟨leaf, A5, c5, p5, rfl, hown5, hb5⟩
        have O5 := Lib.hid hown5
        have W5 := Lib.hid (W4.out.below hgl hb5)
        have hcc := own_cap O5.out
        clear hown5 hb5
        go_wp2_with fail
        refine bodyPost_ret (results_tmp4 rfl _ _ _) rfl ?_
        exact ⟨_, _, _, xs, _, _, _, _, _, p5, rfl, ⟨HL.out, by omega, hnc, W5.out.reads, own_len O5.out, by omega, hcc, (RK.of_own O5.out).less hs4, by omega, by omega⟩, W5.out.rd.more (by omega), W5.out.grown⟩
    · go_wp2_with fail
      refine bodyPost_ret (results_tmp4 rfl _ _ _) rfl ?_
      exact ⟨_, _, _, xs, _, _, _, _, _, p, rfl, ⟨HL.out, by omega, hnc, W4.out.reads, HM.out, by omega, hmc, P4.out, by omega, by omega⟩, W4.out.rd.more (by omega), W4.out.grown⟩
end Go.Proofs.Ytandjjbfhcifiaa
