/- The walk of FnMixLeaf. -/
import Derived.Test.YtandjjbfhcifiaaLaw
import Derived.Test.YtandjjbfhcifiaaPlainC
namespace Go.Proofs.Ytandjjbfhcifiaa
set_option linter.unusedVariables false
open Go.RowKit Pl

/-- numbers that fit their kind, in new memory -/
def WfListRes (w : World) (e : Ending) (w' : World) : Prop := ∃ A n c xs, e = .returned (.slice A n c) ∧ List_ w w' A n c xs ∧ ∀ x ∈ xs, -9223372036854775808 ≤ x ∧ x ≤ 9223372036854775807
def wfAll (xs : List Int) : Prop := ∀ x ∈ xs, -9223372036854775808 ≤ x ∧ x ≤ 9223372036854775807
theorem wfAll_snoc {xs : List Int} {z : Int} (h : wfAll xs) (hz : -9223372036854775808 ≤ z ∧ z ≤ 9223372036854775807) : wfAll (xs ++ [z]) := fun x hx => by
  rcases List.mem_append.1 hx with hx | hx
  · exact h x hx
  · rw [List.mem_singleton.1 hx]; exact hz
set_option maxHeartbeats 2000000 in
theorem DrawMixLeaf_any (w : World) (A : Option Addr) (n c : Nat) (bs : List Int) (h : Bytes w A n c bs) (hn : n ≤ 140737488351232) : Calls Try.prog 23 #[.slice A n c] w (WfListRes w) := by
  go_enter Try.func23, Try.ntmps23
  go_wp2_with fail
  refine (open_any _ A n c bs h hn).mono ?_
  rintro e w1 ⟨rfl, hr1, hb1⟩
  have hs1 := hb1.size
  have hgl := hr1.lt
  have G0 := Lib.hid (Grew.start hr1 (World.grownBy.refl w1 (some w.heap.size)))
  have HB := Lib.hid hb1
  clear hr1 hb1
  go_wp2_with fail
  refine (pick_any _ _ _ _ G0.out.rd (by omega) (by omega)).mono ?_
  rintro e w2 ⟨v, rfl, hv1, _, hr2, hg2⟩
  have hv := hv1 (by omega)
  have G1 := Lib.hid (G0.out.read hr2 hg2 hgl)
  clear hv1 hr2 hg2 G0
  go_wp2_with fail
  go_loopw [4, 5] (fun o i wr => ∃ (A : Option Addr) (m c k : Nat) (ys : List Int), o = .slice A m c ∧ i = .int .i64 (k : Int) ∧ m + k ≤ 5 ∧ Grew w1 w.heap.size w1.heap.size (1 + 2 * m) wr A m c ys ∧ wfAll ys) (fun _ i _ => (intOf i).toNat)
  case atStart => exact ⟨_, 0, 0, v, [], rfl, rfl, by omega, G1.out, fun x hx => by simp at hx⟩
  case round =>
    obtain ⟨A2, m, c2, k, ys, rfl, rfl, hmk, GR0, hwf⟩ := hrel
    have GR := Lib.hid GR0
    have HW := Lib.hid hwf
    clear GR0 G1 hwf
    by_cases hk0 : 0 < k
    · go_wp2_with fail
      refine (pick_any _ _ _ _ GR.out.rd (by omega) (by omega)).mono ?_
      rintro e w3 ⟨y, rfl, hy1, _, hr3, hg3⟩
      have hy := hy1 (by omega)
      have GA := Lib.hid ((GR.out.read hr3 hg3 hgl))
      have hs3 := GA.out.size
      clear hr3 hg3 hy1
      go_wp2_with fail
      refine (pick_any _ _ _ _ (GA.out.rd.alloc _) (by omega) (by omega)).mono ?_
      rintro e w4 ⟨x, rfl, hx1, _, hr4, hg4⟩
      have hx := hx1 (by omega)
      obtain ⟨z, hz, hm⟩ := table_at [0, 1, -1, (y : Int) * 300, -9223372036854775808, 9223372036854775807] _ rfl (block_kept (new_block w3 _) hg4 (by omega)) (v := x) (by simp; omega)
      have hzr : Hid (-9223372036854775808 ≤ z ∧ z ≤ 9223372036854775807) := Lib.hid (by simp at hm; omega)
      have GB := Lib.hid ((GA.out.alloc _).read hr4 hg4 hgl)
      have hown := (GB.out.alloc (.cells #[.int .i64 z] 3)).own
      have hsz := (GB.out.alloc (.cells #[.int .i64 z] 3)).size
      clear hr4 hg4 hx1 hm
      go_wp2_with (at_builtin; refine wpList_push rfl _ _ rfl w1.heap.size A2 m c2 ys z w4.heap.size rfl rfl hown (heap_alloc_new _ _) (by omega) hsz ?_; intro g' c' w5 hown5 hb5 hg5)
      have GC := (GB.out.alloc _).push hown5 (by simp; exact GB.out.len) hb5 hgl (Nat.le_refl _)
      clear hown hsz hown5 hb5 hg5 hz
      go_roundw
      case rel => exact ⟨_, m + 1, c', k - 1, _, rfl, by go_num, by omega, GC.more (by omega), wfAll_snoc HW.out hzr.out⟩
      case measure => simp [intOf]; omega
    · obtain rfl : k = 0 := by omega
      clear hk0
      go_wp2_with fail
      go_ret
      exact ⟨_, _, _, ys, rfl, list_of_leaves HB.out GR.out.len (by omega) GR.out.own GR.out.grown, HW.out⟩

theorem last_getD (l : List Int) : l.getLastD 0 = l.getD (l.length - 1) 0 := by
  simp [List.getLastD_eq_getLast?, List.getLast?_eq_getElem?, List.getD_eq_getElem?_getD]
theorem getD_wf {xs : List Int} {k : Nat} (h : wfAll xs) (hk : k < xs.length) : -9223372036854775808 ≤ xs.getD k 0 ∧ xs.getD k 0 ≤ 9223372036854775807 := by
  have e : xs.getD k 0 = xs[k] := by simp [List.getD, hk]
  rw [e]
  exact h _ (List.getElem_mem _)
theorem last_turn {xs : List Int} {k : Nat} {m : Int} (hk : k + 1 = xs.length) (hm : xs.getD k 0 % 65521 ≠ m % 65521) : (mixLeafI (xs.set k m) == mixLeafI xs) = false := by
  have h := mixLeaf_last (l := xs) (m := m) (by intro e; subst e; simp at hk) (by rw [last_getD]; rw [show xs.length - 1 = k by omega]; exact hm)
  rw [show xs.length - 1 = k by omega] at h
  simpa using h
set_option maxHeartbeats 1000000 in
theorem walkFnMixLeaf (a0 : Option Addr) (len0 cap0 : Nat) (z0 : List Int) (w : World) (w0 : InK .u8 w a0 len0 cap0 z0) : Calls Try.prog 4 #[.slice a0 len0 cap0] w (True_ w) := by
  have hlen : len0 ≤ 9223372036854775807 := by have := w0.cap; have := w0.top; unfold maxLen at this; omega
  by_cases hbig : len0 ≤ 1048576
  · have HB := Lib.hid w0.bytes
    clear w0
    go_enter Try.func4, Try.ntmps4
    go_wp2_with fail
    refine (DrawMixLeaf_any _ _ _ _ _ HB.out (by omega)).mono ?_
    rintro e w1 ⟨A, n, c, xs, rfl, L, hwf⟩
    have HL := Lib.hid L
    have HLen := Lib.hid L.len
    have HR := Lib.hid L.reads
    have HW : Hid (wfAll xs) := Lib.hid hwf
    have hn := L.few
    have hnc := L.cap
    clear L hwf
    have hok := mixLeaf_ok xs
    go_wp2_with fail
    refine (MixLeaf_any _ _ _ _ xs _ HLen.out HR.out (by omega)).mono ?_
    rintro e w2 ⟨rfl, rfl⟩
    go_wp2_with fail
    refine (sMixLeaf_any _ _ _ _ xs _ HLen.out HR.out (by omega)).mono ?_
    rintro e w2 ⟨rfl, rfl⟩
    by_cases h0 : n = 0
    · subst h0
      have hnil : xs = [] := List.eq_nil_of_length_eq_zero HLen.out
      subst hnil
      have e0 : mixLeafI [] = 217 := by decide
      rw [e0] at *
      go_wp2_with (first | (go_at_call 20; refine (MixOk_any _ _).mono ?_; rintro e w' ⟨rfl, rfl⟩) | (go_at_call 22; refine (swOk_any _).mono ?_; rintro e w' ⟨rfl, rfl⟩))
      go_ret
      exact ⟨rfl, HL.out.below⟩
    · obtain ⟨k, rfl⟩ : ∃ k, n = k + 1 := ⟨n - 1, by omega⟩
      obtain ⟨b, o, rfl, _, hbs, _⟩ := HR.out.at_ (j := k) (by rw [HLen.out]; omega)
      have hcells : Hid (∀ j, j < k + 1 → w1.cell? ⟨b, o + j, none⟩ = some (.int .i64 (xs.getD j 0))) := Lib.hid (fun j hj => by
        obtain ⟨b', o', e, _, _, hc⟩ := HR.out.at_ (j := j) (by rw [HLen.out]; exact hj)
        injection e with e; injection e with e1 e2; subst e1 e2; exact hc)
      have hz := getD_wf (k := k) HW.out (by rw [HLen.out]; omega)
      have hown0 := own_lit w1 w1.heap.size [] #[] (Nat.le_refl _) rfl (by simp)
      obtain ⟨z, hzd⟩ : ∃ z, z = xs.getD k 0 := ⟨_, rfl⟩
      have hlast : ∀ m : Int, z % 65521 ≠ m % 65521 → (mixLeafI (xs.set k m) == mixLeafI xs) = false := fun m hm => last_turn HLen.out.symm (by rw [← hzd]; exact hm)
      rw [← hzd] at hz
      have HZ := Lib.hid hzd
      clear hzd
      by_cases hp : 0 < z
      · have hne := hlast (z - 1) (by omega)
        go_wp2_with (first | (go_at_call 20; refine (MixOk_any _ _).mono ?_; rintro e w' ⟨rfl, rfl⟩) | (at_builtin; refine wpList_spread rfl _ _ rfl w1.heap.size _ 0 0 [] b o (k + 1) c xs rfl rfl hown0 HLen.out (by omega) (fun j hj => by rw [World.cell?_alloc_lt _ _ _ hbs]; exact hcells.out j hj) (by omega) (by simp) ?_; intro g c' w3 hown3 hb3 hg3; rw [List.nil_append, Nat.zero_add] at hown3; have hd := own_cell hown3 (j := k) (by omega); rw [← HZ.out] at hd; have hf := World.ownsRow.frozenAt hown3 k; have O3 := Lib.hid hown3; have B3 := Lib.hid hb3; clear hown3 hb3 hg3))
        clear hlast
        have hst := own_stored O3.out k (z - 1)
        have hgb := own_base O3.out
        refine Calls.mono (MixLeaf_any _ (k + 1) _ w1.heap.size (xs.set k (z - 1)) _ (List.length_set.trans HLen.out) (RK.of_own hst.1) (by omega)) ?_
        rintro e w5 ⟨rfl, rfl⟩
        go_wp2_with fail
        go_ret
        refine ⟨?_, HL.out.below.trans ((((Below.refl _ _).alloc (by exact HL.out.below.size) _).trans (B3.out.mono HL.out.below.size)).setCell (p := ⟨g, k, none⟩) (show w.heap.size ≤ g from by have := HL.out.below.size; omega) _)⟩
        refine ret_bool ?_
        simpa [go_sem] using hne
      · have hne := hlast (z + 1) (by omega)
        go_wp2_with (first | (go_at_call 20; refine (MixOk_any _ _).mono ?_; rintro e w' ⟨rfl, rfl⟩) | (at_builtin; refine wpList_spread rfl _ _ rfl w1.heap.size _ 0 0 [] b o (k + 1) c xs rfl rfl hown0 HLen.out (by omega) (fun j hj => by rw [World.cell?_alloc_lt _ _ _ hbs]; exact hcells.out j hj) (by omega) (by simp) ?_; intro g c' w3 hown3 hb3 hg3; rw [List.nil_append, Nat.zero_add] at hown3; have hd := own_cell hown3 (j := k) (by omega); rw [← HZ.out] at hd; have hf := World.ownsRow.frozenAt hown3 k; have O3 := Lib.hid hown3; have B3 := Lib.hid hb3; clear hown3 hb3 hg3))
        clear hlast
        have hst := own_stored O3.out k (z + 1)
        have hgb := own_base O3.out
        refine Calls.mono (MixLeaf_any _ (k + 1) _ w1.heap.size (xs.set k (z + 1)) _ (List.length_set.trans HLen.out) (RK.of_own hst.1) (by omega)) ?_
        rintro e w5 ⟨rfl, rfl⟩
        go_wp2_with fail
        go_ret
        refine ⟨?_, HL.out.below.trans ((((Below.refl _ _).alloc (by exact HL.out.below.size) _).trans (B3.out.mono HL.out.below.size)).setCell (p := ⟨g, k, none⟩) (show w.heap.size ≤ g from by have := HL.out.below.size; omega) _)⟩
        refine ret_bool ?_
        simpa [go_sem] using hne
  · have hb : 1048576 < len0 := by omega
    clear w0 hbig
    go_enter Try.func4, Try.ntmps4
    go_wp2_with fail
    go_ret
    exact ⟨rfl, Below.refl _ _⟩
end Go.Proofs.Ytandjjbfhcifiaa
