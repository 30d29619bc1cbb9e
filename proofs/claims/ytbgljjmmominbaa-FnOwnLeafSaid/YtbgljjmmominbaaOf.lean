/- Contracts: the leaves of entries; whose tickets; the entries about a ticket. -/
import Derived.Test.YtbgljjmmominbaaStr
import Derived.Test.YtbgljjmmominbaaLeafB
namespace Go.Proofs.Ytbgljjmmominbaa
set_option linter.unusedVariables false
open Go.RowKit Pl
theorem new_second (w : World) (x y : Obj) : ((w.alloc x).alloc y).heap[w.heap.size + 1]? = some y := by
  have := heap_alloc_new (w.alloc x) y
  simpa using this
def leafE (e : Ent) : Int := mixLeafI [e.k, e.t, e.u, e.p]
theorem leavesE_step (es : List Ent) (k : Nat) (h : k < es.length) : (es.take (k + 1)).map leafE = (es.take k).map leafE ++ [leafE (es.getD k e0)] := by
  rw [List.take_succ_eq_append_getElem h, List.map_append, getD_get es e0 h]; rfl
/-- of the first k tickets those that somebody has -/
def ofP (rs : List Orow) (who : Int) : Nat → List Int
  | 0 => []
  | k + 1 => if ((rs.getD k r0).u == who) = true then ofP rs who k ++ [(k : Int)] else ofP rs who k
def ownOf (rs : List Orow) (who : Int) : List Int := ofP rs who rs.length
theorem ofP_no (rs : List Orow) (who : Int) (k : Nat) (h : ((rs.getD k r0).u == who) = false) : ofP rs who (k + 1) = ofP rs who k := by rw [ofP, if_neg (by rw [h]; decide)]
theorem ofP_yes (rs : List Orow) (who : Int) (k : Nat) (h : ((rs.getD k r0).u == who) = true) : ofP rs who (k + 1) = ofP rs who k ++ [(k : Int)] := by rw [ofP, if_pos h]
theorem ofP_len (rs : List Orow) (who : Int) (k : Nat) : (ofP rs who k).length ≤ k := by
  induction k with
  | zero => simp [ofP]
  | succ k ih =>
    rw [ofP]
    split
    · simp; omega
    · omega
def aboutE (es : List Ent) (t : Int) : List Ent := es.filter fun e => e.t == t
theorem about_no (es : List Ent) (t : Int) (k : Nat) (h : k < es.length) (hu : ((es.getD k e0).t == t) = false) : aboutE (es.take (k + 1)) t = aboutE (es.take k) t := by
  rw [getD_get es e0 h] at hu
  unfold aboutE
  rw [List.take_succ_eq_append_getElem h, List.filter_append]
  simp [hu]
theorem about_yes (es : List Ent) (t : Int) (k : Nat) (h : k < es.length) (hu : ((es.getD k e0).t == t) = true) : aboutE (es.take (k + 1)) t = aboutE (es.take k) t ++ [es.getD k e0] := by
  rw [getD_get es e0 h] at hu ⊢
  unfold aboutE
  rw [List.take_succ_eq_append_getElem h, List.filter_append]
  simp [hu]
def OwnResE (w : World) (es : List Ent) (e : Ending) (w' : World) : Prop := ∃ A n cap, e = .returned (.slice A n cap) ∧ es.length = n ∧ OwnE w' w.heap.size A n cap es ∧ Below w.heap.size w w'
theorem wpList_pushE {ops : Array Oper} {rest : List Oper} {o : Oper} {a : Act} {Q : Exit → Act → World → Prop} {w : World} (hgd : o.guard = none) (s x : Operand)
    (ho : o.op = .call { callee := .builtin .append, args := #[s, x], argTypes := #[45, 45] }) (base : Nat) (A : Option Addr) (n cap : Nat) (ys : List Ent) (z : Ent) (g0 : Nat)
    (hs : a.eval s = .slice A n cap) (hx : a.eval x = .slice (some ⟨g0, 0, none⟩) 1 1) (hown : OwnE w base A n cap ys) (hnew : w.heap[g0]? = some (.cells #[.int .i64 z.k, .int .i64 z.t, .int .i64 z.u, .int .i64 z.p] 25 (0, 0))) (hn : n ≤ 2000000) (hbase : base ≤ w.heap.size)
    (h : ∀ g cap' w', OwnE w' base (some ⟨g, 0, none⟩) (n + 1) cap' (ys ++ [z]) → Below base w w' → w.grownBy w' (Value.slice A n cap).ownBlock → wpList Try.prog ops Q rest (a.put o.dst (.slice (some ⟨g, 0, none⟩) (n + 1) cap')) w') : wpList Try.prog ops Q (o :: rest) a w := by
  obtain ⟨i0, hi, hz0, hz1, hz2⟩ := info_parts info_ent
  refine wpList_append_lies w hgd s x 45 ho base 25 i0 (.agg #[.int .i64 0, .int .i64 0, .int .i64 0, .int .i64 0]) 4 32 Try.underlying45 hi hz0 hz1 hz2 rfl (by decide) _ n _ hs hown ⟨g0, 0, none⟩ 1 1 (encE z) hx rfl (World.news_of_block hnew) ?_ (by decide) (by unfold maxLen; omega) (by omega) hbase _ rfl ?_
  · intro u hu
    simp [encE] at hu
    rcases hu with rfl | rfl | rfl | rfl <;> rfl
  · intro g cap' w' h1 h2 _ _
    exact h g cap' w' (by rw [← flatE_snoc] at h1; exact h1) ((Below.refl _ _).grown h2 hbase (fun q hq => (World.ownsRow.lt hown q hq).1)) h2
theorem own_litE (w : World) (base : Nat) (hb : base ≤ w.heap.size) : OwnE (w.alloc (.cells #[] 25)) base (some ⟨w.heap.size, 0, none⟩) 0 0 [] := World.ownsRow_made w #[] 0 hb (by decide) rfl
set_option maxHeartbeats 1000000 in
theorem EntLeaves_any (A : Option Addr) (n c L : Nat) (es : List Ent) (w : World) (hl : es.length = n) (hr : RV w L A (flatE es)) (hn : n ≤ 1500000) : Calls Try.prog 46 #[.slice A n c] w (OwnRes w (es.map leafE)) := by
  have HL := Lib.hid hl
  have HR := Lib.hid hr
  clear hl hr
  go_enter Try.func46, Try.ntmps46
  go_wp2_with fail
  go_loopw [3, 8] (fun o i wr => ∃ (k : Nat) (A' : Option Addr) (c' : Nat), k ≤ n ∧ i = .int .i64 (k : Int) ∧ o = .slice A' k c' ∧ OwnI wr w.heap.size A' k c' ((es.take k).map leafE) ∧ Below w.heap.size w wr) (fun _ i _ => n - (intOf i).toNat)
  case atStart => exact ⟨0, none, 0, by omega, rfl, rfl, World.ownsRow_nil _ _ _ _, Below.refl _ _⟩
  case round =>
    obtain ⟨k, A', c', hk, rfl, rfl, ho, hb⟩ := hrel
    have O := Lib.hid ho
    have B := Lib.hid hb
    clear ho hb
    by_cases hlt : k < n
    · obtain ⟨b, o, rfl, _, hbs, h1, h2, h3, h4⟩ := (HR.out.below B.out).atE (j := k) (by rw [HL.out]; exact hlt)
      have hs := Lib.hid (leavesE_step es k (by rw [HL.out]; exact hlt))
      generalize es.getD k e0 = e1 at *
      go_wp2_with fail
      refine (EntLeaf_any _ _ _ _ _).mono ?_
      rintro e w2 ⟨rfl, hb2⟩
      have O2 := Lib.hid (owns_over (World.ownsRow.alloc O.out _) hb2)
      have B2 := Lib.hid (below_at (B.out.alloc B.out.size _) hb2)
      have hsz : w.heap.size ≤ w2.heap.size := B2.out.size
      clear hb2 h1 h2 h3 h4
      go_wp2_with (at_builtin; refine wpList_push rfl _ _ rfl w.heap.size A' k c' _ _ w2.heap.size rfl rfl (World.ownsRow.alloc O2.out _) (heap_alloc_new _ _) (by omega) (by simp; omega) ?_; intro g c2 w3 hown3 hb3 hg3; have O3 := Lib.hid hown3; have B3 := Lib.hid ((B2.out.alloc hsz _).trans hb3); clear hown3 hb3 hg3)
      go_roundw
      case rel => exact ⟨k + 1, _, c2, by omega, by go_num, rfl, by rw [hs.out]; exact O3.out, B3.out⟩
      case measure => simp [intOf]; omega
    · obtain rfl : k = n := by omega
      go_wp2_with fail
      go_ret
      have h1 := O.out
      rw [List.take_of_length_le (by rw [HL.out]; exact Nat.le_refl _)] at h1
      exact ⟨_, _, _, rfl, by rw [List.length_map]; exact HL.out, h1, B.out⟩
set_option maxHeartbeats 1000000 in
theorem sEntLeaves_any (A : Option Addr) (n c L : Nat) (es : List Ent) (w : World) (hl : es.length = n) (hr : RV w L A (flatE es)) (hn : n ≤ 1500000) : Calls Try.prog 45 #[.slice A n c] w (OwnRes w (es.map leafE)) := by
  have HL := Lib.hid hl
  have HR := Lib.hid hr
  clear hl hr
  go_enter Try.func45, Try.ntmps45
  go_wp2_with fail
  go_loopw [3, 4] (fun o i wr => ∃ (k : Nat) (A' : Option Addr) (c' : Nat), k ≤ n ∧ i = .int .i64 (k : Int) ∧ o = .slice A' k c' ∧ OwnI wr w.heap.size A' k c' ((es.take k).map leafE) ∧ Below w.heap.size w wr) (fun _ i _ => n - (intOf i).toNat)
  case atStart => exact ⟨0, _, _, by omega, rfl, rfl, own_lit w _ [] _ (Nat.le_refl _) rfl (by simp), (Below.refl _ _).alloc (Nat.le_refl _) _⟩
  case round =>
    obtain ⟨k, A', c', hk, rfl, rfl, ho, hb⟩ := hrel
    have O := Lib.hid ho
    have B := Lib.hid hb
    clear ho hb
    by_cases hlt : k < n
    · obtain ⟨b, o, rfl, _, hbs, h1, h2, h3, h4⟩ := (HR.out.below B.out).atE (j := k) (by rw [HL.out]; exact hlt)
      have hs := Lib.hid (leavesE_step es k (by rw [HL.out]; exact hlt))
      generalize es.getD k e0 = e1 at *
      go_wp2_with fail
      refine (sEntLeaf_any _ _ _ _ _).mono ?_
      rintro e w2 ⟨rfl, hb2⟩
      have O2 := Lib.hid (owns_over (O.out) hb2)
      have B2 := Lib.hid (below_at (B.out) hb2)
      have hsz : w.heap.size ≤ w2.heap.size := B2.out.size
      clear hb2 h1 h2 h3 h4
      go_wp2_with (at_builtin; refine wpList_push rfl _ _ rfl w.heap.size A' k c' _ _ w2.heap.size rfl rfl (World.ownsRow.alloc O2.out _) (heap_alloc_new _ _) (by omega) (by simp; omega) ?_; intro g c2 w3 hown3 hb3 hg3; have O3 := Lib.hid hown3; have B3 := Lib.hid ((B2.out.alloc hsz _).trans hb3); clear hown3 hb3 hg3)
      go_roundw
      case rel => exact ⟨k + 1, _, c2, by omega, by go_num, rfl, by rw [hs.out]; exact O3.out, B3.out⟩
      case measure => simp [intOf]; omega
    · obtain rfl : k = n := by omega
      go_wp2_with fail
      go_ret
      have h1 := O.out
      rw [List.take_of_length_le (by rw [HL.out]; exact Nat.le_refl _)] at h1
      exact ⟨_, _, _, rfl, by rw [List.length_map]; exact HL.out, h1, B.out⟩
set_option maxHeartbeats 1000000 in
theorem OwnOf_any (A : Option Addr) (n c L : Nat) (rs : List Orow) (who : Int) (w : World) (hl : rs.length = n) (hr : RV w L A (flatR rs)) (hn : n ≤ 1500000) : Calls Try.prog 40 #[.slice A n c, .int .i64 who] w (OwnRes w (ownOf rs who)) := by
  have HL := Lib.hid hl
  have HR := Lib.hid hr
  clear hl hr
  go_enter Try.func40, Try.ntmps40
  go_wp2_with fail
  go_loopw [5, 10] (fun o i wr => ∃ (k m : Nat) (A' : Option Addr) (c' : Nat), k ≤ n ∧ m ≤ k ∧ i = .int .i64 (k : Int) ∧ o = .slice A' m c' ∧ OwnI wr w.heap.size A' m c' (ofP rs who k) ∧ Below w.heap.size w wr) (fun _ i _ => n - (intOf i).toNat)
  case atStart => exact ⟨0, 0, none, 0, by omega, by omega, rfl, rfl, World.ownsRow_nil _ _ _ _, Below.refl _ _⟩
  case round =>
    obtain ⟨k, m, A', c', hk, hm, rfl, rfl, ho, hb⟩ := hrel
    have O := Lib.hid ho
    have B := Lib.hid hb
    clear ho hb
    by_cases hlt : k < n
    · obtain ⟨b, o, rfl, _, hbs, h1, h2, h3⟩ := (HR.out.below B.out).atR (j := k) (by rw [HL.out]; exact hlt)
      have hsz : w.heap.size ≤ wr.heap.size := B.out.size
      cases hu : (rs.getD k r0).u == who
      · have hs := Lib.hid (ofP_no rs who k hu)
        generalize rs.getD k r0 = e1 at *
        go_wp2_with fail
        go_roundw
        case rel => exact ⟨k + 1, m, A', c', by omega, by omega, by go_num, rfl, by rw [hs.out]; exact World.ownsRow.alloc O.out _, B.out.alloc hsz _⟩
        case measure => simp [intOf]; omega
      · have hs := Lib.hid (ofP_yes rs who k hu)
        generalize rs.getD k r0 = e1 at *
        have O2 := Lib.hid (World.ownsRow.alloc (World.ownsRow.alloc O.out (.cells #[.int .i64 e1.u, .int .i64 e1.f, .bool e1.b] 31)) (.cells #[.int .i64 (k : Int)] 3))
        have hnw := Lib.hid (new_second wr (.cells #[.int .i64 e1.u, .int .i64 e1.f, .bool e1.b] 31) (.cells #[.int .i64 (k : Int)] 3))
        go_wp2_with (at_builtin; refine wpList_push rfl _ _ rfl w.heap.size A' m c' _ _ (wr.heap.size + 1) rfl rfl O2.out hnw.out (by omega) (by simp; omega) ?_; intro g c2 w3 hown3 hb3 hg3; have O3 := Lib.hid hown3; have B3 := Lib.hid (((B.out.alloc hsz _).alloc (by simp; omega) _).trans hb3); clear hown3 hb3 hg3)
        go_roundw
        case rel => exact ⟨k + 1, m + 1, _, c2, by omega, by omega, by go_num, rfl, by rw [hs.out]; exact O3.out, B3.out⟩
        case measure => simp [intOf]; omega
    · obtain rfl : k = n := by omega
      go_wp2_with fail
      go_ret
      have h1 := O.out
      exact ⟨_, _, _, rfl, by rw [ownOf, HL.out]; exact own_len h1, by rw [ownOf, HL.out]; exact h1, B.out⟩
set_option maxHeartbeats 1000000 in
theorem sOwnOf_any (A : Option Addr) (n c L : Nat) (rs : List Orow) (who : Int) (w : World) (hl : rs.length = n) (hr : RV w L A (flatR rs)) (hn : n ≤ 1500000) : Calls Try.prog 39 #[.slice A n c, .int .i64 who] w (OwnRes w (ownOf rs who)) := by
  have HL := Lib.hid hl
  have HR := Lib.hid hr
  clear hl hr
  go_enter Try.func39, Try.ntmps39
  go_wp2_with fail
  go_loopw [5, 6] (fun o i wr => ∃ (k m : Nat) (A' : Option Addr) (c' : Nat), k ≤ n ∧ m ≤ k ∧ i = .int .i64 (k : Int) ∧ o = .slice A' m c' ∧ OwnI wr w.heap.size A' m c' (ofP rs who k) ∧ Below w.heap.size w wr) (fun _ i _ => n - (intOf i).toNat)
  case atStart => exact ⟨0, 0, _, _, by omega, by omega, rfl, rfl, own_lit w _ [] _ (Nat.le_refl _) rfl (by simp), (Below.refl _ _).alloc (Nat.le_refl _) _⟩
  case round =>
    obtain ⟨k, m, A', c', hk, hm, rfl, rfl, ho, hb⟩ := hrel
    have O := Lib.hid ho
    have B := Lib.hid hb
    clear ho hb
    by_cases hlt : k < n
    · obtain ⟨b, o, rfl, _, hbs, h1, h2, h3⟩ := (HR.out.below B.out).atR (j := k) (by rw [HL.out]; exact hlt)
      have hsz : w.heap.size ≤ wr.heap.size := B.out.size
      cases hu : (rs.getD k r0).u == who
      · have hs := Lib.hid (ofP_no rs who k hu)
        generalize rs.getD k r0 = e1 at *
        go_wp2_with fail
        go_roundw
        case rel => exact ⟨k + 1, m, A', c', by omega, by omega, by go_num, rfl, by rw [hs.out]; exact O.out, B.out⟩
        case measure => simp [intOf]; omega
      · have hs := Lib.hid (ofP_yes rs who k hu)
        generalize rs.getD k r0 = e1 at *
        have O2 := Lib.hid (World.ownsRow.alloc O.out (.cells #[.int .i64 (k : Int)] 3))
        go_wp2_with (at_builtin; refine wpList_push rfl _ _ rfl w.heap.size A' m c' _ _ _ rfl rfl O2.out (heap_alloc_new _ _) (by omega) (by simp; omega) ?_; intro g c2 w3 hown3 hb3 hg3; have O3 := Lib.hid hown3; have B3 := Lib.hid ((B.out.alloc hsz _).trans hb3); clear hown3 hb3 hg3)
        go_roundw
        case rel => exact ⟨k + 1, m + 1, _, c2, by omega, by omega, by go_num, rfl, by rw [hs.out]; exact O3.out, B3.out⟩
        case measure => simp [intOf]; omega
    · obtain rfl : k = n := by omega
      go_wp2_with fail
      go_ret
      have h1 := O.out
      exact ⟨_, _, _, rfl, by rw [ownOf, HL.out]; exact own_len h1, by rw [ownOf, HL.out]; exact h1, B.out⟩
set_option maxHeartbeats 1000000 in
theorem EntAbout_any (A : Option Addr) (n c L : Nat) (es : List Ent) (t : Int) (w : World) (hl : es.length = n) (hr : RV w L A (flatE es)) (hn : n ≤ 1500000) : Calls Try.prog 35 #[.slice A n c, .int .i64 t] w (OwnResE w (aboutE es t)) := by
  have HL := Lib.hid hl
  have HR := Lib.hid hr
  clear hl hr
  go_enter Try.func35, Try.ntmps35
  go_wp2_with fail
  go_loopw [5, 10] (fun o i wr => ∃ (k m : Nat) (A' : Option Addr) (c' : Nat), k ≤ n ∧ m ≤ k ∧ i = .int .i64 (k : Int) ∧ o = .slice A' m c' ∧ OwnE wr w.heap.size A' m c' (aboutE (es.take k) t) ∧ Below w.heap.size w wr) (fun _ i _ => n - (intOf i).toNat)
  case atStart => exact ⟨0, 0, none, 0, by omega, by omega, rfl, rfl, World.ownsRow_nil _ _ _ _, Below.refl _ _⟩
  case round =>
    obtain ⟨k, m, A', c', hk, hm, rfl, rfl, ho, hb⟩ := hrel
    have O := Lib.hid ho
    have B := Lib.hid hb
    clear ho hb
    by_cases hlt : k < n
    · obtain ⟨b, o, rfl, _, hbs, h1, h2, h3, h4⟩ := (HR.out.below B.out).atE (j := k) (by rw [HL.out]; exact hlt)
      have hsz : w.heap.size ≤ wr.heap.size := B.out.size
      have hkl : k < es.length := by rw [HL.out]; exact hlt
      cases hu : (es.getD k e0).t == t
      · have hs := Lib.hid (about_no es t k hkl hu)
        clear hkl
        generalize es.getD k e0 = e1 at *
        go_wp2_with fail
        go_roundw
        case rel => exact ⟨k + 1, m, A', c', by omega, by omega, by go_num, rfl, by rw [hs.out]; exact World.ownsRow.alloc O.out _, B.out.alloc hsz _⟩
        case measure => simp [intOf]; omega
      · have hs := Lib.hid (about_yes es t k hkl hu)
        clear hkl
        generalize es.getD k e0 = e1 at *
        have O2 := Lib.hid (World.ownsRow.alloc (World.ownsRow.alloc O.out (.cells #[.int .i64 e1.k, .int .i64 e1.t, .int .i64 e1.u, .int .i64 e1.p] 25)) (.cells #[.int .i64 e1.k, .int .i64 e1.t, .int .i64 e1.u, .int .i64 e1.p] 25))
        have hnw := Lib.hid (new_second wr (.cells #[.int .i64 e1.k, .int .i64 e1.t, .int .i64 e1.u, .int .i64 e1.p] 25) (.cells #[.int .i64 e1.k, .int .i64 e1.t, .int .i64 e1.u, .int .i64 e1.p] 25))
        go_wp2_with (at_builtin; refine wpList_pushE rfl _ _ rfl w.heap.size A' m c' _ e1 (wr.heap.size + 1) rfl rfl O2.out hnw.out (by omega) (by simp; omega) ?_; intro g c2 w3 hown3 hb3 hg3; have O3 := Lib.hid hown3; have B3 := Lib.hid (((B.out.alloc hsz _).alloc (by simp; omega) _).trans hb3); clear hown3 hb3 hg3)
        go_roundw
        case rel => exact ⟨k + 1, m + 1, _, c2, by omega, by omega, by go_num, rfl, by rw [hs.out]; exact O3.out, B3.out⟩
        case measure => simp [intOf]; omega
    · obtain rfl : k = n := by omega
      go_wp2_with fail
      go_ret
      have h1 := O.out
      rw [List.take_of_length_le (by rw [HL.out]; exact Nat.le_refl _)] at h1
      exact ⟨_, _, _, rfl, ownE_len h1, h1, B.out⟩
set_option maxHeartbeats 1000000 in
theorem sEntAbout_any (A : Option Addr) (n c L : Nat) (es : List Ent) (t : Int) (w : World) (hl : es.length = n) (hr : RV w L A (flatE es)) (hn : n ≤ 1500000) : Calls Try.prog 33 #[.slice A n c, .int .i64 t] w (OwnResE w (aboutE es t)) := by
  have HL := Lib.hid hl
  have HR := Lib.hid hr
  clear hl hr
  go_enter Try.func33, Try.ntmps33
  go_wp2_with fail
  go_loopw [5, 6] (fun o i wr => ∃ (k m : Nat) (A' : Option Addr) (c' : Nat), k ≤ n ∧ m ≤ k ∧ i = .int .i64 (k : Int) ∧ o = .slice A' m c' ∧ OwnE wr w.heap.size A' m c' (aboutE (es.take k) t) ∧ Below w.heap.size w wr) (fun _ i _ => n - (intOf i).toNat)
  case atStart => exact ⟨0, 0, _, _, by omega, by omega, rfl, rfl, own_litE w _ (Nat.le_refl _), (Below.refl _ _).alloc (Nat.le_refl _) _⟩
  case round =>
    obtain ⟨k, m, A', c', hk, hm, rfl, rfl, ho, hb⟩ := hrel
    have O := Lib.hid ho
    have B := Lib.hid hb
    clear ho hb
    by_cases hlt : k < n
    · obtain ⟨b, o, rfl, _, hbs, h1, h2, h3, h4⟩ := (HR.out.below B.out).atE (j := k) (by rw [HL.out]; exact hlt)
      have hsz : w.heap.size ≤ wr.heap.size := B.out.size
      have hkl : k < es.length := by rw [HL.out]; exact hlt
      cases hu : (es.getD k e0).t == t
      · have hs := Lib.hid (about_no es t k hkl hu)
        clear hkl
        generalize es.getD k e0 = e1 at *
        go_wp2_with fail
        go_roundw
        case rel => exact ⟨k + 1, m, A', c', by omega, by omega, by go_num, rfl, by rw [hs.out]; exact O.out, B.out⟩
        case measure => simp [intOf]; omega
      · have hs := Lib.hid (about_yes es t k hkl hu)
        clear hkl
        generalize es.getD k e0 = e1 at *
        have O2 := Lib.hid (World.ownsRow.alloc O.out (.cells #[.int .i64 e1.k, .int .i64 e1.t, .int .i64 e1.u, .int .i64 e1.p] 25))
        go_wp2_with (at_builtin; refine wpList_pushE rfl _ _ rfl w.heap.size A' m c' _ e1 _ rfl rfl O2.out (heap_alloc_new _ _) (by omega) (by simp; omega) ?_; intro g c2 w3 hown3 hb3 hg3; have O3 := Lib.hid hown3; have B3 := Lib.hid ((B.out.alloc hsz _).trans hb3); clear hown3 hb3 hg3)
        go_roundw
        case rel => exact ⟨k + 1, m + 1, _, c2, by omega, by omega, by go_num, rfl, by rw [hs.out]; exact O3.out, B3.out⟩
        case measure => simp [intOf]; omega
    · obtain rfl : k = n := by omega
      go_wp2_with fail
      go_ret
      have h1 := O.out
      rw [List.take_of_length_le (by rw [HL.out]; exact Nat.le_refl _)] at h1
      exact ⟨_, _, _, rfl, ownE_len h1, h1, B.out⟩
end Go.Proofs.Ytbgljjmmominbaa
