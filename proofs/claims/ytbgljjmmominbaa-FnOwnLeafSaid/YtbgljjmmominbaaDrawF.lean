/- Contracts: entries drawn (reference, layer 20). -/
import Derived.Test.YtbgljjmmominbaaLog
namespace Go.Proofs.Ytbgljjmmominbaa
set_option linter.unusedVariables false
open Go.RowKit Pl
theorem Bytes.alloc {w : World} {A : Option Addr} {n c : Nat} {bs : List Int} (h : Bytes w A n c bs) (o : Obj) : Bytes (w.alloc o) A n c bs := ⟨h.len, h.cap, h.reads.alloc o, h.rng⟩
/-- entries in new memory -/
structure Ents_ (w w' : World) (A : Option Addr) (n c : Nat) (es : List Ent) : Prop where
  len : es.length = n
  few : n ≤ 100
  cap : n ≤ c
  reads : RV w' w.heap.size A (flatE es)
  below : Below w.heap.size w w'
def EntsRes (w : World) (e : Ending) (w' : World) : Prop := ∃ A n c es, e = .returned (.slice A n c) ∧ Ents_ w w' A n c es
/-- entries in new memory, and one number from lo on, hi at most -/
def EntsNum (w : World) (lo hi : Int) (e : Ending) (w' : World) : Prop := ∃ (A : Option Addr) (n c : Nat) (es : List Ent) (i : Int), e = .returned (.tuple #[.slice A n c, .int .i64 i]) ∧ lo ≤ i ∧ i ≤ hi ∧ Ents_ w w' A n c es
theorem ents_of_log {w w1 w2 : World} {A : Option Addr} {n c : Nat} {es : List Ent} (hb1 : Below w.heap.size w w1) (hl : es.length = n) (hn : n ≤ 100) (ho : OwnE w2 w1.heap.size A n c es) (hg : w1.grownBy w2 (some w.heap.size)) : Ents_ w w2 A n c es :=
  ⟨hl, hn, owns_cap ho, (RV.of_own ho).less hb1.size, hb1.trans (below_of_grown hg hb1.size)⟩
set_option maxHeartbeats 400000 in
theorem DrawEntLeaves_any (w : World) (A : Option Addr) (n c : Nat) (bs : List Int) (h : Bytes w A n c bs) (hn : n ≤ 140737488351232) : Calls Try.prog 61 #[.slice A n c] w (EntsRes w) := by
  go_enter Try.func61, Try.ntmps61
  go_wp2_with fail
  refine (open_any _ A n c bs h hn).mono ?_
  rintro e w1 ⟨rfl, hr1, hb1⟩
  go_wp2_with fail
  refine (log_any _ _ _ _ hr1 (by omega) (by omega) (by omega)).mono ?_
  rintro e w2 ⟨A2, n2, c2, es, rfl, hl, hn2, ho, hr2, hg2⟩
  have L := Lib.hid (ents_of_log hb1 hl hn2 ho hg2)
  clear hl hn2 ho hr2 hg2
  go_wp2_with fail
  go_ret
  exact ⟨_, _, _, es, rfl, L.out⟩
set_option maxHeartbeats 400000 in
theorem DrawOwnFold_any (w : World) (A : Option Addr) (n c : Nat) (bs : List Int) (h : Bytes w A n c bs) (hn : n ≤ 140737488351232) : Calls Try.prog 65 #[.slice A n c] w (EntsRes w) := by
  go_enter Try.func65, Try.ntmps65
  go_wp2_with fail
  refine (open_any _ A n c bs h hn).mono ?_
  rintro e w1 ⟨rfl, hr1, hb1⟩
  go_wp2_with fail
  refine (log_any _ _ _ _ hr1 (by omega) (by omega) (by omega)).mono ?_
  rintro e w2 ⟨A2, n2, c2, es, rfl, hl, hn2, ho, hr2, hg2⟩
  have L := Lib.hid (ents_of_log hb1 hl hn2 ho hg2)
  clear hl hn2 ho hr2 hg2
  go_wp2_with fail
  go_ret
  exact ⟨_, _, _, es, rfl, L.out⟩
set_option maxHeartbeats 400000 in
theorem DrawEntAbout_any (w : World) (A : Option Addr) (n c : Nat) (bs : List Int) (h : Bytes w A n c bs) (hn : n ≤ 140737488351232) : Calls Try.prog 58 #[.slice A n c] w (EntsNum w (-1) 8) := by
  go_enter Try.func58, Try.ntmps58
  go_wp2_with fail
  refine (open_any _ A n c bs h hn).mono ?_
  rintro e w1 ⟨rfl, hr1, hb1⟩
  have hs1 := hb1.size
  have hlt1 := hr1.lt
  go_wp2_with fail
  refine (log_any _ _ _ _ hr1 (by omega) (by omega) (by omega)).mono ?_
  rintro e w2 ⟨A2, n2, c2, es, rfl, hl, hn2, ho, hr2, hg2⟩
  have HO := Lib.hid ho
  have HG := Lib.hid hg2
  have HB := Lib.hid hb1
  have HL := Lib.hid hl
  clear hl ho hg2 hb1
  go_wp2_with fail
  refine (pick_any _ _ _ _ hr2 (by omega) (by omega)).mono ?_
  rintro e w3 ⟨u, rfl, hu1, _, hr3, hg3⟩
  have hu := hu1 (by omega)
  have HO3 := Lib.hid (owns_read HO.out hg3 hlt1)
  have HG3 := Lib.hid (grownBy_trans HG.out hg3)
  clear hu1 hr2 hg3 HO HG
  go_wp2_with fail
  refine (pick_any _ _ _ _ hr3 (by omega) (by omega)).mono ?_
  rintro e w4 ⟨v, rfl, hv1, _, hr4, hg4⟩
  have hv := hv1 (by omega)
  have HO4 := Lib.hid (owns_read HO3.out hg4 hlt1)
  have HG4 := Lib.hid (grownBy_trans HG3.out hg4)
  clear hv1 hr3 hg4 HO3 HG3
  have L := Lib.hid (ents_of_log HB.out HL.out hn2 HO4.out HG4.out)
  go_wp2_with fail
  go_ret2
  exact ⟨_, _, _, es, _, rfl, by omega, by omega, L.out⟩
/-- an entry, whichever -/
def EntAny (w : World) (e : Ending) (w' : World) : Prop := ∃ k t u p : Int, e = .returned (.agg #[.int .i64 k, .int .i64 t, .int .i64 u, .int .i64 p]) ∧ Below w.heap.size w w'
theorem drawn_results (tmps : Array Value) (W : World) (H : Nat) (k t u p : Int) (hp : tmps[2]?.getD undef = .pointer (some ⟨H, 0, none⟩)) (y0 : W.cell? ⟨H, 0, none⟩ = some (.int .i64 k)) (y1 : W.cell? ⟨H, 1, none⟩ = some (.int .i64 t)) (y2 : W.cell? ⟨H, 2, none⟩ = some (.int .i64 u)) (y3 : W.cell? ⟨H, 3, none⟩ = some (.int .i64 p)) :
    (results Try.f60 tmps).run Try.prog W = .ok (.agg #[.int .i64 k, .int .i64 t, .int .i64 u, .int .i64 p]) W := by
  simp [results, Try.results60, go_sem, hp, y0, y1, y2, y3]
set_option maxHeartbeats 1000000 in
theorem DrawEntLeaf_any (w : World) (A : Option Addr) (n c : Nat) (bs : List Int) (h : Bytes w A n c bs) (hn : n ≤ 140737488351232) : Calls Try.prog 60 #[.slice A n c] w (EntAny w) := by
  have RB := Lib.hid (EBox.new w 0 0 0 0)
  go_enter Try.func60, Try.ntmps60
  go_wp2_with fail
  refine (open_any _ A n c bs (h.alloc _) hn).mono ?_
  rintro e w1 ⟨rfl, hr1, hb1⟩
  have R1 := Lib.hid (RB.out.below hb1)
  have B1 := Lib.hid (((Below.refl w.heap.size w).alloc (Nat.le_refl _) (.cells #[.int .i64 0, .int .i64 0, .int .i64 0, .int .i64 0] 25)).trans (hb1.mono (by simp)))
  have hlt1 := hr1.lt
  have hs : (w.alloc (.cells #[.int .i64 0, .int .i64 0, .int .i64 0, .int .i64 0] 25)).heap.size = w.heap.size + 1 := by simp
  rw [hs] at hr1 hlt1
  clear hb1 RB h
  go_wp2_with fail
  refine (entry_any _ _ _ _ hr1 (by omega) (by omega) (by omega)).mono ?_
  rintro e w2 ⟨k, t, u, p, rfl, hr2, hg2⟩
  have R2 := Lib.hid (R1.out.read hg2 (by omega))
  have B2 := Lib.hid (B1.out.trans ((below_of_grown hg2 (Nat.le_of_lt hlt1)).mono (by omega)))
  clear hr2 hg2 R1 B1 hs hr1
  obtain ⟨f0, f1, f2, f3⟩ := R2.out.free
  obtain ⟨z0, z1, z2, z3⟩ := R2.out.cells
  have RF := Lib.hid ((((R2.out.set0 k).set1 t).set2 u).set3 p)
  go_wp2_with fail
  obtain ⟨y0, y1, y2, y3⟩ := RF.out.cells
  refine bodyPost_ret (drawn_results _ _ _ _ _ _ _ (by rfl) y0 y1 y2 y3) rfl ?_
  exact ⟨_, _, _, _, rfl, B2.out.trans (((((Below.refl _ _).setCell (p := ⟨w.heap.size, 0, none⟩) (Nat.le_refl _) _).setCell (p := ⟨w.heap.size, 1, none⟩) (Nat.le_refl _) _).setCell (p := ⟨w.heap.size, 2, none⟩) (Nat.le_refl _) _).setCell (p := ⟨w.heap.size, 3, none⟩) (Nat.le_refl _) _)⟩
end Go.Proofs.Ytbgljjmmominbaa
