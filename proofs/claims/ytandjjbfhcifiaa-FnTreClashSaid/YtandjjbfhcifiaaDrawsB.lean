/- Contracts: what the laws on proofs draw (reference, layer 20). -/
import Derived.Test.YtandjjbfhcifiaaShown
namespace Go.Proofs.Ytandjjbfhcifiaa
set_option linter.unusedVariables false
open Go.RowKit Pl

theorem Shown.less {B C : Nat} {w' : World} {A : Option Addr} {n c : Nat} {xs : List Int} {i : Int} {A2 : Option Addr} {m c2 : Nat} {p : List Int} (h : Shown B w' A n c xs i A2 m c2 p) (hC : C ≤ B) : Shown C w' A n c xs i A2 m c2 p :=
  ⟨h.len, h.few, h.cap, h.reads.less hC, h.plen, h.pfew, h.pcap, h.preads.less hC, h.i0, h.i1⟩
def ClashDraw (w : World) (e : Ending) (w' : World) : Prop :=
  ∃ (A : Option Addr) (n c : Nat) (xs : List Int) (i leaf : Int) (A2 : Option Addr) (m c2 : Nat) (p : List Int),
    e = .returned (.tuple #[.slice A n c, .int .i64 i, .int .i64 leaf, .slice A2 m c2]) ∧ Shown w.heap.size w' A n c xs i A2 m c2 p ∧ Below w.heap.size w w'
theorem DrawTreClash_any (w : World) (A : Option Addr) (n c : Nat) (bs : List Int) (h : Bytes w A n c bs) (hn : n ≤ 140737488351232) : Calls Try.prog 45 #[.slice A n c] w (ClashDraw w) := by
  go_enter Try.func45, Try.ntmps45
  go_wp2_with fail
  refine (open_any _ A n c bs h hn).mono ?_
  rintro e w1 ⟨rfl, hr1, hb1⟩
  go_wp2_with fail
  refine (shown_any _ _ _ hr1 (by omega)).mono ?_
  rintro e w2 ⟨A2, n2, c2, xs, i, leaf, A3, m, c3, p, rfl, hs, hr2, hg2⟩
  have S := Lib.hid (hs.less hb1.size)
  have B := Lib.hid (hb1.trans (below_of_grown hg2 hb1.size))
  clear hs hr2 hg2 hr1 hb1
  go_wp2_with fail
  refine bodyPost_ret (results_tmp4 rfl _ _ _) rfl ?_
  exact ⟨_, _, _, xs, _, _, _, _, _, p, rfl, S.out, B.out⟩
def CheckDraw (w : World) (e : Ending) (w' : World) : Prop :=
  ∃ (r : Int) (n : Nat) (i leaf : Int) (A2 : Option Addr) (m c2 : Nat) (p : List Int),
    e = .returned (.tuple #[.int .i64 r, .int .i64 (n : Int), .int .i64 i, .int .i64 leaf, .slice A2 m c2]) ∧ p.length = m ∧ m ≤ 100 ∧ m ≤ c2 ∧ n ≤ 100 ∧ RI w' w.heap.size A2 p ∧ Below w.heap.size w w'
set_option maxHeartbeats 1000000 in
theorem DrawTreCheck_any (w : World) (A : Option Addr) (n c : Nat) (bs : List Int) (h : Bytes w A n c bs) (hn : n ≤ 140737488351232) : Calls Try.prog 40 #[.slice A n c] w (CheckDraw w) := by
  go_enter Try.func40, Try.ntmps40
  go_wp2_with fail
  refine (open_any _ A n c bs h hn).mono ?_
  rintro e w1 ⟨rfl, hr1, hb1⟩
  go_wp2_with fail
  refine (shown_any _ _ _ hr1 (by omega)).mono ?_
  rintro e w2 ⟨A2, n2, c2, xs, i, leaf, A3, m, c3, p, rfl, hs, hr2, hg2⟩
  have S := Lib.hid (hs.less hb1.size)
  have B := Lib.hid (hb1.trans (below_of_grown hg2 hb1.size))
  have R := Lib.hid hr2
  have hgl := hr1.lt
  have hgs := hb1.size
  have P2 := Lib.hid hs.preads
  have hm := hs.pfew
  have hn2 := hs.few
  have hs1 : w1.heap.size ≤ w2.heap.size := hg2.size
  clear hs hr2 hg2 hr1 hb1
  go_wp2_with fail
  refine (sTreRoot_any _ _ _ _ xs _ S.out.len S.out.cap S.out.reads (by omega)).mono ?_
  rintro e w3 ⟨rfl, k, rfl⟩
  go_wp2_with fail
  refine (odd_any _ _ _ _ (R.out.drewN _) (by omega) (by omega) (by omega)).mono ?_
  rintro e w4 ⟨b, rfl, hr4, hg4⟩
  have B4 := Lib.hid ((below_drewN B.out k).trans (below_of_grown hg4 (by simp; omega)))
  have P4 := Lib.hid (RK.kept (P2.out.drewN k) hg4 hgl)
  have R4 := Lib.hid hr4
  clear hr4 hg4
  cases b
  · go_wp2_with fail
    refine bodyPost_ret (results_tmp5 rfl _ _ _) rfl ?_
    exact ⟨_, _, _, _, _, _, _, p, rfl, S.out.plen, by omega, S.out.pcap, by omega, P4.out.less hgs, B4.out⟩
  · go_wp2_with fail
    refine (mix_any _ _ _ _ R4.out (by omega) (by omega) (by omega)).mono ?_
    rintro e w5 ⟨y, rfl, hr5, hg5⟩
    have hs4 : w.heap.size ≤ w4.heap.size := B4.out.size
    have B5 := Lib.hid (B4.out.trans (below_of_grown hg5 hs4))
    have P5 := Lib.hid (P4.out.kept hg5 hgl)
    clear hr5 hg5
    go_wp2_with fail
    refine bodyPost_ret (results_tmp5 rfl _ _ _) rfl ?_
    exact ⟨_, _, _, _, _, _, _, p, rfl, S.out.plen, by omega, S.out.pcap, by omega, P5.out.less hgs, B5.out⟩
def UpDraw (w : World) (e : Ending) (w' : World) : Prop :=
  ∃ (n i leaf : Int) (A2 : Option Addr) (m c2 : Nat) (p : List Int),
    e = .returned (.tuple #[.int .i64 n, .int .i64 i, .int .i64 leaf, .slice A2 m c2]) ∧ p.length = m ∧ m ≤ 100 ∧ m ≤ c2 ∧ 0 ≤ n ∧ n ≤ 101 ∧ -1 ≤ i ∧ i ≤ 200 ∧ RI w' w.heap.size A2 p ∧ Below w.heap.size w w'
/-- on the way: the reader, the proof, the frame -/
structure WayP (w : World) (g L P : Nat) (w' : World) (A : Option Addr) (p : List Int) : Prop where
  reads : RI w' L A p
  rd : Rd w' g P
  below : Below w.heap.size w w'
theorem WayP.step {w w1 w2 : World} {g L P Q : Nat} {A : Option Addr} {p : List Int} (h : WayP w g L P w1 A p) (hgl : g < L) (hgs : w.heap.size ≤ g) (hr : Rd w2 g Q) (hg : w1.grownBy w2 (some g)) : WayP w g L Q w2 A p :=
  ⟨h.reads.kept hg hgl, hr, h.below.trans ⟨hg.os, hg.tape, hg.output, hg.size, fun k hk => hg.block k (by have := h.below.size; omega) (by simp; omega)⟩⟩
theorem WayP.alloc {w w1 : World} {g L P : Nat} {A : Option Addr} {p : List Int} (h : WayP w g L P w1 A p) (o : Obj) : WayP w g L P (w1.alloc o) A p :=
  ⟨h.reads.alloc o, h.rd.alloc o, h.below.alloc h.below.size o⟩
set_option maxHeartbeats 2000000 in
theorem DrawTreUp_any (w : World) (A : Option Addr) (n c : Nat) (bs : List Int) (h : Bytes w A n c bs) (hn : n ≤ 140737488351232) : Calls Try.prog 43 #[.slice A n c] w (UpDraw w) := by
  go_enter Try.func43, Try.ntmps43
  go_wp2_with fail
  refine (open_any _ A n c bs h hn).mono ?_
  rintro e w1 ⟨rfl, hr1, hb1⟩
  go_wp2_with fail
  refine (shown_any _ _ _ hr1 (by omega)).mono ?_
  rintro e w2 ⟨A2, n2, c2, xs, i, leaf, A3, m, c3, p, rfl, hs, hr2, hg2⟩
  have W2 := Lib.hid (show WayP w w.heap.size w1.heap.size _ w2 A3 p from ⟨hs.preads, hr2, hb1.trans (below_of_grown hg2 hb1.size)⟩)
  have hgl := hr1.lt
  have hgs := hb1.size
  have HP := Lib.hid hs.plen
  have hpc := hs.pcap
  have hm := hs.pfew
  have hn2 := hs.few
  have i0 := hs.i0
  have i1 := hs.i1
  clear hs hr2 hg2 hr1 hb1
  go_wp2_with fail
  refine (odd_any _ _ _ _ W2.out.rd (by omega) (by omega) (by omega)).mono ?_
  rintro e w3 ⟨b, rfl, hr3, hg3⟩
  have W3 := Lib.hid (W2.out.step hgl (Nat.le_refl _) hr3 hg3)
  clear hr3 hg3 W2
  cases b
  · go_wp2_with fail
    refine (odd_any _ _ _ _ W3.out.rd (by omega) (by omega) (by omega)).mono ?_
    rintro e w4 ⟨b, rfl, hr4, hg4⟩
    have W4 := Lib.hid (W3.out.step hgl (Nat.le_refl _) hr4 hg4)
    clear hr4 hg4 W3
    cases b
    · go_wp2_with fail
      refine bodyPost_ret (results_tmp4 rfl _ _ _) rfl ?_
      exact ⟨_, _, _, _, _, _, p, rfl, HP.out, by omega, hpc, by omega, by omega, by omega, by omega, W4.out.reads.less hgs, W4.out.below⟩
    · go_wp2_with fail
      refine (pick_any _ _ _ _ (W4.out.rd.alloc _) (by omega) (by omega)).mono ?_
      rintro e w5 ⟨x, rfl, hx1, _, hr5, hg5⟩
      have hx := hx1 (by omega)
      have hs4 := W4.out.below.size
      obtain ⟨z, hz, hmz⟩ := table_at [-1, (n2 : Int)] _ rfl (block_kept (new_block w4 _) hg5 (by have := W4.out.rd.lt; omega)) (v := x) (by simp; omega)
      have hz2 : -1 ≤ z ∧ z ≤ 100 := by simp at hmz; omega
      have W5 := Lib.hid ((W4.out.alloc _).step hgl (Nat.le_refl _) hr5 hg5)
      clear hr5 hg5 hx1 hmz
      go_wp2_with fail
      refine bodyPost_ret (results_tmp4 rfl _ _ _) rfl ?_
      exact ⟨_, _, _, _, _, _, p, rfl, HP.out, by omega, hpc, by omega, by omega, by omega, by omega, W5.out.reads.less hgs, W5.out.below⟩
  · go_wp2_with fail
    refine (pick_any _ _ _ _ (W3.out.rd.alloc _) (by omega) (by omega)).mono ?_
    rintro e w5 ⟨x, rfl, hx1, _, hr5, hg5⟩
    have hx := hx1 (by omega)
    obtain ⟨z, hz, hmz⟩ := table_at [0, 41, (n2 : Int) + 1] _ rfl (block_kept (new_block w3 _) hg5 (by have := W3.out.rd.lt; omega)) (v := x) (by simp; omega)
    have hz2 : 0 ≤ z ∧ z ≤ 101 := by simp at hmz; omega
    have W5 := Lib.hid ((W3.out.alloc _).step hgl (Nat.le_refl _) hr5 hg5)
    clear hr5 hg5 hx1 hmz
    go_wp2_with fail
    clear hz
    refine (odd_any _ _ _ _ W5.out.rd (by omega) (by omega) (by omega)).mono ?_
    rintro e w4 ⟨b, rfl, hr4, hg4⟩
    have W4 := Lib.hid (W5.out.step hgl (Nat.le_refl _) hr4 hg4)
    clear hr4 hg4 W3
    cases b
    · go_wp2_with fail
      refine bodyPost_ret (results_tmp4 rfl _ _ _) rfl ?_
      exact ⟨_, _, _, _, _, _, p, rfl, HP.out, by omega, hpc, by omega, by omega, by omega, by omega, W4.out.reads.less hgs, W4.out.below⟩
    · go_wp2_with fail
      refine (pick_any _ _ _ _ (W4.out.rd.alloc _) (by omega) (by omega)).mono ?_
      rintro e w6 ⟨x2, rfl, hx1, _, hr6, hg6⟩
      have hx2 := hx1 (by omega)
      obtain ⟨y, hy, hmy⟩ := table_at [-1, z] _ rfl (block_kept (new_block w4 _) hg6 (by have := W4.out.rd.lt; omega)) (v := x2) (by simp; omega)
      have hy2 : -1 ≤ y ∧ y ≤ 101 := by simp at hmy; omega
      have W6 := Lib.hid ((W4.out.alloc _).step hgl (Nat.le_refl _) hr6 hg6)
      clear hr6 hg6 hx1 hmy
      go_wp2_with fail
      refine bodyPost_ret (results_tmp4 rfl _ _ _) rfl ?_
      exact ⟨_, _, _, _, _, _, p, rfl, HP.out, by omega, hpc, by omega, by omega, by omega, by omega, W6.out.reads.less hgs, W6.out.below⟩
end Go.Proofs.Ytandjjbfhcifiaa
