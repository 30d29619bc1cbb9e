/- Contracts: leaves drawn (reference, layer 20). -/
import Derived.Test.YtandjjbfhcifiaaOpen
namespace Go.Proofs.Ytandjjbfhcifiaa
set_option linter.unusedVariables false
open Go.RowKit Pl

theorem mem_rng {l : List Int} {z lo hi : Int} (h : z ∈ l) (hl : ∀ x ∈ l, lo ≤ x ∧ x ≤ hi) : lo ≤ z ∧ z ≤ hi := hl z h

/-- after some rounds: a row of the call's own with n numbers, and what the reader has read -/
structure Grew (w : World) (g B P : Nat) (w' : World) (A : Option Addr) (n c : Nat) (ys : List Int) : Prop where
  own : OwnI w' B A n c ys
  len : ys.length = n
  rd : Rd w' g P
  grown : w.grownBy w' (some g)
  size : B ≤ w'.heap.size
theorem Grew.start {w w' : World} {g P : Nat} (hr : Rd w' g P) (hg : w.grownBy w' (some g)) : Grew w g w.heap.size P (w'.alloc (.cells #[] 3)) (some ⟨w'.heap.size, 0, none⟩) 0 0 [] :=
  ⟨own_lit w' _ [] _ hg.size rfl (by decide), rfl, hr.alloc _, grownBy_alloc hg _, by have := hg.size; simp; omega⟩
theorem Grew.read {w w1 w2 : World} {g B P Q n c : Nat} {A : Option Addr} {ys : List Int} (h : Grew w g B P w1 A n c ys) (hr : Rd w2 g Q) (hg : w1.grownBy w2 (some g)) (hB : g < B) : Grew w g B Q w2 A n c ys :=
  ⟨own_kept h.own hg hB, h.len, hr, grownBy_trans h.grown hg, by have := h.size; have := hg.size; omega⟩
theorem Grew.alloc {w w1 : World} {g B P n c : Nat} {A : Option Addr} {ys : List Int} (h : Grew w g B P w1 A n c ys) (o : Obj) : Grew w g B P (w1.alloc o) A n c ys :=
  ⟨World.ownsRow.alloc h.own o, h.len, h.rd.alloc o, grownBy_alloc h.grown o, by have := h.size; simp; omega⟩
theorem Grew.push {w w1 w2 : World} {g B P n c n' c' : Nat} {A A' : Option Addr} {ys ys' : List Int} (h : Grew w g B P w1 A n c ys) (ho : OwnI w2 B A' n' c' ys') (hl : ys'.length = n') (hb : Below B w1 w2) (hg : g < B) (hB : w.heap.size ≤ B) : Grew w g B P w2 A' n' c' ys' :=
  ⟨ho, hl, h.rd.below hb hg, grownBy_below h.grown hb hB, by have := h.size; have := hb.size; omega⟩
theorem Grew.more {w w1 : World} {g B P Q n c : Nat} {A : Option Addr} {ys : List Int} (h : Grew w g B P w1 A n c ys) (hP : P ≤ Q) : Grew w g B Q w1 A n c ys := ⟨h.own, h.len, h.rd.more hP, h.grown, h.size⟩

set_option maxHeartbeats 2000000 in
theorem leaves_any (w : World) (g P : Nat) (n : Int) (h : Rd w g P) (hP : P ≤ 800000) (hn : n ≤ 1000000) (hn0 : 0 ≤ n) : Calls Try.prog 61 #[.pointer (some ⟨g, 0, none⟩), .int .i64 n] w (LeavesRes w g P) := by
  have hgl := h.lt
  have G0 := Lib.hid (Grew.start h (World.grownBy.refl w (some g)))
  go_enter Try.func61, Try.ntmps61
  go_wp2_with fail
  refine (pick_any _ g P _ (h.alloc _) (by omega) (by omega)).mono ?_
  rintro e w1 ⟨v, rfl, hv1, _, hr1, hg1⟩
  have hv := hv1 (by omega)
  have hs1 := hg1.size
  have G1 := Lib.hid (G0.out.read hr1 hg1 hgl)
  have hs1' : w.heap.size < w1.heap.size := by simp at hs1; omega
  clear hv1 hr1 hg1 hs1 G0 h
  go_wp2_with fail
  refine (pick_any _ g _ _ (G1.out.rd.alloc _) (by omega) (by omega)).mono ?_
  rintro e w2 ⟨x, rfl, hx1, _, hr2, hg2⟩
  have hx := hx1 (by omega)
  have hs2 := hg2.size
  have hs2' : w.heap.size < w2.heap.size := by simp at hs2; omega
  obtain ⟨z, hz, hm⟩ := table_at [0, 1, 2, 3, 7, 8, 9, 16, 33, 40, (v : Int)] _ rfl (block_kept (new_block w1 _) hg2 (by omega)) (v := x) (by simp; omega)
  obtain ⟨z0, z1⟩ : 0 ≤ z ∧ z ≤ 40 := by simp at hm; omega
  obtain ⟨k0, rfl⟩ := Int.eq_ofNat_of_zero_le z0
  have G2 := Lib.hid ((G1.out.alloc _).read hr2 hg2 hgl)
  clear hx1 hm hr2 hg2 hs2 G1 hs1'
  go_wp2_with fail
  clear hz
  go_loopw [5, 6] (fun o i wr => ∃ (A : Option Addr) (m c k : Nat) (ys : List Int), o = .slice A m c ∧ i = .int .i64 (k : Int) ∧ k ≤ 40 ∧ m + k ≤ 40 ∧ Grew w g w.heap.size (P + 2 + 4 * m) wr A m c ys) (fun _ i _ => (intOf i).toNat)
  case atStart => exact ⟨_, 0, 0, k0, [], rfl, rfl, by omega, by omega, G2.out⟩
  case round =>
    obtain ⟨A, m, c, k, ys, rfl, rfl, hk, hmk, GR0⟩ := hrel
    have GR := Lib.hid GR0
    clear GR0 G2
    by_cases hk0 : 0 < k
    · go_wp2_with fail
      refine (mix_any _ g _ _ GR.out.rd (by omega) (by omega) (by omega)).mono ?_
      rintro e w3 ⟨y, rfl, hr3, hg3⟩
      have GA := (GR.out.read hr3 hg3 hgl).alloc (.cells #[.int .i64 y] 3)
      have hown := GA.own
      have hsz := GA.size
      clear hr3 hg3
      go_wp2_with (at_builtin; refine wpList_push rfl _ _ rfl w.heap.size A m c ys y w3.heap.size rfl rfl hown (heap_alloc_new _ _) (by omega) hsz ?_; intro g' c' w4 hown4 hb4 hg4)
      have hl := GA.len
      have GB := GA.push hown4 (by simp; exact hl) hb4 hgl (Nat.le_refl _)
      clear hown hsz hl hown4 hb4 hg4
      go_roundw
      case rel => exact ⟨_, m + 1, c', k - 1, _, rfl, by go_num, by omega, by omega, GB.more (by omega)⟩
      case measure => simp [intOf]; omega
    · obtain rfl : k = 0 := by omega
      clear hk0
      have hm40 : m ≤ 40 := by omega
      go_wp2_with fail
      refine (odd_any _ g _ n GR.out.rd (by omega) hn hn0).mono ?_
      rintro e w3 ⟨b, rfl, hr3, hg3⟩
      have GA := Lib.hid (GR.out.read hr3 hg3 hgl)
      clear hr3 hg3 GR
      cases b
      · go_wp2_with fail
        go_ret
        exact ⟨_, _, _, ys, rfl, GA.out.len, by omega, GA.out.own, GA.out.rd.more (by omega), GA.out.grown⟩
      · go_wp2_with fail
        refine (pick_any _ g _ _ GA.out.rd (by omega) (by omega)).mono ?_
        rintro e w4 ⟨v2, rfl, hv2, _, hr4, hg4⟩
        have hv2' := hv2 (by omega)
        have GB := Lib.hid (GA.out.read hr4 hg4 hgl)
        clear hr4 hg4 GA hv2
        by_cases hz0 : v2 = 0
        · subst hz0
          have hown := (GB.out.alloc (.cells #[.int .i64 65521] 3)).own
          have hsz := (GB.out.alloc (.cells #[.int .i64 65521] 3)).size
          go_wp2_with (at_builtin; refine wpList_push rfl _ _ rfl w.heap.size A m c ys 65521 w4.heap.size rfl rfl hown (heap_alloc_new _ _) (by omega) hsz ?_; intro g' c' w5 hown5 hb5 hg5)
          have GC := (GB.out.alloc _).push hown5 (by simp; exact GB.out.len) hb5 hgl (Nat.le_refl _)
          clear hown hsz hown5 hb5 hg5
          go_ret
          exact ⟨_, _, _, _, rfl, GC.len, by omega, GC.own, GC.rd.more (by omega), GC.grown⟩
        · have hz1 : ((v2 : Int) == 0) = false := by simp; omega
          go_wp2_with fail
          go_loopw [5] (fun o wr => ∃ (A : Option Addr) (m c : Nat) (ys : List Int), o = .slice A m c ∧ m ≤ 41 ∧ Grew w g w.heap.size (P + 200) wr A m c ys) (fun o _ => 41 - (match o with | .slice _ k _ => k | _ => 0))
          case atStart => exact ⟨A, m, c, ys, rfl, by omega, GB.out.more (by omega)⟩
          case round =>
            obtain ⟨A2, m2, c2, ys2, rfl, hm2, GR0⟩ := hrel
            have GR := Lib.hid GR0
            clear GR0 GB
            by_cases h40 : m2 ≤ 40
            · have hown := (GR.out.alloc (.cells #[.int .i64 1] 3)).own
              have hsz := (GR.out.alloc (.cells #[.int .i64 1] 3)).size
              go_wp2_with (at_builtin; refine wpList_push rfl _ _ rfl w.heap.size A2 m2 c2 ys2 1 wr.heap.size rfl rfl hown (heap_alloc_new _ _) (by omega) hsz ?_; intro g' c' w5 hown5 hb5 hg5)
              have GC := (GR.out.alloc _).push hown5 (by simp; exact GR.out.len) hb5 hgl (Nat.le_refl _)
              clear hown hsz hown5 hb5 hg5
              go_roundw
              case rel => exact ⟨_, m2 + 1, c', _, rfl, by omega, GC⟩
              case measure => simp; omega
            · go_wp2_with fail
              go_ret
              exact ⟨_, _, _, ys2, rfl, GR.out.len, by omega, GR.out.own, GR.out.rd.more (by omega), GR.out.grown⟩
end Go.Proofs.Ytandjjbfhcifiaa
