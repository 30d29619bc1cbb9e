/- The walk of FnOwnFold. -/
import Derived.Test.YtbgljjmmominbaaDrawF
import Derived.Test.YtbgljjmmominbaaSw
import Derived.Test.YtbgljjmmominbaaPlainF
namespace Go.Proofs.Ytbgljjmmominbaa
set_option linter.unusedVariables false
open Go.RowKit Pl
/-- on the way: what is left to fold, or that it fails -/
def HoldP (es : List Ent) (rs : List Orow) (k : Nat) (b : Bool) : Prop := (b = true → es.length ≤ 40 ∧ foldP rs (es.drop k) = ownFold es) ∧ (b = false → (ownFold es).2 = false)
theorem HoldP.start (es : List Ent) : HoldP es (List.replicate 8 r0) 0 (decide (es.length ≤ 40)) := by
  refine ⟨fun h => ?_, fun h => ?_⟩
  · have h1 : es.length ≤ 40 := by simpa using h
    exact ⟨h1, by rw [ownFold_few h1, List.drop_zero]⟩
  · have h1 : 40 < es.length := by simpa using h
    rw [ownFold_many h1]
theorem HoldP.step {es : List Ent} {rs : List Orow} {k : Nat} (h : HoldP es rs k true) (hk : k < es.length) : HoldP es (ownPut rs (es.getD k e0)).1 (k + 1) (ownPut rs (es.getD k e0)).2 := by
  obtain ⟨h1, h2⟩ := h.1 rfl
  rw [drop_head es k hk] at h2
  refine ⟨fun hp => ⟨h1, by rw [← h2, foldP_yes hp]⟩, fun hp => ?_⟩
  rw [← h2, foldP_no hp]
theorem HoldP.fin {es : List Ent} {rs : List Orow} {k : Nat} (h : HoldP es rs k true) (hk : es.length ≤ k) : ownFold es = (rs, true) := by
  obtain ⟨h1, h2⟩ := h.1 rfl
  rw [List.drop_of_length_le hk] at h2
  rw [← h2]; rfl
theorem put_parts {w w' : World} {l : List Orow} {b : Bool} {e : Ending} (h : PutRes w (l, b) e w') : ∃ A n c, e = .returned (.tuple #[.slice A n c, .bool b]) ∧ l.length = n ∧ OwnR w' w.heap.size A n c l ∧ Below w.heap.size w w' := h
theorem fold_nil : ownFold [] = (List.replicate 8 r0, true) := rfl
set_option maxHeartbeats 8000000 in
theorem walkFnOwnFold (a0 : Option Addr) (len0 cap0 : Nat) (z0 : List Int) (w : World) (w0 : InK .u8 w a0 len0 cap0 z0) : Calls Try.prog 17 #[.slice a0 len0 cap0] w (True_ w) := by
  have hlen : len0 ≤ 9223372036854775807 := by have := w0.cap; have := w0.top; unfold maxLen at this; omega
  by_cases hbig : len0 ≤ 1048576
  · have HB := Lib.hid w0.bytes
    clear w0
    go_enter Try.func17, Try.ntmps17
    go_wp2_with fail
    refine (DrawOwnFold_any _ _ _ _ _ HB.out (by omega)).mono ?_
    rintro e w1 ⟨A, n, c, es, rfl, L⟩
    have HLen := Lib.hid L.len
    have HR1 := Lib.hid L.reads
    have B1 := Lib.hid L.below
    have hn := L.few
    have hnc := L.cap
    clear L HB
    obtain ⟨⟨rsF, okF⟩, hX⟩ : ∃ X, ownFold es = X := ⟨_, rfl⟩
    have HX := Lib.hid hX
    have hle : rsF.length ≤ 8 := by have := ownFold_le es; rw [hX] at this; exact this
    clear hX
    go_wp2_with fail
    refine (OwnFold_any _ _ _ _ es _ HLen.out HR1.out (by omega)).mono ?_
    rw [HX.out]
    intro e w2 h2
    obtain ⟨A2, n2, c2, rfl, hl2, ho2, hb2⟩ := put_parts h2
    rw [hl2] at hle
    have HL2 := Lib.hid hl2
    have HY2 := Lib.hid (RV.of_own ho2)
    have HR2 := Lib.hid (HR1.out.below hb2)
    have B2 := Lib.hid (below_at B1.out hb2)
    clear h2 hl2 ho2 hb2 HR1 B1
    go_wp2_with fail
    refine (sOwnFold_any _ _ _ _ es _ HLen.out HR2.out (by omega)).mono ?_
    rw [HX.out]
    intro e w3 h3
    obtain ⟨A3, n3, c3, rfl, hl3, ho3, hb3⟩ := put_parts h3
    obtain rfl : n3 = n2 := by rw [← hl3]; exact HL2.out
    have HY3 := Lib.hid (HY2.out.below hb3)
    have HR3 := Lib.hid (HR2.out.below hb3)
    have B3 := Lib.hid (below_at B2.out hb3)
    have HZ3 := Lib.hid (RV.of_own ho3)
    clear h3 hl3 ho3 hb3 HY2 HR2 B2
    go_wp2_with fail
    refine (swRows_same _ _ _ _ _ _ _ _ _ HL2.out (by omega) HY3.out HZ3.out).mono ?_
    rintro e w4 ⟨rfl, m4, rfl⟩
    have HY4 := Lib.hid (show RV (w3.drewN m4) _ A2 _ from HY3.out)
    have HR4 := Lib.hid (show RV (w3.drewN m4) _ A _ from HR3.out)
    have B4 := Lib.hid (below_drewN B3.out m4)
    clear HY3 HR3 B3 HZ3
    generalize w3.drewN m4 = w4 at *
    go_wp2_with fail
    refine (OwnFold_any _ 0 _ 0 [] _ rfl RV.nil (by omega)).mono ?_
    rw [fold_nil]
    intro e w5 h5
    obtain ⟨A5, n5, c5, rfl, hl5, ho5, hb5⟩ := put_parts h5
    obtain rfl : n5 = 8 := by rw [← hl5]; rfl
    have B4' := Lib.hid (B4.out.alloc B4.out.size (.cells #[] 25))
    have HY5 := Lib.hid ((HY4.out.alloc (.cells #[] 25)).below hb5)
    have HR5 := Lib.hid ((HR4.out.alloc (.cells #[] 25)).below hb5)
    have B5 := Lib.hid (below_at B4'.out hb5)
    have HO5 := Lib.hid ((RV.of_own ho5).less (Nat.zero_le _))
    clear h5 hl5 ho5 hb5 HY4 HR4 B4 B4'
    have HS := Lib.hid (show HoldP es (List.replicate 8 r0) 0 (decide ((n : Int) ≤ 40)) by
      have e : decide ((n : Int) ≤ 40) = decide (es.length ≤ 40) := by rw [HLen.out]; simp only [decide_eq_decide]; omega
      rw [e]; exact HoldP.start es)
    go_upto_region 10 with fail
    go_wp2_with fail
    go_loopw [8, 10, 11] (fun x a i wr => ∃ (k : Nat) (A' : Option Addr) (c' : Nat) (rs : List Orow) (b : Bool), k ≤ n ∧ i = .int .i64 (k : Int) ∧ a = .bool b ∧ x = .slice A' 8 c' ∧ rs.length = 8 ∧ RV wr 0 A' (flatR rs) ∧ Below w5.heap.size w5 wr ∧ HoldP es rs k b) (fun _ _ i _ => n - (intOf i).toNat)
    case atStart => exact ⟨0, _, _, _, _, by omega, rfl, rfl, rfl, rfl, HO5.out, Below.refl _ _, HS.out⟩
    case round =>
      obtain ⟨k, A', c', rs, b, hk, rfl, rfl, rfl, hl, hx, hb, hh⟩ := hrel
      have LR := Lib.hid hl
      have XR := Lib.hid hx
      have BB := Lib.hid hb
      have HH := Lib.hid hh
      clear hl hx hb hh HS HO5
      cases b
      · have hok : okF = false := by have := HH.out.2 rfl; rw [HX.out] at this; exact this
        subst hok
        have hnil : n3 = 0 := by have := ownFold_no1 (HH.out.2 rfl); rw [HX.out] at this; have h2 := HL2.out; rw [← h2, show rsF = [] from this]; rfl
        subst hnil
        go_wp2_with fail
        all_goals
          go_ret
          exact ⟨rfl, below_at B5.out BB.out⟩
      · by_cases hlt : k < n
        · obtain ⟨b2, o2, rfl, _, hbs, h1, h2, h3, h4⟩ := (HR5.out.below BB.out).atE (j := k) (by rw [HLen.out]; exact hlt)
          have HS := Lib.hid (HH.out.step (by rw [HLen.out]; exact hlt))
          have hAn : A' = none → 8 = 0 ∧ c' = 0 := fun e => by
            obtain ⟨b9, o9, e9, _⟩ := XR.out (by rw [flatR_len, LR.out]; omega)
            rw [e] at e9; cases e9
          have hAn' := Lib.hid hAn
          clear hAn HH
          generalize es.getD k e0 = z at *
          go_wp2_with fail
          refine Calls.mono (OwnPut_any _ 8 _ 0 rs _ _ _ _ _ LR.out XR.out hAn'.out (by omega)) ?_
          rintro e w6 ⟨A6, n6, c6, rfl, hl6, ho6, hb6⟩
          obtain rfl : n6 = 8 := by rw [← hl6, ownPut_len]; exact LR.out
          have LR6 := Lib.hid hl6
          have XR6 := Lib.hid ((RV.of_own ho6).less (Nat.zero_le _))
          have BB6 := Lib.hid (below_at BB.out hb6)
          clear hl6 ho6 hb6 LR XR BB h1 h2 h3 h4 hAn'
          have HS2 := Lib.hid (show HoldP es (ownPut rs ⟨z.k, z.t, z.u, z.p⟩).1 (k + 1) (ownPut rs ⟨z.k, z.t, z.u, z.p⟩).2 from HS.out)
          clear HS
          generalize (ownPut rs ⟨z.k, z.t, z.u, z.p⟩).1 = rs6 at *
          generalize (ownPut rs ⟨z.k, z.t, z.u, z.p⟩).2 = ok6 at *
          go_wp2_with fail
          go_roundw
          case rel => exact ⟨k + 1, _, _, rs6, ok6, by omega, by go_num, rfl, rfl, LR6.out, XR6.out, BB6.out, HS2.out⟩
          case measure => simp [intOf]; omega
        · obtain rfl : k = n := by omega
          have hfin := HH.out.fin (by rw [HLen.out]; exact Nat.le_refl _)
          rw [HX.out] at hfin
          injection hfin with e1 e2
          subst e1 e2
          have hrok : rowsOk rsF = true := by
            have h := ownFold_ok (es := es) (by rw [HX.out])
            rw [HX.out] at h; exact h
          have hhalf := ownFold_take (es := es) (k / 2) (by rw [HX.out])
          have RO := Lib.hid hrok
          have RH := Lib.hid hhalf
          have hq2 : (k / 2 : Nat) ≤ k := Nat.div_le_self _ _
          obtain ⟨q, hq⟩ : ∃ q, q = k / 2 := ⟨_, rfl⟩
          rw [← hq] at RH hq2
          have hqi : (k : Int) / 2 = (q : Int) := by omega
          have hqt : Int.tdiv (k : Int) 2 = (q : Int) := by rw [Int.tdiv_eq_ediv_of_nonneg (by omega)]; exact hqi
          clear hq hrok hhalf
          have HT := Lib.hid (show RV wr w.heap.size A (flatE (es.take q)) by
            have h1 := (HR5.out.below BB.out).take (q * 4)
            rwa [flatE_take] at h1)
          have LT := Lib.hid (show (es.take q).length = q by have := HLen.out; simp; omega)
          have hqc : q ≤ c := by omega
          have BW := Lib.hid (below_at B5.out BB.out)
          have hn8 : n3 = 8 := by rw [← HL2.out]; exact LR.out
          subst hn8
          have HYR := Lib.hid (HY5.out.below BB.out)
          go_wp2_with fail
          refine Calls.mono (OwnFold_any _ _ _ _ (es.take q) _ LT.out HT.out (by omega)) ?_
          rintro e w7 ⟨A7, n7, c7, rfl, hl7, ho7, hb7⟩
          rw [RH.out]
          have HYR7 := Lib.hid (HYR.out.below hb7)
          have XR7 := Lib.hid (XR.out.below hb7)
          have B7 := Lib.hid (below_at BW.out hb7)
          clear hl7 ho7 hb7 hqi hqt
          go_wp2_with fail
          refine Calls.mono (swRows_same _ _ _ _ _ _ _ _ _ LR.out (by omega) XR7.out HYR7.out) ?_
          rintro e w8 ⟨rfl, m8, rfl⟩
          have HYR8 := Lib.hid (show RV (w7.drewN m8) _ A2 _ from HYR7.out)
          have B8 := Lib.hid (below_drewN B7.out m8)
          clear HYR7 B7 XR7
          generalize w7.drewN m8 = w8 at *
          go_wp2_with fail
          refine Calls.mono (OwnOk_any _ _ _ _ rsF _ HL2.out HYR8.out (by omega)) ?_
          rw [RO.out]
          rintro e w9 ⟨rfl, hb9⟩
          have B9 := Lib.hid (below_at B8.out hb9)
          go_wp2_with fail
          go_ret
          exact ⟨rfl, B9.out⟩
  · have hb : 1048576 < len0 := by omega
    clear w0 hbig
    go_enter Try.func17, Try.ntmps17
    go_wp2_with fail
    go_ret
    exact ⟨rfl, Below.refl _ _⟩
end Go.Proofs.Ytbgljjmmominbaa
