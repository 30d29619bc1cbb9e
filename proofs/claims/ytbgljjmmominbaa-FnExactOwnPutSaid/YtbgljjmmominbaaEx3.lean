/- Slices of owner rows and of entries that came in: opened, and copied. -/
import Derived.Test.YtbgljjmmominbaaEx2
import Derived.Test.YtbgljjmmominbaaStr
import Derived.Deep.Slices
import Derived.Deep.Fields
namespace Go.Proofs.Ytbgljjmmominbaa
set_option linter.unusedVariables false
open Go.RowKit Go.ChangeShapes Go.WideShapes Go.Deep
section
variable {H : Type} {enc : TypeId × Value → H} {P : Program} {w : World} {base : Nat} {spare : Nat → Bool} {held : Bool}
/-- the one cell that a field lies in -/
theorem field_cell {t : TypeId} {fs : Array Field} {fuel : Nat} {cs : List Value} {x : DataW H × List MemPlace} (ht : P.underlying t = some (.struct fs)) (hone : oneCellFields P fs = true) (h : DataW.trod enc P w base spare held fuel t cs = some x) (j : Nat) (f : Field) (hj : fs[j]? = some f) :
    ∃ (n : Nat) (y : DataW H × List MemPlace), DataW.trod enc P w base spare held n f.type ((cs.drop j).take 1) = some y := by
  obtain ⟨ys, n, _, _, _, hlen, hf⟩ := DataW.trod_struct ht h
  obtain ⟨ho, hk⟩ := hone_of hone j f hj
  have hjl : j < ys.length := by rw [hlen]; exact (Array.getElem?_eq_some_iff.1 hj).1
  have := hf j f hj
  rw [ho, hk, List.getElem?_eq_getElem hjl] at this
  exact ⟨n, _, this⟩
theorem one_of_take {cs : List Value} {j : Nat} {v : Value} (h : (cs.drop j).take 1 = [v]) : cs[j]? = some v := by
  have h1 : ((cs.drop j).take 1)[0]? = some v := by rw [h]; rfl
  rw [List.getElem?_take, if_pos (by omega), List.getElem?_drop] at h1
  simpa using h1
theorem field_int {t : TypeId} {fs : Array Field} {fuel : Nat} {cs : List Value} {x : DataW H × List MemPlace} (ht : P.underlying t = some (.struct fs)) (hone : oneCellFields P fs = true) (h : DataW.trod enc P w base spare held fuel t cs = some x) (j : Nat) (f : Field) (hj : fs[j]? = some f)
    (hT : P.underlying f.type = some (.int .i64)) : ∃ z : Int, cs[j]? = some (.int .i64 z) := by
  obtain ⟨n, y, hy⟩ := field_cell ht hone h j f hj
  obtain ⟨z, hz, _⟩ := DataW.trod_int hT hy
  exact ⟨z, one_of_take hz⟩
theorem field_bool {t : TypeId} {fs : Array Field} {fuel : Nat} {cs : List Value} {x : DataW H × List MemPlace} (ht : P.underlying t = some (.struct fs)) (hone : oneCellFields P fs = true) (h : DataW.trod enc P w base spare held fuel t cs = some x) (j : Nat) (f : Field) (hj : fs[j]? = some f)
    (hT : P.underlying f.type = some .bool) : ∃ z : Bool, cs[j]? = some (.bool z) := by
  obtain ⟨n, y, hy⟩ := field_cell ht hone h j f hj
  obtain ⟨z, hz, _⟩ := DataW.trod_bool hT hy
  exact ⟨z, one_of_take hz⟩
end
theorem add_none (b o j : Nat) : (⟨b, o, none⟩ : Addr).add j = ⟨b, o + j, none⟩ := by unfold Addr.add; split <;> simp_all
theorem spot_none {w : World} {a : Addr} {v : Value} (h : w.cell? a = some v) : a = ⟨a.block, a.off, none⟩ := by
  have := World.cell?_spot h
  obtain ⟨b, o, s⟩ := a
  simp at this
  subst this
  rfl
structure InR (w : World) (A : Option Addr) (n c : Nat) (rs : List Orow) : Prop where
  len : rs.length = n
  cap : n ≤ c
  top : c ≤ maxLen
  reads : RV w 0 A (flatR rs)
theorem inR_of {H : Type} {enc : TypeId × Value → H} {w : World} {base : Nat} {spare : Nat → Bool} {held : Bool} {fuel : Nat} {a : Option Addr} {len cap : Nat} {cs : List Value} {x : DataW H × List MemPlace} (hcs : cs = [.slice a len cap])
    (h : DataW.trod enc Try.prog w base spare held fuel 34 cs = some x) : ∃ rs, InR w a len cap rs := by
  subst hcs
  rcases open_slice Try.underlying34 h with ⟨h1, _⟩ | ⟨ad, len', cap', m, n, D, Pl, h1, _, hl, hm, hmm, _, hi⟩
  · injection h1 with h1 _
    injection h1 with h1 h2 h3
    subst h1 h2 h3
    exact ⟨[], rfl, Nat.le_refl _, by unfold maxLen; omega, RV.nil⟩
  · injection h1 with h1 _
    injection h1 with h1 h2 h3
    subst h1 h2 h3
    have hC : Try.prog.cellsOf 29 = 3 := by kernel_rfl
    have hle : len ≤ m := by rw [hmm]; split <;> omega
    have hex : ∀ i, ∃ r : Orow, i < len → ∀ q v, q < 3 → (encR r)[q]? = some v → w.cell? (ad.add (i * 3 + q)) = some v := by
      intro i
      by_cases hil : i < len
      · obtain ⟨cs', hc, ht⟩ := hi i (by omega)
        rw [hC] at hc
        obtain ⟨_, _, hat⟩ := World.cells?_some hc
        obtain ⟨z0, hz0⟩ := field_int Try.underlying29 (by kernel_rfl) ht 0 _ rfl Try.underlying3
        obtain ⟨z1, hz1⟩ := field_int Try.underlying29 (by kernel_rfl) ht 1 _ rfl Try.underlying3
        obtain ⟨z2, hz2⟩ := field_bool Try.underlying29 (by kernel_rfl) ht 2 _ rfl Try.underlying4
        refine ⟨⟨z0, z1, z2⟩, fun _ q v hq hv => ?_⟩
        have hcell := hat q hq
        rw [Go.Deep.add_add] at hcell
        rw [hcell, ← hv]
        match q, hq with
        | 0, _ => exact hz0
        | 1, _ => exact hz1
        | 2, _ => exact hz2
      · exact ⟨r0, fun h => absurd h hil⟩
    let F : Nat → Orow := fun i => Classical.choose (hex i)
    have hF : ∀ i, i < len → ∀ q v, q < 3 → (encR (F i))[q]? = some v → w.cell? (ad.add (i * 3 + q)) = some v := fun i => Classical.choose_spec (hex i)
    refine ⟨(List.range len).map F, by simp, hl, hm, fun hp => ?_⟩
    have hlen : ((List.range len).map F).length = len := by simp
    rw [flatR_len, hlen] at hp
    have h0 := hF 0 (by omega) 0 _ (by omega) rfl
    rw [show (0 * 3 + 0 : Nat) = 0 from rfl] at h0
    have e0' : ad.add 0 = ad := by obtain ⟨b, o, s⟩ := ad; unfold Addr.add; split <;> simp_all
    rw [e0'] at h0
    have had := spot_none h0
    refine ⟨ad.block, ad.off, by rw [← had], Nat.zero_le _, World.block_lt_of_cell? _ _ h0, fun j v hv => ?_⟩
    have hj : j < len * 3 := by
      rcases Nat.lt_or_ge j (len * 3) with h | h
      · exact h
      · rw [List.getElem?_eq_none (by rw [flatR_len, hlen]; exact h)] at hv; cases hv
    have hjl : j / 3 < ((List.range len).map F).length := by rw [hlen]; omega
    have hf := flat_at encR_len ((List.range len).map F) (j / 3) (j % 3) hjl (Nat.mod_lt _ (by omega))
    rw [show j / 3 * 3 + j % 3 = j from Nat.div_add_mod' j 3] at hf
    have hv' : (encR (F (j / 3)))[j % 3]? = some v := by
      rw [← hv]
      unfold flatR
      rw [hf]
      simp
    have := hF (j / 3) (by omega) (j % 3) v (Nat.mod_lt _ (by omega)) hv'
    rw [show j / 3 * 3 + j % 3 = j from Nat.div_add_mod' j 3, had] at this
    rw [add_none] at this
    exact this
theorem copyR_any (A : Option Addr) (n c : Nat) (rs : List Orow) (w0 w : World) (hi : InR w0 A n c rs) (hb : Below w0.heap.size w0 w) (hn : n ≤ 1500000) : Calls Try.prog 27 #[.slice A n c] w (CopyR w n rs) :=
  toR_any A n c 0 rs w hi.len (hi.reads.below hb) hn
structure InE (w : World) (A : Option Addr) (n c : Nat) (rs : List Ent) : Prop where
  len : rs.length = n
  cap : n ≤ c
  top : c ≤ maxLen
  reads : RV w 0 A (flatE rs)
theorem inE_of {H : Type} {enc : TypeId × Value → H} {w : World} {base : Nat} {spare : Nat → Bool} {held : Bool} {fuel : Nat} {a : Option Addr} {len cap : Nat} {cs : List Value} {x : DataW H × List MemPlace} (hcs : cs = [.slice a len cap])
    (h : DataW.trod enc Try.prog w base spare held fuel 43 cs = some x) : ∃ rs, InE w a len cap rs := by
  subst hcs
  rcases open_slice Try.underlying43 h with ⟨h1, _⟩ | ⟨ad, len', cap', m, n, D, Pl, h1, _, hl, hm, hmm, _, hi⟩
  · injection h1 with h1 _
    injection h1 with h1 h2 h3
    subst h1 h2 h3
    exact ⟨[], rfl, Nat.le_refl _, by unfold maxLen; omega, RV.nil⟩
  · injection h1 with h1 _
    injection h1 with h1 h2 h3
    subst h1 h2 h3
    have hC : Try.prog.cellsOf 23 = 4 := by kernel_rfl
    have hle : len ≤ m := by rw [hmm]; split <;> omega
    have hex : ∀ i, ∃ r : Ent, i < len → ∀ q v, q < 4 → (encE r)[q]? = some v → w.cell? (ad.add (i * 4 + q)) = some v := by
      intro i
      by_cases hil : i < len
      · obtain ⟨cs', hc, ht⟩ := hi i (by omega)
        rw [hC] at hc
        obtain ⟨_, _, hat⟩ := World.cells?_some hc
        obtain ⟨z0, hz0⟩ := field_int Try.underlying23 (by kernel_rfl) ht 0 _ rfl Try.underlying3
        obtain ⟨z1, hz1⟩ := field_int Try.underlying23 (by kernel_rfl) ht 1 _ rfl Try.underlying3
        obtain ⟨z2, hz2⟩ := field_int Try.underlying23 (by kernel_rfl) ht 2 _ rfl Try.underlying3
        obtain ⟨z3, hz3⟩ := field_int Try.underlying23 (by kernel_rfl) ht 3 _ rfl Try.underlying3
        refine ⟨⟨z0, z1, z2, z3⟩, fun _ q v hq hv => ?_⟩
        have hcell := hat q hq
        rw [Go.Deep.add_add] at hcell
        rw [hcell, ← hv]
        match q, hq with
        | 0, _ => exact hz0
        | 1, _ => exact hz1
        | 2, _ => exact hz2
        | 3, _ => exact hz3
      · exact ⟨e0, fun h => absurd h hil⟩
    let F : Nat → Ent := fun i => Classical.choose (hex i)
    have hF : ∀ i, i < len → ∀ q v, q < 4 → (encE (F i))[q]? = some v → w.cell? (ad.add (i * 4 + q)) = some v := fun i => Classical.choose_spec (hex i)
    refine ⟨(List.range len).map F, by simp, hl, hm, fun hp => ?_⟩
    have hlen : ((List.range len).map F).length = len := by simp
    rw [flatE_len, hlen] at hp
    have h0 := hF 0 (by omega) 0 _ (by omega) rfl
    rw [show (0 * 4 + 0 : Nat) = 0 from rfl] at h0
    have e0' : ad.add 0 = ad := by obtain ⟨b, o, s⟩ := ad; unfold Addr.add; split <;> simp_all
    rw [e0'] at h0
    have had := spot_none h0
    refine ⟨ad.block, ad.off, by rw [← had], Nat.zero_le _, World.block_lt_of_cell? _ _ h0, fun j v hv => ?_⟩
    have hj : j < len * 4 := by
      rcases Nat.lt_or_ge j (len * 4) with h | h
      · exact h
      · rw [List.getElem?_eq_none (by rw [flatE_len, hlen]; exact h)] at hv; cases hv
    have hjl : j / 4 < ((List.range len).map F).length := by rw [hlen]; omega
    have hf := flat_at encE_len ((List.range len).map F) (j / 4) (j % 4) hjl (Nat.mod_lt _ (by omega))
    rw [show j / 4 * 4 + j % 4 = j from Nat.div_add_mod' j 4] at hf
    have hv' : (encE (F (j / 4)))[j % 4]? = some v := by
      rw [← hv]
      unfold flatE
      rw [hf]
      simp
    have := hF (j / 4) (by omega) (j % 4) v (Nat.mod_lt _ (by omega)) hv'
    rw [show j / 4 * 4 + j % 4 = j from Nat.div_add_mod' j 4, had] at this
    rw [add_none] at this
    exact this
theorem copyE_any (A : Option Addr) (n c : Nat) (rs : List Ent) (w0 w : World) (hi : InE w0 A n c rs) (hb : Below w0.heap.size w0 w) (hn : n ≤ 1500000) : Calls Try.prog 34 #[.slice A n c] w (CopyE w n rs) :=
  toE_any A n c 0 rs w hi.len (hi.reads.below hb) hn
end Go.Proofs.Ytbgljjmmominbaa

