/- What the walks of the exact laws stand on: rows of numbers: copied, told to be the same, marked, held. -/
import Derived.Test.YtbgljjmmominbaaRow
import Derived.Test.YtbgljjmmominbaaInts
import Derived.Test.YtbgljjmmominbaaKeep
namespace Go.Proofs.Ytbgljjmmominbaa
set_option linter.unusedVariables false
open Go.RowKit
/-- a law's end -/
def True_ (w : World) (e : Ending) (w' : World) : Prop := e = .returned (.bool true) ∧ Below w.heap.size w w'
def CopyI (w : World) (n : Nat) (xs : List Int) (e : Ending) (w' : World) : Prop := ∃ A c, e = .returned (.slice A n c) ∧ n ≤ c ∧ OwnI w' w.heap.size A n c xs ∧ Below w.heap.size w w'
theorem eqI_same (A B : Option Addr) (n c d L M : Nat) (xs : List Int) (w : World) (hl : xs.length = n) (hn : n ≤ 2000000) (ha : OwnI w L A n c xs) (hb : OwnI w M B n d xs) : Calls Try.prog 41 #[.slice A n c, .slice B n d] w fun e w' => e = .returned (.bool true) ∧ Below w.heap.size w w' :=
  (eqIntS_same A B n c d L M xs w hl hn (RK.of_own ha) (RK.of_own hb)).mono fun e w' ⟨h, k, hk⟩ => ⟨h, hk ▸ below_drewN (Below.refl _ _) k⟩
theorem markI_any (A : Option Addr) (n c base : Nat) (ys : List Int) (k : Int) (w : World) (ho : OwnI w base A n c ys) (hn : n ≤ 1500000) (k0 : 0 ≤ k) (k1 : k ≤ 100000000) : Calls Try.prog 43 #[.slice A n c, .int .i64 k] w (MarkRes w base A n c k) := markIntS_any A n c base ys k w ho hn k0 k1
theorem heldI_any (A : Option Addr) (n c base : Nat) (k : Int) (w : World) (ho : OwnI w base A n c (marks n k)) (hn : n ≤ 1500000) (k0 : 0 ≤ k) (k1 : k ≤ 100000000) : Calls Try.prog 44 #[.slice A n c, .int .i64 k] w fun e w' => e = .returned (.int .i64 (k + n)) ∧ Below w.heap.size w w' :=
  (heldIntS_any A n c base k w (RK.of_own ho) hn k0 k1).mono fun e w' ⟨h, hk⟩ => ⟨h, hk ▸ Below.refl _ _⟩
end Go.Proofs.Ytbgljjmmominbaa
