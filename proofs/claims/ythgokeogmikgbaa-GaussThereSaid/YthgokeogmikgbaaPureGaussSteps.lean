import Derived.Test.YthgokeogmikgbaaAnchor
import Derived.Test.YthgokeogmikgbaaEvC
namespace Go.Proofs.Ythgokeogmikgbaa.P
open Go Go.RowKit Go.Proofs.YthgokeogmikgbaaW.PrintWords
def In64 (a : Int) : Prop := -9223372036854775808 ≤ a ∧ a < 9223372036854775808
instance (a : Int) : Decidable (In64 a) := by unfold In64; exact inferInstance
def slipwaylaw04_GaussSteps.f (_k : Nat) (a b c : Int) : Option Bool := if In64 a ∧ In64 b ∧ In64 c then some true else none
theorem slipwaylaw04_GaussSteps.calls (k : Nat) (a b c : Int) (r : Bool) (w : World) (h : slipwaylaw04_GaussSteps.f k a b c = some r) :
    Calls Try.prog 3 #[.int .i64 a, .int .i64 b, .int .i64 c] w fun e w' => e = .returned (.bool r) ∧ Below w.heap.size w w' := by
  unfold slipwaylaw04_GaussSteps.f at h
  split at h
  · rename_i hw
    obtain rfl := Option.some.inj h
    exact Steps_calls a b c hw.1 hw.2.1 hw.2.2 w
  · cases h
end Go.Proofs.Ythgokeogmikgbaa.P
namespace Go.Proofs.Ythgokeogmikgbaa.Pure
open Go Go.Proofs.Ythgokeogmikgbaa.P
theorem GaussSteps (a : Int) (ha : (Lit.int .i64 a).wf = true) (b : Int) (hb : (Lit.int .i64 b).wf = true) (c : Int) (hc : (Lit.int .i64 c).wf = true) : ∃ k, slipwaylaw04_GaussSteps.f k a b c = some true :=
  ⟨0, if_pos ⟨wf64 ha, wf64 hb, wf64 hc⟩⟩
end Go.Proofs.Ythgokeogmikgbaa.Pure
