/-
  No cell of these rows narrows 'for every input' (looked for: loops, veiled, ifaces, maps, wideKeys, modest, calm, conditions, laid).
  DERIVED. THE GIVEN ROWS OF THIS SEAT. 2 by the template 'for every input the law returns true; each argument reads behind the call as it read before'; 0 by the template 'total and deterministic' (their statements: YthgokeogmikgbaaTotals.lean).
  GIVEN WITH THE SEED: the statements are not yours to turn. If you find one false, say at which input.
  Laid BY PROGRAM, IN A SANDBOX (cutbox-rows.mjs): the forced cells as the released guide's own fill.sh prints them over the translation cea108933cecf1fd… (all of the seat's roots in one cut). By AI agents, Wed Nov 11 2026. No macro, syntax, notation, axiom, sorry.
-/
import Derived.Test.YthgokeogmikgbaaChecked
import GoSem.Claim
import GoSem.ClaimJoined
import GoSem.ClaimMapViews
import Derived.JoinedTies
import Derived.KernelRfl
namespace Go.Proofs.Ythgokeogmikgbaa
/- THE CELL 'sum', in the pinned program and in every row, IS THE sha256 OF THE DUMP (.gsa) THAT YthgokeogmikgbaaProg.lean LOADS. Nothing in Lean hashes anything: it is a label: what it is worth is what the hold of that sum in a sandbox is worth. -/
noncomputable def Try.pinned : Pinned := { name := "ythgokeogmikgbaa", sum := "cea108933cecf1fde79fbe24b967e420431a2987c5abb809af508ea1a857ee18", checked := Try.checked }
namespace Rows
def none {H : Type} : Left H := { results := [], args := [] }

/-- 'slipwaylaw04.GaussSteps': WHATEVER THE INPUT: true; the input reads as it did. -/
def gaussStepsSpec : ChangeSpec := { name := "gaussSteps", fn := fun _ => fun
  | [d1, d2, d3] => { results := [.lit (.bool true)], args := [d1, d2, d3] }
  | _ => none }
def gaussStepsRow : OpenClaim := { program := "ythgokeogmikgbaa", sum := "cea108933cecf1fde79fbe24b967e420431a2987c5abb809af508ea1a857ee18", func := "slipway/slipwaylaw04.GaussSteps", spec := "gaussSteps", inPlace := ["math.archTrunc", "math.Float64bits", "math.Float64frombits"], apart := false }
def GaussStepsSaid : Prop := gaussStepsRow.holds Try.pinned (OpenSpec.ofChange gaussStepsSpec)

/-- ITS FALSE NEIGHBOUR: 'it returns false'. Refute it at one input. -/
def gaussStepsWrong : ChangeSpec := { name := "gaussSteps", fn := fun _ => fun
  | [d1, d2, d3] => { results := [.lit (.bool false)], args := [d1, d2, d3] }
  | _ => none }
def GaussStepsWrongFalsely : Prop := gaussStepsRow.holds Try.pinned (OpenSpec.ofChange gaussStepsWrong)

/-- 'slipwaylaw04.GaussThere': WHATEVER THE INPUT: true; the input reads as it did. -/
def gaussThereSpec : ChangeSpec := { name := "gaussThere", fn := fun _ => fun
  | [d1, d2, d3, d4] => { results := [.lit (.bool true)], args := [d1, d2, d3, d4] }
  | _ => none }
def gaussThereRow : OpenClaim := { program := "ythgokeogmikgbaa", sum := "cea108933cecf1fde79fbe24b967e420431a2987c5abb809af508ea1a857ee18", func := "slipway/slipwaylaw04.GaussThere", spec := "gaussThere", inPlace := ["math.archTrunc", "math.Float64bits", "math.Float64frombits"], apart := false }
def GaussThereSaid : Prop := gaussThereRow.holds Try.pinned (OpenSpec.ofChange gaussThereSpec)

/-- ITS FALSE NEIGHBOUR: 'it returns false'. Refute it at one input. -/
def gaussThereWrong : ChangeSpec := { name := "gaussThere", fn := fun _ => fun
  | [d1, d2, d3, d4] => { results := [.lit (.bool false)], args := [d1, d2, d3, d4] }
  | _ => none }
def GaussThereWrongFalsely : Prop := gaussThereRow.holds Try.pinned (OpenSpec.ofChange gaussThereWrong)

/- THE SECOND FORM. 'bulk': how many values and letters a reading holds, each counted each time it is reached (what is shared counts as often as it is met; a slice's spare places count too). A statement '..UptoSaid' is the law's where the arguments, and the package variables that the reading takes, are together of bulk at most 1048576: NARROWER than '..Said'. Prove '..Said' where nothing that the law and all that it calls make is longer than what came in: it says more and counts as full. Else prove '..UptoSaid'. A law counts once. -/
mutual
def uptoBulk {H : Type} : DataW H → Nat
  | .lit (.string bytes) => bytes.length + 1
  | .lit _ => 1
  | .nil => 1
  | .ptr d => uptoBulk d + 1
  | .slice elems spare => uptoBulkAll elems + uptoBulkAll spare + 1
  | .agg parts => uptoBulkAll parts + 1
  | .iface _ d => uptoBulk d + 1
  | .map entries => uptoBulkEntries entries + 1
  | .held _ => 1
def uptoBulkAll {H : Type} : List (DataW H) → Nat
  | [] => 0
  | d :: r => uptoBulk d + uptoBulkAll r
def uptoBulkEntries {H : Type} : List (Lit × DataW H) → Nat
  | [] => 0
  | x :: r => uptoBulkEntry x + uptoBulkEntries r
def uptoBulkEntry {H : Type} : Lit × DataW H → Nat
  | (.string bytes, d) => bytes.length + uptoBulk d + 1
  | (_, d) => uptoBulk d + 1
 end
def uptoSmall : (H : Type) → List (DataW H) → Bool := fun _ ds => decide (uptoBulkAll ds ≤ 1048576)
def OpenSpec.upto (s : _root_.Go.ChangeSpec) : _root_.Go.OpenSpec := { _root_.Go.OpenSpec.ofChange s with cond := some uptoSmall }

/-- 'slipwaylaw04.GaussSteps', WHERE WHAT IT READS IS OF BULK AT MOST 1048576: true; the input reads as it did. -/
def gaussStepsUptoRow : OpenClaim := { program := "ythgokeogmikgbaa", sum := "cea108933cecf1fde79fbe24b967e420431a2987c5abb809af508ea1a857ee18", func := "slipway/slipwaylaw04.GaussSteps", spec := "gaussSteps", inPlace := ["math.archTrunc", "math.Float64bits", "math.Float64frombits"], apart := false, narrowed := true }
def GaussStepsUptoSaid : Prop := gaussStepsUptoRow.holds Try.pinned (OpenSpec.upto gaussStepsSpec)

/-- 'slipwaylaw04.GaussThere', WHERE WHAT IT READS IS OF BULK AT MOST 1048576: true; the input reads as it did. -/
def gaussThereUptoRow : OpenClaim := { program := "ythgokeogmikgbaa", sum := "cea108933cecf1fde79fbe24b967e420431a2987c5abb809af508ea1a857ee18", func := "slipway/slipwaylaw04.GaussThere", spec := "gaussThere", inPlace := ["math.archTrunc", "math.Float64bits", "math.Float64frombits"], apart := false, narrowed := true }
def GaussThereUptoSaid : Prop := gaussThereUptoRow.holds Try.pinned (OpenSpec.upto gaussThereSpec)

end Rows
end Go.Proofs.Ythgokeogmikgbaa
