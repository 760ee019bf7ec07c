/-
  No cell of these rows narrows 'for every input' (looked for: loops, veiled, ifaces, maps, wideKeys, modest, calm, conditions, laid).
  DERIVED. THE GIVEN ROWS OF THIS SEAT. 6 by the template 'for every input the law returns true; each argument reads behind the call as it read before'; 0 by the template 'total and deterministic' (their statements: YtobogmcihnikeaaTotals.lean).
  GIVEN WITH THE SEED: the statements are not yours to turn. If you find one false, say at which input.
  Laid BY PROGRAM, IN A SANDBOX (cutbox-rows.mjs): the forced cells as the released guide's own fill.sh prints them over the translation e0d884da24c7a350… (all of the seat's roots in one cut). By AI agents, Wed Nov 11 2026. No macro, syntax, notation, axiom, sorry.
-/
import Derived.Test.YtobogmcihnikeaaChecked
import GoSem.Claim
import GoSem.ClaimJoined
import GoSem.ClaimMapViews
import Derived.JoinedTies
import Derived.KernelRfl
namespace Go.Proofs.Ytobogmcihnikeaa
/- THE CELL 'sum', in the pinned program and in every row, IS THE sha256 OF THE DUMP (.gsa) THAT YtobogmcihnikeaaProg.lean LOADS. Nothing in Lean hashes anything: it is a label: what it is worth is what the hold of that sum in a sandbox is worth. -/
noncomputable def Try.pinned : Pinned := { name := "ytobogmcihnikeaa", sum := "e0d884da24c7a350e5d424579ff86dfe1b09bb87c3ec58e4296180208107f8c0", checked := Try.checked }
namespace Rows
def none {H : Type} : Left H := { results := [], args := [] }

/-- 'slipwaylaw11.SumOf': WHATEVER THE INPUT: true; the input reads as it did. -/
def sumOfSpec : ChangeSpec := { name := "sumOf", fn := fun _ => fun
  | [d] => { results := [.lit (.bool true)], args := [d] }
  | _ => none }
def sumOfRow : OpenClaim := { program := "ytobogmcihnikeaa", sum := "e0d884da24c7a350e5d424579ff86dfe1b09bb87c3ec58e4296180208107f8c0", func := "slipway/slipwaylaw11.SumOf", spec := "sumOf", apart := false }
def SumOfSaid : Prop := sumOfRow.holds Try.pinned (OpenSpec.ofChange sumOfSpec)

/-- ITS FALSE NEIGHBOUR: 'it returns false'. Refute it at one input. -/
def sumOfWrong : ChangeSpec := { name := "sumOf", fn := fun _ => fun
  | [d] => { results := [.lit (.bool false)], args := [d] }
  | _ => none }
def SumOfWrongFalsely : Prop := sumOfRow.holds Try.pinned (OpenSpec.ofChange sumOfWrong)

/-- 'slipwaylaw11.SumFlips': WHATEVER THE INPUT: true; the input reads as it did. -/
def sumFlipsSpec : ChangeSpec := { name := "sumFlips", fn := fun _ => fun
  | [d1, d2, d3] => { results := [.lit (.bool true)], args := [d1, d2, d3] }
  | _ => none }
def sumFlipsRow : OpenClaim := { program := "ytobogmcihnikeaa", sum := "e0d884da24c7a350e5d424579ff86dfe1b09bb87c3ec58e4296180208107f8c0", func := "slipway/slipwaylaw11.SumFlips", spec := "sumFlips", apart := false }
def SumFlipsSaid : Prop := sumFlipsRow.holds Try.pinned (OpenSpec.ofChange sumFlipsSpec)

/-- ITS FALSE NEIGHBOUR: 'it returns false'. Refute it at one input. -/
def sumFlipsWrong : ChangeSpec := { name := "sumFlips", fn := fun _ => fun
  | [d1, d2, d3] => { results := [.lit (.bool false)], args := [d1, d2, d3] }
  | _ => none }
def SumFlipsWrongFalsely : Prop := sumFlipsRow.holds Try.pinned (OpenSpec.ofChange sumFlipsWrong)

/-- 'slipwaylaw11.SumLinear': WHATEVER THE INPUT: true; the input reads as it did. -/
def sumLinearSpec : ChangeSpec := { name := "sumLinear", fn := fun _ => fun
  | [d1, d2, d3] => { results := [.lit (.bool true)], args := [d1, d2, d3] }
  | _ => none }
def sumLinearRow : OpenClaim := { program := "ytobogmcihnikeaa", sum := "e0d884da24c7a350e5d424579ff86dfe1b09bb87c3ec58e4296180208107f8c0", func := "slipway/slipwaylaw11.SumLinear", spec := "sumLinear", apart := false }
def SumLinearSaid : Prop := sumLinearRow.holds Try.pinned (OpenSpec.ofChange sumLinearSpec)

/-- ITS FALSE NEIGHBOUR: 'it returns false'. Refute it at one input. -/
def sumLinearWrong : ChangeSpec := { name := "sumLinear", fn := fun _ => fun
  | [d1, d2, d3] => { results := [.lit (.bool false)], args := [d1, d2, d3] }
  | _ => none }
def SumLinearWrongFalsely : Prop := sumLinearRow.holds Try.pinned (OpenSpec.ofChange sumLinearWrong)

/-- 'slipwaylaw11.SumOpens': WHATEVER THE INPUT: true; the input reads as it did. -/
def sumOpensSpec : ChangeSpec := { name := "sumOpens", fn := fun _ => fun
  | [d1, d2] => { results := [.lit (.bool true)], args := [d1, d2] }
  | _ => none }
def sumOpensRow : OpenClaim := { program := "ytobogmcihnikeaa", sum := "e0d884da24c7a350e5d424579ff86dfe1b09bb87c3ec58e4296180208107f8c0", func := "slipway/slipwaylaw11.SumOpens", spec := "sumOpens", apart := false }
def SumOpensSaid : Prop := sumOpensRow.holds Try.pinned (OpenSpec.ofChange sumOpensSpec)

/-- ITS FALSE NEIGHBOUR: 'it returns false'. Refute it at one input. -/
def sumOpensWrong : ChangeSpec := { name := "sumOpens", fn := fun _ => fun
  | [d1, d2] => { results := [.lit (.bool false)], args := [d1, d2] }
  | _ => none }
def SumOpensWrongFalsely : Prop := sumOpensRow.holds Try.pinned (OpenSpec.ofChange sumOpensWrong)

/-- 'slipwaylaw11.SumSplits': WHATEVER THE INPUT: true; the input reads as it did. -/
def sumSplitsSpec : ChangeSpec := { name := "sumSplits", fn := fun _ => fun
  | [d] => { results := [.lit (.bool true)], args := [d] }
  | _ => none }
def sumSplitsRow : OpenClaim := { program := "ytobogmcihnikeaa", sum := "e0d884da24c7a350e5d424579ff86dfe1b09bb87c3ec58e4296180208107f8c0", func := "slipway/slipwaylaw11.SumSplits", spec := "sumSplits", apart := false }
def SumSplitsSaid : Prop := sumSplitsRow.holds Try.pinned (OpenSpec.ofChange sumSplitsSpec)

/-- ITS FALSE NEIGHBOUR: 'it returns false'. Refute it at one input. -/
def sumSplitsWrong : ChangeSpec := { name := "sumSplits", fn := fun _ => fun
  | [d] => { results := [.lit (.bool false)], args := [d] }
  | _ => none }
def SumSplitsWrongFalsely : Prop := sumSplitsRow.holds Try.pinned (OpenSpec.ofChange sumSplitsWrong)

/-- 'slipwaylaw11.SumCuts': WHATEVER THE INPUT: true; the input reads as it did. -/
def sumCutsSpec : ChangeSpec := { name := "sumCuts", fn := fun _ => fun
  | [d1, d2] => { results := [.lit (.bool true)], args := [d1, d2] }
  | _ => none }
def sumCutsRow : OpenClaim := { program := "ytobogmcihnikeaa", sum := "e0d884da24c7a350e5d424579ff86dfe1b09bb87c3ec58e4296180208107f8c0", func := "slipway/slipwaylaw11.SumCuts", spec := "sumCuts", apart := false }
def SumCutsSaid : Prop := sumCutsRow.holds Try.pinned (OpenSpec.ofChange sumCutsSpec)

/-- ITS FALSE NEIGHBOUR: 'it returns false'. Refute it at one input. -/
def sumCutsWrong : ChangeSpec := { name := "sumCuts", fn := fun _ => fun
  | [d1, d2] => { results := [.lit (.bool false)], args := [d1, d2] }
  | _ => none }
def SumCutsWrongFalsely : Prop := sumCutsRow.holds Try.pinned (OpenSpec.ofChange sumCutsWrong)

/- THE SECOND FORM. 'bulk': how many values and letters a reading holds, each counted each time it is reached (what is shared counts as often as it is met; a slice's spare places count too). A statement '..UptoSaid' is the law's where the arguments, and the package variables that the reading takes, are together of bulk at most 1048576: NARROWER than '..Said'. Prove '..Said' where nothing that the law and all that it calls make is longer than what came in: it says more and counts as full. Else prove '..UptoSaid'. A law counts once. -/
mutual
def uptoBulk {H : Type} : DataW H → Nat
  | .lit (.string bytes) => bytes.length + 1
  | .lit _ => 1
  | .nil => 1
  | .ptr d => uptoBulk d + 1
  | .slice elems spare => uptoBulkAll elems + uptoBulkAll spare + 1
  | .agg parts => uptoBulkAll parts + 1
  | .iface _ d => uptoBulk d + 1
  | .map entries => uptoBulkEntries entries + 1
  | .held _ => 1
def uptoBulkAll {H : Type} : List (DataW H) → Nat
  | [] => 0
  | d :: r => uptoBulk d + uptoBulkAll r
def uptoBulkEntries {H : Type} : List (Lit × DataW H) → Nat
  | [] => 0
  | x :: r => uptoBulkEntry x + uptoBulkEntries r
def uptoBulkEntry {H : Type} : Lit × DataW H → Nat
  | (.string bytes, d) => bytes.length + uptoBulk d + 1
  | (_, d) => uptoBulk d + 1
 end
def uptoSmall : (H : Type) → List (DataW H) → Bool := fun _ ds => decide (uptoBulkAll ds ≤ 1048576)
def OpenSpec.upto (s : _root_.Go.ChangeSpec) : _root_.Go.OpenSpec := { _root_.Go.OpenSpec.ofChange s with cond := some uptoSmall }

/-- 'slipwaylaw11.SumOf', WHERE WHAT IT READS IS OF BULK AT MOST 1048576: true; the input reads as it did. -/
def sumOfUptoRow : OpenClaim := { program := "ytobogmcihnikeaa", sum := "e0d884da24c7a350e5d424579ff86dfe1b09bb87c3ec58e4296180208107f8c0", func := "slipway/slipwaylaw11.SumOf", spec := "sumOf", apart := false, narrowed := true }
def SumOfUptoSaid : Prop := sumOfUptoRow.holds Try.pinned (OpenSpec.upto sumOfSpec)

/-- 'slipwaylaw11.SumFlips', WHERE WHAT IT READS IS OF BULK AT MOST 1048576: true; the input reads as it did. -/
def sumFlipsUptoRow : OpenClaim := { program := "ytobogmcihnikeaa", sum := "e0d884da24c7a350e5d424579ff86dfe1b09bb87c3ec58e4296180208107f8c0", func := "slipway/slipwaylaw11.SumFlips", spec := "sumFlips", apart := false, narrowed := true }
def SumFlipsUptoSaid : Prop := sumFlipsUptoRow.holds Try.pinned (OpenSpec.upto sumFlipsSpec)

/-- 'slipwaylaw11.SumLinear', WHERE WHAT IT READS IS OF BULK AT MOST 1048576: true; the input reads as it did. -/
def sumLinearUptoRow : OpenClaim := { program := "ytobogmcihnikeaa", sum := "e0d884da24c7a350e5d424579ff86dfe1b09bb87c3ec58e4296180208107f8c0", func := "slipway/slipwaylaw11.SumLinear", spec := "sumLinear", apart := false, narrowed := true }
def SumLinearUptoSaid : Prop := sumLinearUptoRow.holds Try.pinned (OpenSpec.upto sumLinearSpec)

/-- 'slipwaylaw11.SumOpens', WHERE WHAT IT READS IS OF BULK AT MOST 1048576: true; the input reads as it did. -/
def sumOpensUptoRow : OpenClaim := { program := "ytobogmcihnikeaa", sum := "e0d884da24c7a350e5d424579ff86dfe1b09bb87c3ec58e4296180208107f8c0", func := "slipway/slipwaylaw11.SumOpens", spec := "sumOpens", apart := false, narrowed := true }
def SumOpensUptoSaid : Prop := sumOpensUptoRow.holds Try.pinned (OpenSpec.upto sumOpensSpec)

/-- 'slipwaylaw11.SumSplits', WHERE WHAT IT READS IS OF BULK AT MOST 1048576: true; the input reads as it did. -/
def sumSplitsUptoRow : OpenClaim := { program := "ytobogmcihnikeaa", sum := "e0d884da24c7a350e5d424579ff86dfe1b09bb87c3ec58e4296180208107f8c0", func := "slipway/slipwaylaw11.SumSplits", spec := "sumSplits", apart := false, narrowed := true }
def SumSplitsUptoSaid : Prop := sumSplitsUptoRow.holds Try.pinned (OpenSpec.upto sumSplitsSpec)

/-- 'slipwaylaw11.SumCuts', WHERE WHAT IT READS IS OF BULK AT MOST 1048576: true; the input reads as it did. -/
def sumCutsUptoRow : OpenClaim := { program := "ytobogmcihnikeaa", sum := "e0d884da24c7a350e5d424579ff86dfe1b09bb87c3ec58e4296180208107f8c0", func := "slipway/slipwaylaw11.SumCuts", spec := "sumCuts", apart := false, narrowed := true }
def SumCutsUptoSaid : Prop := sumCutsUptoRow.holds Try.pinned (OpenSpec.upto sumCutsSpec)

end Rows
end Go.Proofs.Ytobogmcihnikeaa
