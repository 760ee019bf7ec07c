/-
  No cell of these rows narrows 'for every input' (looked for: loops, veiled, ifaces, maps, wideKeys, modest, calm, conditions, laid).
  DERIVED. THE GIVEN ROWS OF THIS SEAT. 8 by the template 'for every input the law returns true; each argument reads behind the call as it read before'; 0 by the template 'total and deterministic' (their statements: YthefbeekcjchcaaTotals.lean).
  GIVEN WITH THE SEED: the statements are not yours to turn. If you find one false, say at which input.
  Laid BY PROGRAM, IN A SANDBOX (cutbox-rows.mjs): the forced cells as the released guide's own fill.sh prints them over the translation 209c84f0cba86a85… (all of the seat's roots in one cut). By AI agents, Wed Nov 11 2026. No macro, syntax, notation, axiom, sorry.
-/
import Derived.Test.YthefbeekcjchcaaChecked
import GoSem.Claim
import GoSem.ClaimJoined
import GoSem.ClaimMapViews
import Derived.JoinedTies
import Derived.KernelRfl
namespace Go.Proofs.Ythefbeekcjchcaa
/- THE CELL 'sum', in the pinned program and in every row, IS THE sha256 OF THE DUMP (.gsa) THAT YthefbeekcjchcaaProg.lean LOADS. Nothing in Lean hashes anything: it is a label: what it is worth is what the hold of that sum in a sandbox is worth. -/
noncomputable def Try.pinned : Pinned := { name := "ythefbeekcjchcaa", sum := "209c84f0cba86a8569780318217a521e7b0714d6ec4d675596515eaec28c687f", checked := Try.checked }
namespace Rows
def none {H : Type} : Left H := { results := [], args := [] }

/-- 'slipwaylaw12.CodeNumbers': WHATEVER THE INPUT: true; the input reads as it did. -/
def codeNumbersSpec : ChangeSpec := { name := "codeNumbers", fn := fun _ => fun
  | [d] => { results := [.lit (.bool true)], args := [d] }
  | _ => none }
def codeNumbersRow : OpenClaim := { program := "ythefbeekcjchcaa", sum := "209c84f0cba86a8569780318217a521e7b0714d6ec4d675596515eaec28c687f", func := "slipway/slipwaylaw12.CodeNumbers", spec := "codeNumbers", unfollowed := true, recurses := true, apart := false }
def CodeNumbersSaid : Prop := codeNumbersRow.holds Try.pinned (OpenSpec.ofChange codeNumbersSpec)

/-- ITS FALSE NEIGHBOUR: 'it returns false'. Refute it at one input. -/
def codeNumbersWrong : ChangeSpec := { name := "codeNumbers", fn := fun _ => fun
  | [d] => { results := [.lit (.bool false)], args := [d] }
  | _ => none }
def CodeNumbersWrongFalsely : Prop := codeNumbersRow.holds Try.pinned (OpenSpec.ofChange codeNumbersWrong)

/-- 'slipwaylaw12.CodeReads': WHATEVER THE INPUT: true; the input reads as it did. -/
def codeReadsSpec : ChangeSpec := { name := "codeReads", fn := fun _ => fun
  | [d] => { results := [.lit (.bool true)], args := [d] }
  | _ => none }
def codeReadsRow : OpenClaim := { program := "ythefbeekcjchcaa", sum := "209c84f0cba86a8569780318217a521e7b0714d6ec4d675596515eaec28c687f", func := "slipway/slipwaylaw12.CodeReads", spec := "codeReads", unfollowed := true, recurses := true, apart := false }
def CodeReadsSaid : Prop := codeReadsRow.holds Try.pinned (OpenSpec.ofChange codeReadsSpec)

/-- ITS FALSE NEIGHBOUR: 'it returns false'. Refute it at one input. -/
def codeReadsWrong : ChangeSpec := { name := "codeReads", fn := fun _ => fun
  | [d] => { results := [.lit (.bool false)], args := [d] }
  | _ => none }
def CodeReadsWrongFalsely : Prop := codeReadsRow.holds Try.pinned (OpenSpec.ofChange codeReadsWrong)

/-- 'slipwaylaw12.CodePlans': WHATEVER THE INPUT: true; the input reads as it did. -/
def codePlansSpec : ChangeSpec := { name := "codePlans", fn := fun _ => fun
  | [d1, d2] => { results := [.lit (.bool true)], args := [d1, d2] }
  | _ => none }
def codePlansRow : OpenClaim := { program := "ythefbeekcjchcaa", sum := "209c84f0cba86a8569780318217a521e7b0714d6ec4d675596515eaec28c687f", func := "slipway/slipwaylaw12.CodePlans", spec := "codePlans", unfollowed := true, recurses := true, apart := false }
def CodePlansSaid : Prop := codePlansRow.holds Try.pinned (OpenSpec.ofChange codePlansSpec)

/-- ITS FALSE NEIGHBOUR: 'it returns false'. Refute it at one input. -/
def codePlansWrong : ChangeSpec := { name := "codePlans", fn := fun _ => fun
  | [d1, d2] => { results := [.lit (.bool false)], args := [d1, d2] }
  | _ => none }
def CodePlansWrongFalsely : Prop := codePlansRow.holds Try.pinned (OpenSpec.ofChange codePlansWrong)

/-- 'slipwaylaw12.CodeUnlike': WHATEVER THE INPUT: true; the input reads as it did. -/
def codeUnlikeSpec : ChangeSpec := { name := "codeUnlike", fn := fun _ => fun
  | [d1, d2] => { results := [.lit (.bool true)], args := [d1, d2] }
  | _ => none }
def codeUnlikeRow : OpenClaim := { program := "ythefbeekcjchcaa", sum := "209c84f0cba86a8569780318217a521e7b0714d6ec4d675596515eaec28c687f", func := "slipway/slipwaylaw12.CodeUnlike", spec := "codeUnlike", unfollowed := true, recurses := true, apart := false }
def CodeUnlikeSaid : Prop := codeUnlikeRow.holds Try.pinned (OpenSpec.ofChange codeUnlikeSpec)

/-- ITS FALSE NEIGHBOUR: 'it returns false'. Refute it at one input. -/
def codeUnlikeWrong : ChangeSpec := { name := "codeUnlike", fn := fun _ => fun
  | [d1, d2] => { results := [.lit (.bool false)], args := [d1, d2] }
  | _ => none }
def CodeUnlikeWrongFalsely : Prop := codeUnlikeRow.holds Try.pinned (OpenSpec.ofChange codeUnlikeWrong)

/-- 'slipwaylaw12.CodeRequests': WHATEVER THE INPUT: true; the input reads as it did. -/
def codeRequestsSpec : ChangeSpec := { name := "codeRequests", fn := fun _ => fun
  | [d1, d2] => { results := [.lit (.bool true)], args := [d1, d2] }
  | _ => none }
def codeRequestsRow : OpenClaim := { program := "ythefbeekcjchcaa", sum := "209c84f0cba86a8569780318217a521e7b0714d6ec4d675596515eaec28c687f", func := "slipway/slipwaylaw12.CodeRequests", spec := "codeRequests", unfollowed := true, recurses := true, apart := false }
def CodeRequestsSaid : Prop := codeRequestsRow.holds Try.pinned (OpenSpec.ofChange codeRequestsSpec)

/-- ITS FALSE NEIGHBOUR: 'it returns false'. Refute it at one input. -/
def codeRequestsWrong : ChangeSpec := { name := "codeRequests", fn := fun _ => fun
  | [d1, d2] => { results := [.lit (.bool false)], args := [d1, d2] }
  | _ => none }
def CodeRequestsWrongFalsely : Prop := codeRequestsRow.holds Try.pinned (OpenSpec.ofChange codeRequestsWrong)

/-- 'slipwaylaw12.CodeCatalogs': WHATEVER THE INPUT: true; the input reads as it did. -/
def codeCatalogsSpec : ChangeSpec := { name := "codeCatalogs", fn := fun _ => fun
  | [d] => { results := [.lit (.bool true)], args := [d] }
  | _ => none }
def codeCatalogsRow : OpenClaim := { program := "ythefbeekcjchcaa", sum := "209c84f0cba86a8569780318217a521e7b0714d6ec4d675596515eaec28c687f", func := "slipway/slipwaylaw12.CodeCatalogs", spec := "codeCatalogs", unfollowed := true, recurses := true, apart := false }
def CodeCatalogsSaid : Prop := codeCatalogsRow.holds Try.pinned (OpenSpec.ofChange codeCatalogsSpec)

/-- ITS FALSE NEIGHBOUR: 'it returns false'. Refute it at one input. -/
def codeCatalogsWrong : ChangeSpec := { name := "codeCatalogs", fn := fun _ => fun
  | [d] => { results := [.lit (.bool false)], args := [d] }
  | _ => none }
def CodeCatalogsWrongFalsely : Prop := codeCatalogsRow.holds Try.pinned (OpenSpec.ofChange codeCatalogsWrong)

/-- 'slipwaylaw12.CodeGets': WHATEVER THE INPUT: true; the input reads as it did. -/
def codeGetsSpec : ChangeSpec := { name := "codeGets", fn := fun _ => fun
  | [d] => { results := [.lit (.bool true)], args := [d] }
  | _ => none }
def codeGetsRow : OpenClaim := { program := "ythefbeekcjchcaa", sum := "209c84f0cba86a8569780318217a521e7b0714d6ec4d675596515eaec28c687f", func := "slipway/slipwaylaw12.CodeGets", spec := "codeGets", unfollowed := true, recurses := true, apart := false }
def CodeGetsSaid : Prop := codeGetsRow.holds Try.pinned (OpenSpec.ofChange codeGetsSpec)

/-- ITS FALSE NEIGHBOUR: 'it returns false'. Refute it at one input. -/
def codeGetsWrong : ChangeSpec := { name := "codeGets", fn := fun _ => fun
  | [d] => { results := [.lit (.bool false)], args := [d] }
  | _ => none }
def CodeGetsWrongFalsely : Prop := codeGetsRow.holds Try.pinned (OpenSpec.ofChange codeGetsWrong)

/-- 'slipwaylaw12.CodeCuts': WHATEVER THE INPUT: true; the input reads as it did. -/
def codeCutsSpec : ChangeSpec := { name := "codeCuts", fn := fun _ => fun
  | [d1, d2, d3] => { results := [.lit (.bool true)], args := [d1, d2, d3] }
  | _ => none }
def codeCutsRow : OpenClaim := { program := "ythefbeekcjchcaa", sum := "209c84f0cba86a8569780318217a521e7b0714d6ec4d675596515eaec28c687f", func := "slipway/slipwaylaw12.CodeCuts", spec := "codeCuts", unfollowed := true, recurses := true, apart := false }
def CodeCutsSaid : Prop := codeCutsRow.holds Try.pinned (OpenSpec.ofChange codeCutsSpec)

/-- ITS FALSE NEIGHBOUR: 'it returns false'. Refute it at one input. -/
def codeCutsWrong : ChangeSpec := { name := "codeCuts", fn := fun _ => fun
  | [d1, d2, d3] => { results := [.lit (.bool false)], args := [d1, d2, d3] }
  | _ => none }
def CodeCutsWrongFalsely : Prop := codeCutsRow.holds Try.pinned (OpenSpec.ofChange codeCutsWrong)

/- THE SECOND FORM. 'bulk': how many values and letters a reading holds, each counted each time it is reached (what is shared counts as often as it is met; a slice's spare places count too). A statement '..UptoSaid' is the law's where the arguments, and the package variables that the reading takes, are together of bulk at most 1048576: NARROWER than '..Said'. Prove '..Said' where nothing that the law and all that it calls make is longer than what came in: it says more and counts as full. Else prove '..UptoSaid'. A law counts once. -/
mutual
def uptoBulk {H : Type} : DataW H → Nat
  | .lit (.string bytes) => bytes.length + 1
  | .lit _ => 1
  | .nil => 1
  | .ptr d => uptoBulk d + 1
  | .slice elems spare => uptoBulkAll elems + uptoBulkAll spare + 1
  | .agg parts => uptoBulkAll parts + 1
  | .iface _ d => uptoBulk d + 1
  | .map entries => uptoBulkEntries entries + 1
  | .held _ => 1
def uptoBulkAll {H : Type} : List (DataW H) → Nat
  | [] => 0
  | d :: r => uptoBulk d + uptoBulkAll r
def uptoBulkEntries {H : Type} : List (Lit × DataW H) → Nat
  | [] => 0
  | x :: r => uptoBulkEntry x + uptoBulkEntries r
def uptoBulkEntry {H : Type} : Lit × DataW H → Nat
  | (.string bytes, d) => bytes.length + uptoBulk d + 1
  | (_, d) => uptoBulk d + 1
 end
def uptoSmall : (H : Type) → List (DataW H) → Bool := fun _ ds => decide (uptoBulkAll ds ≤ 1048576)
def OpenSpec.upto (s : _root_.Go.ChangeSpec) : _root_.Go.OpenSpec := { _root_.Go.OpenSpec.ofChange s with cond := some uptoSmall }

/-- 'slipwaylaw12.CodeNumbers', WHERE WHAT IT READS IS OF BULK AT MOST 1048576: true; the input reads as it did. -/
def codeNumbersUptoRow : OpenClaim := { program := "ythefbeekcjchcaa", sum := "209c84f0cba86a8569780318217a521e7b0714d6ec4d675596515eaec28c687f", func := "slipway/slipwaylaw12.CodeNumbers", spec := "codeNumbers", unfollowed := true, recurses := true, apart := false, narrowed := true }
def CodeNumbersUptoSaid : Prop := codeNumbersUptoRow.holds Try.pinned (OpenSpec.upto codeNumbersSpec)

/-- 'slipwaylaw12.CodeReads', WHERE WHAT IT READS IS OF BULK AT MOST 1048576: true; the input reads as it did. -/
def codeReadsUptoRow : OpenClaim := { program := "ythefbeekcjchcaa", sum := "209c84f0cba86a8569780318217a521e7b0714d6ec4d675596515eaec28c687f", func := "slipway/slipwaylaw12.CodeReads", spec := "codeReads", unfollowed := true, recurses := true, apart := false, narrowed := true }
def CodeReadsUptoSaid : Prop := codeReadsUptoRow.holds Try.pinned (OpenSpec.upto codeReadsSpec)

/-- 'slipwaylaw12.CodePlans', WHERE WHAT IT READS IS OF BULK AT MOST 1048576: true; the input reads as it did. -/
def codePlansUptoRow : OpenClaim := { program := "ythefbeekcjchcaa", sum := "209c84f0cba86a8569780318217a521e7b0714d6ec4d675596515eaec28c687f", func := "slipway/slipwaylaw12.CodePlans", spec := "codePlans", unfollowed := true, recurses := true, apart := false, narrowed := true }
def CodePlansUptoSaid : Prop := codePlansUptoRow.holds Try.pinned (OpenSpec.upto codePlansSpec)

/-- 'slipwaylaw12.CodeUnlike', WHERE WHAT IT READS IS OF BULK AT MOST 1048576: true; the input reads as it did. -/
def codeUnlikeUptoRow : OpenClaim := { program := "ythefbeekcjchcaa", sum := "209c84f0cba86a8569780318217a521e7b0714d6ec4d675596515eaec28c687f", func := "slipway/slipwaylaw12.CodeUnlike", spec := "codeUnlike", unfollowed := true, recurses := true, apart := false, narrowed := true }
def CodeUnlikeUptoSaid : Prop := codeUnlikeUptoRow.holds Try.pinned (OpenSpec.upto codeUnlikeSpec)

/-- 'slipwaylaw12.CodeRequests', WHERE WHAT IT READS IS OF BULK AT MOST 1048576: true; the input reads as it did. -/
def codeRequestsUptoRow : OpenClaim := { program := "ythefbeekcjchcaa", sum := "209c84f0cba86a8569780318217a521e7b0714d6ec4d675596515eaec28c687f", func := "slipway/slipwaylaw12.CodeRequests", spec := "codeRequests", unfollowed := true, recurses := true, apart := false, narrowed := true }
def CodeRequestsUptoSaid : Prop := codeRequestsUptoRow.holds Try.pinned (OpenSpec.upto codeRequestsSpec)

/-- 'slipwaylaw12.CodeCatalogs', WHERE WHAT IT READS IS OF BULK AT MOST 1048576: true; the input reads as it did. -/
def codeCatalogsUptoRow : OpenClaim := { program := "ythefbeekcjchcaa", sum := "209c84f0cba86a8569780318217a521e7b0714d6ec4d675596515eaec28c687f", func := "slipway/slipwaylaw12.CodeCatalogs", spec := "codeCatalogs", unfollowed := true, recurses := true, apart := false, narrowed := true }
def CodeCatalogsUptoSaid : Prop := codeCatalogsUptoRow.holds Try.pinned (OpenSpec.upto codeCatalogsSpec)

/-- 'slipwaylaw12.CodeGets', WHERE WHAT IT READS IS OF BULK AT MOST 1048576: true; the input reads as it did. -/
def codeGetsUptoRow : OpenClaim := { program := "ythefbeekcjchcaa", sum := "209c84f0cba86a8569780318217a521e7b0714d6ec4d675596515eaec28c687f", func := "slipway/slipwaylaw12.CodeGets", spec := "codeGets", unfollowed := true, recurses := true, apart := false, narrowed := true }
def CodeGetsUptoSaid : Prop := codeGetsUptoRow.holds Try.pinned (OpenSpec.upto codeGetsSpec)

/-- 'slipwaylaw12.CodeCuts', WHERE WHAT IT READS IS OF BULK AT MOST 1048576: true; the input reads as it did. -/
def codeCutsUptoRow : OpenClaim := { program := "ythefbeekcjchcaa", sum := "209c84f0cba86a8569780318217a521e7b0714d6ec4d675596515eaec28c687f", func := "slipway/slipwaylaw12.CodeCuts", spec := "codeCuts", unfollowed := true, recurses := true, apart := false, narrowed := true }
def CodeCutsUptoSaid : Prop := codeCutsUptoRow.holds Try.pinned (OpenSpec.upto codeCutsSpec)

end Rows
end Go.Proofs.Ythefbeekcjchcaa
