/-
  No cell of these rows narrows 'for every input' (looked for: loops, veiled, ifaces, maps, wideKeys, modest, calm, conditions, laid).
  DERIVED. THE GIVEN ROWS OF THIS SEAT. 5 by the template 'for every input the law returns true; each argument reads behind the call as it read before'; 0 by the template 'total and deterministic' (their statements: YtheoigojcdgeeaaTotals.lean).
  GIVEN WITH THE SEED: the statements are not yours to turn. If you find one false, say at which input.
  Laid BY PROGRAM, IN A SANDBOX (cutbox-rows.mjs): the forced cells as the released guide's own fill.sh prints them over the translation 7efa00543f03f3c5… (all of the seat's roots in one cut). By AI agents, Wed Nov 11 2026. No macro, syntax, notation, axiom, sorry.
-/
import Derived.Test.YtheoigojcdgeeaaChecked
import GoSem.Claim
import GoSem.ClaimJoined
import GoSem.ClaimMapViews
import Derived.JoinedTies
import Derived.KernelRfl
namespace Go.Proofs.Ytheoigojcdgeeaa
/- THE CELL 'sum', in the pinned program and in every row, IS THE sha256 OF THE DUMP (.gsa) THAT YtheoigojcdgeeaaProg.lean LOADS. Nothing in Lean hashes anything: it is a label: what it is worth is what the hold of that sum in a sandbox is worth. -/
noncomputable def Try.pinned : Pinned := { name := "ytheoigojcdgeeaa", sum := "7efa00543f03f3c537f425e96cf7836464b08c5718f54d93060569d0e308e3e3", checked := Try.checked }
namespace Rows
def none {H : Type} : Left H := { results := [], args := [] }

/-- 'slipwaylaw16.BackoffWaits': WHATEVER THE INPUT: true; the input reads as it did. -/
def backoffWaitsSpec : ChangeSpec := { name := "backoffWaits", fn := fun _ => fun
  | [d1, d2, d3] => { results := [.lit (.bool true)], args := [d1, d2, d3] }
  | _ => none }
def backoffWaitsRow : OpenClaim := { program := "ytheoigojcdgeeaa", sum := "7efa00543f03f3c537f425e96cf7836464b08c5718f54d93060569d0e308e3e3", func := "slipway/slipwaylaw16.BackoffWaits", spec := "backoffWaits", apart := false }
def BackoffWaitsSaid : Prop := backoffWaitsRow.holds Try.pinned (OpenSpec.ofChange backoffWaitsSpec)

/-- ITS FALSE NEIGHBOUR: 'it returns false'. Refute it at one input. -/
def backoffWaitsWrong : ChangeSpec := { name := "backoffWaits", fn := fun _ => fun
  | [d1, d2, d3] => { results := [.lit (.bool false)], args := [d1, d2, d3] }
  | _ => none }
def BackoffWaitsWrongFalsely : Prop := backoffWaitsRow.holds Try.pinned (OpenSpec.ofChange backoffWaitsWrong)

/-- 'slipwaylaw16.BackoffTotals': WHATEVER THE INPUT: true; the input reads as it did. -/
def backoffTotalsSpec : ChangeSpec := { name := "backoffTotals", fn := fun _ => fun
  | [d1, d2, d3] => { results := [.lit (.bool true)], args := [d1, d2, d3] }
  | _ => none }
def backoffTotalsRow : OpenClaim := { program := "ytheoigojcdgeeaa", sum := "7efa00543f03f3c537f425e96cf7836464b08c5718f54d93060569d0e308e3e3", func := "slipway/slipwaylaw16.BackoffTotals", spec := "backoffTotals", apart := false }
def BackoffTotalsSaid : Prop := backoffTotalsRow.holds Try.pinned (OpenSpec.ofChange backoffTotalsSpec)

/-- ITS FALSE NEIGHBOUR: 'it returns false'. Refute it at one input. -/
def backoffTotalsWrong : ChangeSpec := { name := "backoffTotals", fn := fun _ => fun
  | [d1, d2, d3] => { results := [.lit (.bool false)], args := [d1, d2, d3] }
  | _ => none }
def BackoffTotalsWrongFalsely : Prop := backoffTotalsRow.holds Try.pinned (OpenSpec.ofChange backoffTotalsWrong)

/-- 'slipwaylaw16.BackoffAdds': WHATEVER THE INPUT: true; the input reads as it did. -/
def backoffAddsSpec : ChangeSpec := { name := "backoffAdds", fn := fun _ => fun
  | [d1, d2, d3] => { results := [.lit (.bool true)], args := [d1, d2, d3] }
  | _ => none }
def backoffAddsRow : OpenClaim := { program := "ytheoigojcdgeeaa", sum := "7efa00543f03f3c537f425e96cf7836464b08c5718f54d93060569d0e308e3e3", func := "slipway/slipwaylaw16.BackoffAdds", spec := "backoffAdds", apart := false }
def BackoffAddsSaid : Prop := backoffAddsRow.holds Try.pinned (OpenSpec.ofChange backoffAddsSpec)

/-- ITS FALSE NEIGHBOUR: 'it returns false'. Refute it at one input. -/
def backoffAddsWrong : ChangeSpec := { name := "backoffAdds", fn := fun _ => fun
  | [d1, d2, d3] => { results := [.lit (.bool false)], args := [d1, d2, d3] }
  | _ => none }
def BackoffAddsWrongFalsely : Prop := backoffAddsRow.holds Try.pinned (OpenSpec.ofChange backoffAddsWrong)

/-- 'slipwaylaw16.BackoffReaches': WHATEVER THE INPUT: true; the input reads as it did. -/
def backoffReachesSpec : ChangeSpec := { name := "backoffReaches", fn := fun _ => fun
  | [d] => { results := [.lit (.bool true)], args := [d] }
  | _ => none }
def backoffReachesRow : OpenClaim := { program := "ytheoigojcdgeeaa", sum := "7efa00543f03f3c537f425e96cf7836464b08c5718f54d93060569d0e308e3e3", func := "slipway/slipwaylaw16.BackoffReaches", spec := "backoffReaches", unfollowed := true, recurses := true, apart := false }
def BackoffReachesSaid : Prop := backoffReachesRow.holds Try.pinned (OpenSpec.ofChange backoffReachesSpec)

/-- ITS FALSE NEIGHBOUR: 'it returns false'. Refute it at one input. -/
def backoffReachesWrong : ChangeSpec := { name := "backoffReaches", fn := fun _ => fun
  | [d] => { results := [.lit (.bool false)], args := [d] }
  | _ => none }
def BackoffReachesWrongFalsely : Prop := backoffReachesRow.holds Try.pinned (OpenSpec.ofChange backoffReachesWrong)

/-- 'slipwaylaw16.BackoffClocks': WHATEVER THE INPUT: true; the input reads as it did. -/
def backoffClocksSpec : ChangeSpec := { name := "backoffClocks", fn := fun _ => fun
  | [d1, d2] => { results := [.lit (.bool true)], args := [d1, d2] }
  | _ => none }
def backoffClocksRow : OpenClaim := { program := "ytheoigojcdgeeaa", sum := "7efa00543f03f3c537f425e96cf7836464b08c5718f54d93060569d0e308e3e3", func := "slipway/slipwaylaw16.BackoffClocks", spec := "backoffClocks", unfollowed := true, recurses := true, apart := false }
def BackoffClocksSaid : Prop := backoffClocksRow.holds Try.pinned (OpenSpec.ofChange backoffClocksSpec)

/-- ITS FALSE NEIGHBOUR: 'it returns false'. Refute it at one input. -/
def backoffClocksWrong : ChangeSpec := { name := "backoffClocks", fn := fun _ => fun
  | [d1, d2] => { results := [.lit (.bool false)], args := [d1, d2] }
  | _ => none }
def BackoffClocksWrongFalsely : Prop := backoffClocksRow.holds Try.pinned (OpenSpec.ofChange backoffClocksWrong)

/- THE SECOND FORM. 'bulk': how many values and letters a reading holds, each counted each time it is reached (what is shared counts as often as it is met; a slice's spare places count too). A statement '..UptoSaid' is the law's where the arguments, and the package variables that the reading takes, are together of bulk at most 1048576: NARROWER than '..Said'. Prove '..Said' where nothing that the law and all that it calls make is longer than what came in: it says more and counts as full. Else prove '..UptoSaid'. A law counts once. -/
mutual
def uptoBulk {H : Type} : DataW H → Nat
  | .lit (.string bytes) => bytes.length + 1
  | .lit _ => 1
  | .nil => 1
  | .ptr d => uptoBulk d + 1
  | .slice elems spare => uptoBulkAll elems + uptoBulkAll spare + 1
  | .agg parts => uptoBulkAll parts + 1
  | .iface _ d => uptoBulk d + 1
  | .map entries => uptoBulkEntries entries + 1
  | .held _ => 1
def uptoBulkAll {H : Type} : List (DataW H) → Nat
  | [] => 0
  | d :: r => uptoBulk d + uptoBulkAll r
def uptoBulkEntries {H : Type} : List (Lit × DataW H) → Nat
  | [] => 0
  | x :: r => uptoBulkEntry x + uptoBulkEntries r
def uptoBulkEntry {H : Type} : Lit × DataW H → Nat
  | (.string bytes, d) => bytes.length + uptoBulk d + 1
  | (_, d) => uptoBulk d + 1
 end
def uptoSmall : (H : Type) → List (DataW H) → Bool := fun _ ds => decide (uptoBulkAll ds ≤ 1048576)
def OpenSpec.upto (s : _root_.Go.ChangeSpec) : _root_.Go.OpenSpec := { _root_.Go.OpenSpec.ofChange s with cond := some uptoSmall }

/-- 'slipwaylaw16.BackoffWaits', WHERE WHAT IT READS IS OF BULK AT MOST 1048576: true; the input reads as it did. -/
def backoffWaitsUptoRow : OpenClaim := { program := "ytheoigojcdgeeaa", sum := "7efa00543f03f3c537f425e96cf7836464b08c5718f54d93060569d0e308e3e3", func := "slipway/slipwaylaw16.BackoffWaits", spec := "backoffWaits", apart := false, narrowed := true }
def BackoffWaitsUptoSaid : Prop := backoffWaitsUptoRow.holds Try.pinned (OpenSpec.upto backoffWaitsSpec)

/-- 'slipwaylaw16.BackoffTotals', WHERE WHAT IT READS IS OF BULK AT MOST 1048576: true; the input reads as it did. -/
def backoffTotalsUptoRow : OpenClaim := { program := "ytheoigojcdgeeaa", sum := "7efa00543f03f3c537f425e96cf7836464b08c5718f54d93060569d0e308e3e3", func := "slipway/slipwaylaw16.BackoffTotals", spec := "backoffTotals", apart := false, narrowed := true }
def BackoffTotalsUptoSaid : Prop := backoffTotalsUptoRow.holds Try.pinned (OpenSpec.upto backoffTotalsSpec)

/-- 'slipwaylaw16.BackoffAdds', WHERE WHAT IT READS IS OF BULK AT MOST 1048576: true; the input reads as it did. -/
def backoffAddsUptoRow : OpenClaim := { program := "ytheoigojcdgeeaa", sum := "7efa00543f03f3c537f425e96cf7836464b08c5718f54d93060569d0e308e3e3", func := "slipway/slipwaylaw16.BackoffAdds", spec := "backoffAdds", apart := false, narrowed := true }
def BackoffAddsUptoSaid : Prop := backoffAddsUptoRow.holds Try.pinned (OpenSpec.upto backoffAddsSpec)

/-- 'slipwaylaw16.BackoffReaches', WHERE WHAT IT READS IS OF BULK AT MOST 1048576: true; the input reads as it did. -/
def backoffReachesUptoRow : OpenClaim := { program := "ytheoigojcdgeeaa", sum := "7efa00543f03f3c537f425e96cf7836464b08c5718f54d93060569d0e308e3e3", func := "slipway/slipwaylaw16.BackoffReaches", spec := "backoffReaches", unfollowed := true, recurses := true, apart := false, narrowed := true }
def BackoffReachesUptoSaid : Prop := backoffReachesUptoRow.holds Try.pinned (OpenSpec.upto backoffReachesSpec)

/-- 'slipwaylaw16.BackoffClocks', WHERE WHAT IT READS IS OF BULK AT MOST 1048576: true; the input reads as it did. -/
def backoffClocksUptoRow : OpenClaim := { program := "ytheoigojcdgeeaa", sum := "7efa00543f03f3c537f425e96cf7836464b08c5718f54d93060569d0e308e3e3", func := "slipway/slipwaylaw16.BackoffClocks", spec := "backoffClocks", unfollowed := true, recurses := true, apart := false, narrowed := true }
def BackoffClocksUptoSaid : Prop := backoffClocksUptoRow.holds Try.pinned (OpenSpec.upto backoffClocksSpec)

end Rows
end Go.Proofs.Ytheoigojcdgeeaa
