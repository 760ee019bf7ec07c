/-
  NARROWER THAN 'FOR EVERY INPUT', by the rows' own cells (each row's printed sentence says how): SagaThrough: laid · SagaOwn: laid · SagaClosed: laid · SagaMirrors: laid · LatticeAll: laid · LatticeWays: laid · LatticeDown: laid · LatticeMeets: laid · LatticeTurned: laid · LatticeUp: laid · LatticeBorder: laid · LatticeWay: laid.
  DERIVED. THE GIVEN ROWS OF THIS SEAT. 12 by the template 'for every input the law returns true; each argument reads behind the call as it read before'; 0 by the template 'total and deterministic' (their statements: YtplhihakeodadaaDoorTotals.lean).
  GIVEN WITH THE SEED: the statements are not yours to turn. If you find one false, say at which input.
  Laid BY PROGRAM, IN A SANDBOX (cutbox-rows.mjs): the forced cells as the released guide's own fill.sh prints them over the translation bbcbeae57e43bfb0… (all of the seat's roots in one cut). By AI agents, Wed Nov 11 2026. No macro, syntax, notation, axiom, sorry.
-/
import Derived.Test.YtplhihakeodadaaDoorChecked
import GoSem.Claim
import GoSem.ClaimJoined
import GoSem.ClaimMapViews
import Derived.JoinedTies
import Derived.KernelRfl
namespace Go.Proofs.YtplhihakeodadaaDoor
/- THE CELL 'sum', in the pinned program and in every row, IS THE sha256 OF THE DUMP (.gsa) THAT YtplhihakeodadaaDoorProg.lean LOADS. Nothing in Lean hashes anything: it is a label: what it is worth is what the hold of that sum in a sandbox is worth. -/
noncomputable def Tryd.pinned : Pinned := { name := "ytplhihakeodadaadoor", sum := "bbcbeae57e43bfb0bb5c684e11fcb2a6b9642a980a2b114c5b6913c5d1d83c56", checked := Tryd.checked }
namespace Rows
def none {H : Type} : Left H := { results := [], args := [] }

/- WHAT THE LISTED PACKAGE-LEVEL VARIABLES READ AS WHEN THE CALL BEGINS. Each datum BY PROGRAM (the guide's laid-datum.mjs) off the statement by which the dump's own 'gosem.cut.vars' lays the variable. In a bare row this is a premise. The card (YtplhihakeodadaaDoorCards.lean) ties it to the program's text. -/
def laid_math_bits_deBruijn64tab {H : Type} : DataW H := .agg [.lit (.int .u8 0), .lit (.int .u8 1), .lit (.int .u8 56), .lit (.int .u8 2), .lit (.int .u8 57), .lit (.int .u8 49), .lit (.int .u8 28), .lit (.int .u8 3), .lit (.int .u8 61), .lit (.int .u8 58), .lit (.int .u8 42), .lit (.int .u8 50), .lit (.int .u8 38), .lit (.int .u8 29), .lit (.int .u8 17), .lit (.int .u8 4), .lit (.int .u8 62), .lit (.int .u8 47), .lit (.int .u8 59), .lit (.int .u8 36), .lit (.int .u8 45), .lit (.int .u8 43), .lit (.int .u8 51), .lit (.int .u8 22), .lit (.int .u8 53), .lit (.int .u8 39), .lit (.int .u8 33), .lit (.int .u8 30), .lit (.int .u8 24), .lit (.int .u8 18), .lit (.int .u8 12), .lit (.int .u8 5), .lit (.int .u8 63), .lit (.int .u8 55), .lit (.int .u8 48), .lit (.int .u8 27), .lit (.int .u8 60), .lit (.int .u8 41), .lit (.int .u8 37), .lit (.int .u8 16), .lit (.int .u8 46), .lit (.int .u8 35), .lit (.int .u8 44), .lit (.int .u8 21), .lit (.int .u8 52), .lit (.int .u8 32), .lit (.int .u8 23), .lit (.int .u8 11), .lit (.int .u8 54), .lit (.int .u8 26), .lit (.int .u8 40), .lit (.int .u8 15), .lit (.int .u8 34), .lit (.int .u8 20), .lit (.int .u8 31), .lit (.int .u8 10), .lit (.int .u8 25), .lit (.int .u8 14), .lit (.int .u8 19), .lit (.int .u8 9), .lit (.int .u8 13), .lit (.int .u8 8), .lit (.int .u8 7), .lit (.int .u8 6)]

/-- 'slipwaylaw17.SagaThrough': WHATEVER THE INPUT: true; the input reads as it did. -/
def sagaThroughSpec : ChangeSpec := { name := "sagaThrough", fn := fun _ => fun
  | [d1, d2, d3] => { results := [.lit (.bool true)], args := [d1, d2, d3] }
  | _ => none }
def sagaThroughRow : OpenClaim := { program := "ytplhihakeodadaadoor", sum := "bbcbeae57e43bfb0bb5c684e11fcb2a6b9642a980a2b114c5b6913c5d1d83c56", func := "slipway/slipwaylaw17.SagaThrough", spec := "sagaThrough", unfollowed := true, recurses := true, named := ["math/bits.deBruijn64tab"], apart := false, laid := [("math/bits.deBruijn64tab", laid_math_bits_deBruijn64tab)] }
def SagaThroughSaid : Prop := sagaThroughRow.holds Tryd.pinned (OpenSpec.ofChange sagaThroughSpec)

/-- ITS FALSE NEIGHBOUR: 'it returns false'. Refute it at one input. -/
def sagaThroughWrong : ChangeSpec := { name := "sagaThrough", fn := fun _ => fun
  | [d1, d2, d3] => { results := [.lit (.bool false)], args := [d1, d2, d3] }
  | _ => none }
def SagaThroughWrongFalsely : Prop := sagaThroughRow.holds Tryd.pinned (OpenSpec.ofChange sagaThroughWrong)

/-- 'slipwaylaw17.SagaOwn': WHATEVER THE INPUT: true; the input reads as it did. -/
def sagaOwnSpec : ChangeSpec := { name := "sagaOwn", fn := fun _ => fun
  | [d] => { results := [.lit (.bool true)], args := [d] }
  | _ => none }
def sagaOwnRow : OpenClaim := { program := "ytplhihakeodadaadoor", sum := "bbcbeae57e43bfb0bb5c684e11fcb2a6b9642a980a2b114c5b6913c5d1d83c56", func := "slipway/slipwaylaw17.SagaOwn", spec := "sagaOwn", unfollowed := true, recurses := true, named := ["math/bits.deBruijn64tab"], apart := false, laid := [("math/bits.deBruijn64tab", laid_math_bits_deBruijn64tab)] }
def SagaOwnSaid : Prop := sagaOwnRow.holds Tryd.pinned (OpenSpec.ofChange sagaOwnSpec)

/-- ITS FALSE NEIGHBOUR: 'it returns false'. Refute it at one input. -/
def sagaOwnWrong : ChangeSpec := { name := "sagaOwn", fn := fun _ => fun
  | [d] => { results := [.lit (.bool false)], args := [d] }
  | _ => none }
def SagaOwnWrongFalsely : Prop := sagaOwnRow.holds Tryd.pinned (OpenSpec.ofChange sagaOwnWrong)

/-- 'slipwaylaw17.SagaClosed': WHATEVER THE INPUT: true; the input reads as it did. -/
def sagaClosedSpec : ChangeSpec := { name := "sagaClosed", fn := fun _ => fun
  | [d] => { results := [.lit (.bool true)], args := [d] }
  | _ => none }
def sagaClosedRow : OpenClaim := { program := "ytplhihakeodadaadoor", sum := "bbcbeae57e43bfb0bb5c684e11fcb2a6b9642a980a2b114c5b6913c5d1d83c56", func := "slipway/slipwaylaw17.SagaClosed", spec := "sagaClosed", unfollowed := true, recurses := true, named := ["math/bits.deBruijn64tab"], apart := false, laid := [("math/bits.deBruijn64tab", laid_math_bits_deBruijn64tab)] }
def SagaClosedSaid : Prop := sagaClosedRow.holds Tryd.pinned (OpenSpec.ofChange sagaClosedSpec)

/-- ITS FALSE NEIGHBOUR: 'it returns false'. Refute it at one input. -/
def sagaClosedWrong : ChangeSpec := { name := "sagaClosed", fn := fun _ => fun
  | [d] => { results := [.lit (.bool false)], args := [d] }
  | _ => none }
def SagaClosedWrongFalsely : Prop := sagaClosedRow.holds Tryd.pinned (OpenSpec.ofChange sagaClosedWrong)

/-- 'slipwaylaw17.SagaMirrors': WHATEVER THE INPUT: true; the input reads as it did. -/
def sagaMirrorsSpec : ChangeSpec := { name := "sagaMirrors", fn := fun _ => fun
  | [d1, d2] => { results := [.lit (.bool true)], args := [d1, d2] }
  | _ => none }
def sagaMirrorsRow : OpenClaim := { program := "ytplhihakeodadaadoor", sum := "bbcbeae57e43bfb0bb5c684e11fcb2a6b9642a980a2b114c5b6913c5d1d83c56", func := "slipway/slipwaylaw17.SagaMirrors", spec := "sagaMirrors", unfollowed := true, recurses := true, named := ["math/bits.deBruijn64tab"], apart := false, laid := [("math/bits.deBruijn64tab", laid_math_bits_deBruijn64tab)] }
def SagaMirrorsSaid : Prop := sagaMirrorsRow.holds Tryd.pinned (OpenSpec.ofChange sagaMirrorsSpec)

/-- ITS FALSE NEIGHBOUR: 'it returns false'. Refute it at one input. -/
def sagaMirrorsWrong : ChangeSpec := { name := "sagaMirrors", fn := fun _ => fun
  | [d1, d2] => { results := [.lit (.bool false)], args := [d1, d2] }
  | _ => none }
def SagaMirrorsWrongFalsely : Prop := sagaMirrorsRow.holds Tryd.pinned (OpenSpec.ofChange sagaMirrorsWrong)

/-- 'slipwaylaw09.LatticeAll': WHATEVER THE INPUT: true; the input reads as it did. -/
def latticeAllSpec : ChangeSpec := { name := "latticeAll", fn := fun _ => fun
  | [d] => { results := [.lit (.bool true)], args := [d] }
  | _ => none }
def latticeAllRow : OpenClaim := { program := "ytplhihakeodadaadoor", sum := "bbcbeae57e43bfb0bb5c684e11fcb2a6b9642a980a2b114c5b6913c5d1d83c56", func := "slipway/slipwaylaw09.LatticeAll", spec := "latticeAll", unfollowed := true, recurses := true, named := ["math/bits.deBruijn64tab"], apart := false, laid := [("math/bits.deBruijn64tab", laid_math_bits_deBruijn64tab)] }
def LatticeAllSaid : Prop := latticeAllRow.holds Tryd.pinned (OpenSpec.ofChange latticeAllSpec)

/-- ITS FALSE NEIGHBOUR: 'it returns false'. Refute it at one input. -/
def latticeAllWrong : ChangeSpec := { name := "latticeAll", fn := fun _ => fun
  | [d] => { results := [.lit (.bool false)], args := [d] }
  | _ => none }
def LatticeAllWrongFalsely : Prop := latticeAllRow.holds Tryd.pinned (OpenSpec.ofChange latticeAllWrong)

/-- 'slipwaylaw09.LatticeWays': WHATEVER THE INPUT: true; the input reads as it did. -/
def latticeWaysSpec : ChangeSpec := { name := "latticeWays", fn := fun _ => fun
  | [d] => { results := [.lit (.bool true)], args := [d] }
  | _ => none }
def latticeWaysRow : OpenClaim := { program := "ytplhihakeodadaadoor", sum := "bbcbeae57e43bfb0bb5c684e11fcb2a6b9642a980a2b114c5b6913c5d1d83c56", func := "slipway/slipwaylaw09.LatticeWays", spec := "latticeWays", unfollowed := true, recurses := true, named := ["math/bits.deBruijn64tab"], apart := false, laid := [("math/bits.deBruijn64tab", laid_math_bits_deBruijn64tab)] }
def LatticeWaysSaid : Prop := latticeWaysRow.holds Tryd.pinned (OpenSpec.ofChange latticeWaysSpec)

/-- ITS FALSE NEIGHBOUR: 'it returns false'. Refute it at one input. -/
def latticeWaysWrong : ChangeSpec := { name := "latticeWays", fn := fun _ => fun
  | [d] => { results := [.lit (.bool false)], args := [d] }
  | _ => none }
def LatticeWaysWrongFalsely : Prop := latticeWaysRow.holds Tryd.pinned (OpenSpec.ofChange latticeWaysWrong)

/-- 'slipwaylaw09.LatticeDown': WHATEVER THE INPUT: true; the input reads as it did. -/
def latticeDownSpec : ChangeSpec := { name := "latticeDown", fn := fun _ => fun
  | [d1, d2, d3] => { results := [.lit (.bool true)], args := [d1, d2, d3] }
  | _ => none }
def latticeDownRow : OpenClaim := { program := "ytplhihakeodadaadoor", sum := "bbcbeae57e43bfb0bb5c684e11fcb2a6b9642a980a2b114c5b6913c5d1d83c56", func := "slipway/slipwaylaw09.LatticeDown", spec := "latticeDown", unfollowed := true, recurses := true, named := ["math/bits.deBruijn64tab"], apart := false, laid := [("math/bits.deBruijn64tab", laid_math_bits_deBruijn64tab)] }
def LatticeDownSaid : Prop := latticeDownRow.holds Tryd.pinned (OpenSpec.ofChange latticeDownSpec)

/-- ITS FALSE NEIGHBOUR: 'it returns false'. Refute it at one input. -/
def latticeDownWrong : ChangeSpec := { name := "latticeDown", fn := fun _ => fun
  | [d1, d2, d3] => { results := [.lit (.bool false)], args := [d1, d2, d3] }
  | _ => none }
def LatticeDownWrongFalsely : Prop := latticeDownRow.holds Tryd.pinned (OpenSpec.ofChange latticeDownWrong)

/-- 'slipwaylaw09.LatticeMeets': WHATEVER THE INPUT: true; the input reads as it did. -/
def latticeMeetsSpec : ChangeSpec := { name := "latticeMeets", fn := fun _ => fun
  | [d1, d2, d3] => { results := [.lit (.bool true)], args := [d1, d2, d3] }
  | _ => none }
def latticeMeetsRow : OpenClaim := { program := "ytplhihakeodadaadoor", sum := "bbcbeae57e43bfb0bb5c684e11fcb2a6b9642a980a2b114c5b6913c5d1d83c56", func := "slipway/slipwaylaw09.LatticeMeets", spec := "latticeMeets", unfollowed := true, recurses := true, named := ["math/bits.deBruijn64tab"], apart := false, laid := [("math/bits.deBruijn64tab", laid_math_bits_deBruijn64tab)] }
def LatticeMeetsSaid : Prop := latticeMeetsRow.holds Tryd.pinned (OpenSpec.ofChange latticeMeetsSpec)

/-- ITS FALSE NEIGHBOUR: 'it returns false'. Refute it at one input. -/
def latticeMeetsWrong : ChangeSpec := { name := "latticeMeets", fn := fun _ => fun
  | [d1, d2, d3] => { results := [.lit (.bool false)], args := [d1, d2, d3] }
  | _ => none }
def LatticeMeetsWrongFalsely : Prop := latticeMeetsRow.holds Tryd.pinned (OpenSpec.ofChange latticeMeetsWrong)

/-- 'slipwaylaw09.LatticeTurned': WHATEVER THE INPUT: true; the input reads as it did. -/
def latticeTurnedSpec : ChangeSpec := { name := "latticeTurned", fn := fun _ => fun
  | [d] => { results := [.lit (.bool true)], args := [d] }
  | _ => none }
def latticeTurnedRow : OpenClaim := { program := "ytplhihakeodadaadoor", sum := "bbcbeae57e43bfb0bb5c684e11fcb2a6b9642a980a2b114c5b6913c5d1d83c56", func := "slipway/slipwaylaw09.LatticeTurned", spec := "latticeTurned", unfollowed := true, recurses := true, named := ["math/bits.deBruijn64tab"], apart := false, laid := [("math/bits.deBruijn64tab", laid_math_bits_deBruijn64tab)] }
def LatticeTurnedSaid : Prop := latticeTurnedRow.holds Tryd.pinned (OpenSpec.ofChange latticeTurnedSpec)

/-- ITS FALSE NEIGHBOUR: 'it returns false'. Refute it at one input. -/
def latticeTurnedWrong : ChangeSpec := { name := "latticeTurned", fn := fun _ => fun
  | [d] => { results := [.lit (.bool false)], args := [d] }
  | _ => none }
def LatticeTurnedWrongFalsely : Prop := latticeTurnedRow.holds Tryd.pinned (OpenSpec.ofChange latticeTurnedWrong)

/-- 'slipwaylaw09.LatticeUp': WHATEVER THE INPUT: true; the input reads as it did. -/
def latticeUpSpec : ChangeSpec := { name := "latticeUp", fn := fun _ => fun
  | [d1, d2, d3, d4] => { results := [.lit (.bool true)], args := [d1, d2, d3, d4] }
  | _ => none }
def latticeUpRow : OpenClaim := { program := "ytplhihakeodadaadoor", sum := "bbcbeae57e43bfb0bb5c684e11fcb2a6b9642a980a2b114c5b6913c5d1d83c56", func := "slipway/slipwaylaw09.LatticeUp", spec := "latticeUp", unfollowed := true, recurses := true, named := ["math/bits.deBruijn64tab"], apart := false, laid := [("math/bits.deBruijn64tab", laid_math_bits_deBruijn64tab)] }
def LatticeUpSaid : Prop := latticeUpRow.holds Tryd.pinned (OpenSpec.ofChange latticeUpSpec)

/-- ITS FALSE NEIGHBOUR: 'it returns false'. Refute it at one input. -/
def latticeUpWrong : ChangeSpec := { name := "latticeUp", fn := fun _ => fun
  | [d1, d2, d3, d4] => { results := [.lit (.bool false)], args := [d1, d2, d3, d4] }
  | _ => none }
def LatticeUpWrongFalsely : Prop := latticeUpRow.holds Tryd.pinned (OpenSpec.ofChange latticeUpWrong)

/-- 'slipwaylaw09.LatticeBorder': WHATEVER THE INPUT: true; the input reads as it did. -/
def latticeBorderSpec : ChangeSpec := { name := "latticeBorder", fn := fun _ => fun
  | [d1, d2] => { results := [.lit (.bool true)], args := [d1, d2] }
  | _ => none }
def latticeBorderRow : OpenClaim := { program := "ytplhihakeodadaadoor", sum := "bbcbeae57e43bfb0bb5c684e11fcb2a6b9642a980a2b114c5b6913c5d1d83c56", func := "slipway/slipwaylaw09.LatticeBorder", spec := "latticeBorder", unfollowed := true, recurses := true, named := ["math/bits.deBruijn64tab"], apart := false, laid := [("math/bits.deBruijn64tab", laid_math_bits_deBruijn64tab)] }
def LatticeBorderSaid : Prop := latticeBorderRow.holds Tryd.pinned (OpenSpec.ofChange latticeBorderSpec)

/-- ITS FALSE NEIGHBOUR: 'it returns false'. Refute it at one input. -/
def latticeBorderWrong : ChangeSpec := { name := "latticeBorder", fn := fun _ => fun
  | [d1, d2] => { results := [.lit (.bool false)], args := [d1, d2] }
  | _ => none }
def LatticeBorderWrongFalsely : Prop := latticeBorderRow.holds Tryd.pinned (OpenSpec.ofChange latticeBorderWrong)

/-- 'slipwaylaw09.LatticeWay': WHATEVER THE INPUT: true; the input reads as it did. -/
def latticeWaySpec : ChangeSpec := { name := "latticeWay", fn := fun _ => fun
  | [d1, d2] => { results := [.lit (.bool true)], args := [d1, d2] }
  | _ => none }
def latticeWayRow : OpenClaim := { program := "ytplhihakeodadaadoor", sum := "bbcbeae57e43bfb0bb5c684e11fcb2a6b9642a980a2b114c5b6913c5d1d83c56", func := "slipway/slipwaylaw09.LatticeWay", spec := "latticeWay", unfollowed := true, recurses := true, named := ["math/bits.deBruijn64tab"], apart := false, laid := [("math/bits.deBruijn64tab", laid_math_bits_deBruijn64tab)] }
def LatticeWaySaid : Prop := latticeWayRow.holds Tryd.pinned (OpenSpec.ofChange latticeWaySpec)

/-- ITS FALSE NEIGHBOUR: 'it returns false'. Refute it at one input. -/
def latticeWayWrong : ChangeSpec := { name := "latticeWay", fn := fun _ => fun
  | [d1, d2] => { results := [.lit (.bool false)], args := [d1, d2] }
  | _ => none }
def LatticeWayWrongFalsely : Prop := latticeWayRow.holds Tryd.pinned (OpenSpec.ofChange latticeWayWrong)

/- THE SECOND FORM. 'bulk': how many values and letters a reading holds, each counted each time it is reached (what is shared counts as often as it is met; a slice's spare places count too). A statement '..UptoSaid' is the law's where the arguments, and the package variables that the reading takes, are together of bulk at most 1048576: NARROWER than '..Said'. Prove '..Said' where nothing that the law and all that it calls make is longer than what came in: it says more and counts as full. Else prove '..UptoSaid'. A law counts once. -/
mutual
def uptoBulk {H : Type} : DataW H → Nat
  | .lit (.string bytes) => bytes.length + 1
  | .lit _ => 1
  | .nil => 1
  | .ptr d => uptoBulk d + 1
  | .slice elems spare => uptoBulkAll elems + uptoBulkAll spare + 1
  | .agg parts => uptoBulkAll parts + 1
  | .iface _ d => uptoBulk d + 1
  | .map entries => uptoBulkEntries entries + 1
  | .held _ => 1
def uptoBulkAll {H : Type} : List (DataW H) → Nat
  | [] => 0
  | d :: r => uptoBulk d + uptoBulkAll r
def uptoBulkEntries {H : Type} : List (Lit × DataW H) → Nat
  | [] => 0
  | x :: r => uptoBulkEntry x + uptoBulkEntries r
def uptoBulkEntry {H : Type} : Lit × DataW H → Nat
  | (.string bytes, d) => bytes.length + uptoBulk d + 1
  | (_, d) => uptoBulk d + 1
 end
def uptoSmall : (H : Type) → List (DataW H) → Bool := fun _ ds => decide (uptoBulkAll ds ≤ 1048576)
def OpenSpec.upto (s : _root_.Go.ChangeSpec) : _root_.Go.OpenSpec := { _root_.Go.OpenSpec.ofChange s with cond := some uptoSmall }

/-- 'slipwaylaw17.SagaThrough', WHERE WHAT IT READS IS OF BULK AT MOST 1048576: true; the input reads as it did. -/
def sagaThroughUptoRow : OpenClaim := { program := "ytplhihakeodadaadoor", sum := "bbcbeae57e43bfb0bb5c684e11fcb2a6b9642a980a2b114c5b6913c5d1d83c56", func := "slipway/slipwaylaw17.SagaThrough", spec := "sagaThrough", unfollowed := true, recurses := true, named := ["math/bits.deBruijn64tab"], apart := false, laid := [("math/bits.deBruijn64tab", laid_math_bits_deBruijn64tab)], narrowed := true }
def SagaThroughUptoSaid : Prop := sagaThroughUptoRow.holds Tryd.pinned (OpenSpec.upto sagaThroughSpec)

/-- 'slipwaylaw17.SagaOwn', WHERE WHAT IT READS IS OF BULK AT MOST 1048576: true; the input reads as it did. -/
def sagaOwnUptoRow : OpenClaim := { program := "ytplhihakeodadaadoor", sum := "bbcbeae57e43bfb0bb5c684e11fcb2a6b9642a980a2b114c5b6913c5d1d83c56", func := "slipway/slipwaylaw17.SagaOwn", spec := "sagaOwn", unfollowed := true, recurses := true, named := ["math/bits.deBruijn64tab"], apart := false, laid := [("math/bits.deBruijn64tab", laid_math_bits_deBruijn64tab)], narrowed := true }
def SagaOwnUptoSaid : Prop := sagaOwnUptoRow.holds Tryd.pinned (OpenSpec.upto sagaOwnSpec)

/-- 'slipwaylaw17.SagaClosed', WHERE WHAT IT READS IS OF BULK AT MOST 1048576: true; the input reads as it did. -/
def sagaClosedUptoRow : OpenClaim := { program := "ytplhihakeodadaadoor", sum := "bbcbeae57e43bfb0bb5c684e11fcb2a6b9642a980a2b114c5b6913c5d1d83c56", func := "slipway/slipwaylaw17.SagaClosed", spec := "sagaClosed", unfollowed := true, recurses := true, named := ["math/bits.deBruijn64tab"], apart := false, laid := [("math/bits.deBruijn64tab", laid_math_bits_deBruijn64tab)], narrowed := true }
def SagaClosedUptoSaid : Prop := sagaClosedUptoRow.holds Tryd.pinned (OpenSpec.upto sagaClosedSpec)

/-- 'slipwaylaw17.SagaMirrors', WHERE WHAT IT READS IS OF BULK AT MOST 1048576: true; the input reads as it did. -/
def sagaMirrorsUptoRow : OpenClaim := { program := "ytplhihakeodadaadoor", sum := "bbcbeae57e43bfb0bb5c684e11fcb2a6b9642a980a2b114c5b6913c5d1d83c56", func := "slipway/slipwaylaw17.SagaMirrors", spec := "sagaMirrors", unfollowed := true, recurses := true, named := ["math/bits.deBruijn64tab"], apart := false, laid := [("math/bits.deBruijn64tab", laid_math_bits_deBruijn64tab)], narrowed := true }
def SagaMirrorsUptoSaid : Prop := sagaMirrorsUptoRow.holds Tryd.pinned (OpenSpec.upto sagaMirrorsSpec)

/-- 'slipwaylaw09.LatticeAll', WHERE WHAT IT READS IS OF BULK AT MOST 1048576: true; the input reads as it did. -/
def latticeAllUptoRow : OpenClaim := { program := "ytplhihakeodadaadoor", sum := "bbcbeae57e43bfb0bb5c684e11fcb2a6b9642a980a2b114c5b6913c5d1d83c56", func := "slipway/slipwaylaw09.LatticeAll", spec := "latticeAll", unfollowed := true, recurses := true, named := ["math/bits.deBruijn64tab"], apart := false, laid := [("math/bits.deBruijn64tab", laid_math_bits_deBruijn64tab)], narrowed := true }
def LatticeAllUptoSaid : Prop := latticeAllUptoRow.holds Tryd.pinned (OpenSpec.upto latticeAllSpec)

/-- 'slipwaylaw09.LatticeWays', WHERE WHAT IT READS IS OF BULK AT MOST 1048576: true; the input reads as it did. -/
def latticeWaysUptoRow : OpenClaim := { program := "ytplhihakeodadaadoor", sum := "bbcbeae57e43bfb0bb5c684e11fcb2a6b9642a980a2b114c5b6913c5d1d83c56", func := "slipway/slipwaylaw09.LatticeWays", spec := "latticeWays", unfollowed := true, recurses := true, named := ["math/bits.deBruijn64tab"], apart := false, laid := [("math/bits.deBruijn64tab", laid_math_bits_deBruijn64tab)], narrowed := true }
def LatticeWaysUptoSaid : Prop := latticeWaysUptoRow.holds Tryd.pinned (OpenSpec.upto latticeWaysSpec)

/-- 'slipwaylaw09.LatticeDown', WHERE WHAT IT READS IS OF BULK AT MOST 1048576: true; the input reads as it did. -/
def latticeDownUptoRow : OpenClaim := { program := "ytplhihakeodadaadoor", sum := "bbcbeae57e43bfb0bb5c684e11fcb2a6b9642a980a2b114c5b6913c5d1d83c56", func := "slipway/slipwaylaw09.LatticeDown", spec := "latticeDown", unfollowed := true, recurses := true, named := ["math/bits.deBruijn64tab"], apart := false, laid := [("math/bits.deBruijn64tab", laid_math_bits_deBruijn64tab)], narrowed := true }
def LatticeDownUptoSaid : Prop := latticeDownUptoRow.holds Tryd.pinned (OpenSpec.upto latticeDownSpec)

/-- 'slipwaylaw09.LatticeMeets', WHERE WHAT IT READS IS OF BULK AT MOST 1048576: true; the input reads as it did. -/
def latticeMeetsUptoRow : OpenClaim := { program := "ytplhihakeodadaadoor", sum := "bbcbeae57e43bfb0bb5c684e11fcb2a6b9642a980a2b114c5b6913c5d1d83c56", func := "slipway/slipwaylaw09.LatticeMeets", spec := "latticeMeets", unfollowed := true, recurses := true, named := ["math/bits.deBruijn64tab"], apart := false, laid := [("math/bits.deBruijn64tab", laid_math_bits_deBruijn64tab)], narrowed := true }
def LatticeMeetsUptoSaid : Prop := latticeMeetsUptoRow.holds Tryd.pinned (OpenSpec.upto latticeMeetsSpec)

/-- 'slipwaylaw09.LatticeTurned', WHERE WHAT IT READS IS OF BULK AT MOST 1048576: true; the input reads as it did. -/
def latticeTurnedUptoRow : OpenClaim := { program := "ytplhihakeodadaadoor", sum := "bbcbeae57e43bfb0bb5c684e11fcb2a6b9642a980a2b114c5b6913c5d1d83c56", func := "slipway/slipwaylaw09.LatticeTurned", spec := "latticeTurned", unfollowed := true, recurses := true, named := ["math/bits.deBruijn64tab"], apart := false, laid := [("math/bits.deBruijn64tab", laid_math_bits_deBruijn64tab)], narrowed := true }
def LatticeTurnedUptoSaid : Prop := latticeTurnedUptoRow.holds Tryd.pinned (OpenSpec.upto latticeTurnedSpec)

/-- 'slipwaylaw09.LatticeUp', WHERE WHAT IT READS IS OF BULK AT MOST 1048576: true; the input reads as it did. -/
def latticeUpUptoRow : OpenClaim := { program := "ytplhihakeodadaadoor", sum := "bbcbeae57e43bfb0bb5c684e11fcb2a6b9642a980a2b114c5b6913c5d1d83c56", func := "slipway/slipwaylaw09.LatticeUp", spec := "latticeUp", unfollowed := true, recurses := true, named := ["math/bits.deBruijn64tab"], apart := false, laid := [("math/bits.deBruijn64tab", laid_math_bits_deBruijn64tab)], narrowed := true }
def LatticeUpUptoSaid : Prop := latticeUpUptoRow.holds Tryd.pinned (OpenSpec.upto latticeUpSpec)

/-- 'slipwaylaw09.LatticeBorder', WHERE WHAT IT READS IS OF BULK AT MOST 1048576: true; the input reads as it did. -/
def latticeBorderUptoRow : OpenClaim := { program := "ytplhihakeodadaadoor", sum := "bbcbeae57e43bfb0bb5c684e11fcb2a6b9642a980a2b114c5b6913c5d1d83c56", func := "slipway/slipwaylaw09.LatticeBorder", spec := "latticeBorder", unfollowed := true, recurses := true, named := ["math/bits.deBruijn64tab"], apart := false, laid := [("math/bits.deBruijn64tab", laid_math_bits_deBruijn64tab)], narrowed := true }
def LatticeBorderUptoSaid : Prop := latticeBorderUptoRow.holds Tryd.pinned (OpenSpec.upto latticeBorderSpec)

/-- 'slipwaylaw09.LatticeWay', WHERE WHAT IT READS IS OF BULK AT MOST 1048576: true; the input reads as it did. -/
def latticeWayUptoRow : OpenClaim := { program := "ytplhihakeodadaadoor", sum := "bbcbeae57e43bfb0bb5c684e11fcb2a6b9642a980a2b114c5b6913c5d1d83c56", func := "slipway/slipwaylaw09.LatticeWay", spec := "latticeWay", unfollowed := true, recurses := true, named := ["math/bits.deBruijn64tab"], apart := false, laid := [("math/bits.deBruijn64tab", laid_math_bits_deBruijn64tab)], narrowed := true }
def LatticeWayUptoSaid : Prop := latticeWayUptoRow.holds Tryd.pinned (OpenSpec.upto latticeWaySpec)

end Rows
end Go.Proofs.YtplhihakeodadaaDoor
