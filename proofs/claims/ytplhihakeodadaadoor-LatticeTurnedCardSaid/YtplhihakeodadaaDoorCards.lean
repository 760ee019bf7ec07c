/-
  DERIVED. GIVEN WITH THE SEED: THE CARDS: each row of YtplhihakeodadaaDoorRows.lean that lists a variable, with what it lists TIED to the program's text (the seventh form; the later family's looks); each row that meets fmt, with fmt's text TOLD by the authors' own Lean function (tested against real Go, not proved from fmt's source: count such statements apart). THE CARD IS WHAT COUNTS. Prove the row's statement (the work); the ties are given (YtplhihakeodadaaDoorTie.lean); close each card by the builder's one call (the guide's Derived/Test/ToyasCard.lean, 'card_holds'). Laid BY PROGRAM, IN A SANDBOX (cutbox-door.mjs). By AI agents, Wed Nov 11 2026. No macro, syntax, notation, axiom, sorry.
-/
import Derived.Test.YtplhihakeodadaaDoorRows
import GoSem.ClaimSeven
namespace Go.Proofs.YtplhihakeodadaaDoor
namespace Rows

/-- THE TIED CARD OF 'slipwaylaw17.SagaThrough'. -/
def sagaThroughCard : Claim7 := { stood := { row := sagaThroughRow, standIns := [], harness := (true, "ac7cf09bc4bd5d7697be76fff4135d6ac7f60ca56be901c211a914574b894255"), looks := false }, kinds := [], alts := [], laidByText := true, laidKinds := [.data], laidTests := true, laidLooks := .later }
def SagaThroughCardSaid : Prop := Claim7.holds Tryd.pinned (.plain (OpenSpec.ofChange sagaThroughSpec)) sagaThroughCard

/-- THE TIED CARD OF 'slipwaylaw17.SagaOwn'. -/
def sagaOwnCard : Claim7 := { stood := { row := sagaOwnRow, standIns := [], harness := (true, "ac7cf09bc4bd5d7697be76fff4135d6ac7f60ca56be901c211a914574b894255"), looks := false }, kinds := [], alts := [], laidByText := true, laidKinds := [.data], laidTests := true, laidLooks := .later }
def SagaOwnCardSaid : Prop := Claim7.holds Tryd.pinned (.plain (OpenSpec.ofChange sagaOwnSpec)) sagaOwnCard

/-- THE TIED CARD OF 'slipwaylaw17.SagaClosed'. -/
def sagaClosedCard : Claim7 := { stood := { row := sagaClosedRow, standIns := [], harness := (true, "ac7cf09bc4bd5d7697be76fff4135d6ac7f60ca56be901c211a914574b894255"), looks := false }, kinds := [], alts := [], laidByText := true, laidKinds := [.data], laidTests := true, laidLooks := .later }
def SagaClosedCardSaid : Prop := Claim7.holds Tryd.pinned (.plain (OpenSpec.ofChange sagaClosedSpec)) sagaClosedCard

/-- THE TIED CARD OF 'slipwaylaw17.SagaMirrors'. -/
def sagaMirrorsCard : Claim7 := { stood := { row := sagaMirrorsRow, standIns := [], harness := (true, "ac7cf09bc4bd5d7697be76fff4135d6ac7f60ca56be901c211a914574b894255"), looks := false }, kinds := [], alts := [], laidByText := true, laidKinds := [.data], laidTests := true, laidLooks := .later }
def SagaMirrorsCardSaid : Prop := Claim7.holds Tryd.pinned (.plain (OpenSpec.ofChange sagaMirrorsSpec)) sagaMirrorsCard

/-- THE TIED CARD OF 'slipwaylaw09.LatticeAll'. -/
def latticeAllCard : Claim7 := { stood := { row := latticeAllRow, standIns := [], harness := (true, "ac7cf09bc4bd5d7697be76fff4135d6ac7f60ca56be901c211a914574b894255"), looks := false }, kinds := [], alts := [], laidByText := true, laidKinds := [.data], laidTests := true, laidLooks := .later }
def LatticeAllCardSaid : Prop := Claim7.holds Tryd.pinned (.plain (OpenSpec.ofChange latticeAllSpec)) latticeAllCard

/-- THE TIED CARD OF 'slipwaylaw09.LatticeWays'. -/
def latticeWaysCard : Claim7 := { stood := { row := latticeWaysRow, standIns := [], harness := (true, "ac7cf09bc4bd5d7697be76fff4135d6ac7f60ca56be901c211a914574b894255"), looks := false }, kinds := [], alts := [], laidByText := true, laidKinds := [.data], laidTests := true, laidLooks := .later }
def LatticeWaysCardSaid : Prop := Claim7.holds Tryd.pinned (.plain (OpenSpec.ofChange latticeWaysSpec)) latticeWaysCard

/-- THE TIED CARD OF 'slipwaylaw09.LatticeDown'. -/
def latticeDownCard : Claim7 := { stood := { row := latticeDownRow, standIns := [], harness := (true, "ac7cf09bc4bd5d7697be76fff4135d6ac7f60ca56be901c211a914574b894255"), looks := false }, kinds := [], alts := [], laidByText := true, laidKinds := [.data], laidTests := true, laidLooks := .later }
def LatticeDownCardSaid : Prop := Claim7.holds Tryd.pinned (.plain (OpenSpec.ofChange latticeDownSpec)) latticeDownCard

/-- THE TIED CARD OF 'slipwaylaw09.LatticeMeets'. -/
def latticeMeetsCard : Claim7 := { stood := { row := latticeMeetsRow, standIns := [], harness := (true, "ac7cf09bc4bd5d7697be76fff4135d6ac7f60ca56be901c211a914574b894255"), looks := false }, kinds := [], alts := [], laidByText := true, laidKinds := [.data], laidTests := true, laidLooks := .later }
def LatticeMeetsCardSaid : Prop := Claim7.holds Tryd.pinned (.plain (OpenSpec.ofChange latticeMeetsSpec)) latticeMeetsCard

/-- THE TIED CARD OF 'slipwaylaw09.LatticeTurned'. -/
def latticeTurnedCard : Claim7 := { stood := { row := latticeTurnedRow, standIns := [], harness := (true, "ac7cf09bc4bd5d7697be76fff4135d6ac7f60ca56be901c211a914574b894255"), looks := false }, kinds := [], alts := [], laidByText := true, laidKinds := [.data], laidTests := true, laidLooks := .later }
def LatticeTurnedCardSaid : Prop := Claim7.holds Tryd.pinned (.plain (OpenSpec.ofChange latticeTurnedSpec)) latticeTurnedCard

/-- THE TIED CARD OF 'slipwaylaw09.LatticeUp'. -/
def latticeUpCard : Claim7 := { stood := { row := latticeUpRow, standIns := [], harness := (true, "ac7cf09bc4bd5d7697be76fff4135d6ac7f60ca56be901c211a914574b894255"), looks := false }, kinds := [], alts := [], laidByText := true, laidKinds := [.data], laidTests := true, laidLooks := .later }
def LatticeUpCardSaid : Prop := Claim7.holds Tryd.pinned (.plain (OpenSpec.ofChange latticeUpSpec)) latticeUpCard

/-- THE TIED CARD OF 'slipwaylaw09.LatticeBorder'. -/
def latticeBorderCard : Claim7 := { stood := { row := latticeBorderRow, standIns := [], harness := (true, "ac7cf09bc4bd5d7697be76fff4135d6ac7f60ca56be901c211a914574b894255"), looks := false }, kinds := [], alts := [], laidByText := true, laidKinds := [.data], laidTests := true, laidLooks := .later }
def LatticeBorderCardSaid : Prop := Claim7.holds Tryd.pinned (.plain (OpenSpec.ofChange latticeBorderSpec)) latticeBorderCard

/-- THE TIED CARD OF 'slipwaylaw09.LatticeWay'. -/
def latticeWayCard : Claim7 := { stood := { row := latticeWayRow, standIns := [], harness := (true, "ac7cf09bc4bd5d7697be76fff4135d6ac7f60ca56be901c211a914574b894255"), looks := false }, kinds := [], alts := [], laidByText := true, laidKinds := [.data], laidTests := true, laidLooks := .later }
def LatticeWayCardSaid : Prop := Claim7.holds Tryd.pinned (.plain (OpenSpec.ofChange latticeWaySpec)) latticeWayCard

/-- THE SECOND FORM's CARD OF 'slipwaylaw17.SagaThrough'. -/
def sagaThroughUptoCard : Claim7 := { stood := { row := sagaThroughUptoRow, standIns := [], harness := (true, "ac7cf09bc4bd5d7697be76fff4135d6ac7f60ca56be901c211a914574b894255"), looks := false }, kinds := [], alts := [], laidByText := true, laidKinds := [.data], laidTests := true, laidLooks := .later }
def SagaThroughUptoCardSaid : Prop := Claim7.holds Tryd.pinned (.plain (OpenSpec.upto sagaThroughSpec)) sagaThroughUptoCard

/-- THE SECOND FORM's CARD OF 'slipwaylaw17.SagaOwn'. -/
def sagaOwnUptoCard : Claim7 := { stood := { row := sagaOwnUptoRow, standIns := [], harness := (true, "ac7cf09bc4bd5d7697be76fff4135d6ac7f60ca56be901c211a914574b894255"), looks := false }, kinds := [], alts := [], laidByText := true, laidKinds := [.data], laidTests := true, laidLooks := .later }
def SagaOwnUptoCardSaid : Prop := Claim7.holds Tryd.pinned (.plain (OpenSpec.upto sagaOwnSpec)) sagaOwnUptoCard

/-- THE SECOND FORM's CARD OF 'slipwaylaw17.SagaClosed'. -/
def sagaClosedUptoCard : Claim7 := { stood := { row := sagaClosedUptoRow, standIns := [], harness := (true, "ac7cf09bc4bd5d7697be76fff4135d6ac7f60ca56be901c211a914574b894255"), looks := false }, kinds := [], alts := [], laidByText := true, laidKinds := [.data], laidTests := true, laidLooks := .later }
def SagaClosedUptoCardSaid : Prop := Claim7.holds Tryd.pinned (.plain (OpenSpec.upto sagaClosedSpec)) sagaClosedUptoCard

/-- THE SECOND FORM's CARD OF 'slipwaylaw17.SagaMirrors'. -/
def sagaMirrorsUptoCard : Claim7 := { stood := { row := sagaMirrorsUptoRow, standIns := [], harness := (true, "ac7cf09bc4bd5d7697be76fff4135d6ac7f60ca56be901c211a914574b894255"), looks := false }, kinds := [], alts := [], laidByText := true, laidKinds := [.data], laidTests := true, laidLooks := .later }
def SagaMirrorsUptoCardSaid : Prop := Claim7.holds Tryd.pinned (.plain (OpenSpec.upto sagaMirrorsSpec)) sagaMirrorsUptoCard

/-- THE SECOND FORM's CARD OF 'slipwaylaw09.LatticeAll'. -/
def latticeAllUptoCard : Claim7 := { stood := { row := latticeAllUptoRow, standIns := [], harness := (true, "ac7cf09bc4bd5d7697be76fff4135d6ac7f60ca56be901c211a914574b894255"), looks := false }, kinds := [], alts := [], laidByText := true, laidKinds := [.data], laidTests := true, laidLooks := .later }
def LatticeAllUptoCardSaid : Prop := Claim7.holds Tryd.pinned (.plain (OpenSpec.upto latticeAllSpec)) latticeAllUptoCard

/-- THE SECOND FORM's CARD OF 'slipwaylaw09.LatticeWays'. -/
def latticeWaysUptoCard : Claim7 := { stood := { row := latticeWaysUptoRow, standIns := [], harness := (true, "ac7cf09bc4bd5d7697be76fff4135d6ac7f60ca56be901c211a914574b894255"), looks := false }, kinds := [], alts := [], laidByText := true, laidKinds := [.data], laidTests := true, laidLooks := .later }
def LatticeWaysUptoCardSaid : Prop := Claim7.holds Tryd.pinned (.plain (OpenSpec.upto latticeWaysSpec)) latticeWaysUptoCard

/-- THE SECOND FORM's CARD OF 'slipwaylaw09.LatticeDown'. -/
def latticeDownUptoCard : Claim7 := { stood := { row := latticeDownUptoRow, standIns := [], harness := (true, "ac7cf09bc4bd5d7697be76fff4135d6ac7f60ca56be901c211a914574b894255"), looks := false }, kinds := [], alts := [], laidByText := true, laidKinds := [.data], laidTests := true, laidLooks := .later }
def LatticeDownUptoCardSaid : Prop := Claim7.holds Tryd.pinned (.plain (OpenSpec.upto latticeDownSpec)) latticeDownUptoCard

/-- THE SECOND FORM's CARD OF 'slipwaylaw09.LatticeMeets'. -/
def latticeMeetsUptoCard : Claim7 := { stood := { row := latticeMeetsUptoRow, standIns := [], harness := (true, "ac7cf09bc4bd5d7697be76fff4135d6ac7f60ca56be901c211a914574b894255"), looks := false }, kinds := [], alts := [], laidByText := true, laidKinds := [.data], laidTests := true, laidLooks := .later }
def LatticeMeetsUptoCardSaid : Prop := Claim7.holds Tryd.pinned (.plain (OpenSpec.upto latticeMeetsSpec)) latticeMeetsUptoCard

/-- THE SECOND FORM's CARD OF 'slipwaylaw09.LatticeTurned'. -/
def latticeTurnedUptoCard : Claim7 := { stood := { row := latticeTurnedUptoRow, standIns := [], harness := (true, "ac7cf09bc4bd5d7697be76fff4135d6ac7f60ca56be901c211a914574b894255"), looks := false }, kinds := [], alts := [], laidByText := true, laidKinds := [.data], laidTests := true, laidLooks := .later }
def LatticeTurnedUptoCardSaid : Prop := Claim7.holds Tryd.pinned (.plain (OpenSpec.upto latticeTurnedSpec)) latticeTurnedUptoCard

/-- THE SECOND FORM's CARD OF 'slipwaylaw09.LatticeUp'. -/
def latticeUpUptoCard : Claim7 := { stood := { row := latticeUpUptoRow, standIns := [], harness := (true, "ac7cf09bc4bd5d7697be76fff4135d6ac7f60ca56be901c211a914574b894255"), looks := false }, kinds := [], alts := [], laidByText := true, laidKinds := [.data], laidTests := true, laidLooks := .later }
def LatticeUpUptoCardSaid : Prop := Claim7.holds Tryd.pinned (.plain (OpenSpec.upto latticeUpSpec)) latticeUpUptoCard

/-- THE SECOND FORM's CARD OF 'slipwaylaw09.LatticeBorder'. -/
def latticeBorderUptoCard : Claim7 := { stood := { row := latticeBorderUptoRow, standIns := [], harness := (true, "ac7cf09bc4bd5d7697be76fff4135d6ac7f60ca56be901c211a914574b894255"), looks := false }, kinds := [], alts := [], laidByText := true, laidKinds := [.data], laidTests := true, laidLooks := .later }
def LatticeBorderUptoCardSaid : Prop := Claim7.holds Tryd.pinned (.plain (OpenSpec.upto latticeBorderSpec)) latticeBorderUptoCard

/-- THE SECOND FORM's CARD OF 'slipwaylaw09.LatticeWay'. -/
def latticeWayUptoCard : Claim7 := { stood := { row := latticeWayUptoRow, standIns := [], harness := (true, "ac7cf09bc4bd5d7697be76fff4135d6ac7f60ca56be901c211a914574b894255"), looks := false }, kinds := [], alts := [], laidByText := true, laidKinds := [.data], laidTests := true, laidLooks := .later }
def LatticeWayUptoCardSaid : Prop := Claim7.holds Tryd.pinned (.plain (OpenSpec.upto latticeWaySpec)) latticeWayUptoCard
end Rows
end Go.Proofs.YtplhihakeodadaaDoor
