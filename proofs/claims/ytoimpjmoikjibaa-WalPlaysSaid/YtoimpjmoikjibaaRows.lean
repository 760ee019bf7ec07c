/-
  No cell of these rows narrows 'for every input' (looked for: loops, veiled, ifaces, maps, wideKeys, modest, calm, conditions, laid).
  DERIVED. THE GIVEN ROWS OF THIS SEAT. 11 by the template 'for every input the law returns true; each argument reads behind the call as it read before'; 0 by the template 'total and deterministic' (their statements: YtoimpjmoikjibaaTotals.lean).
  GIVEN WITH THE SEED: the statements are not yours to turn. If you find one false, say at which input.
  Laid BY PROGRAM, IN A SANDBOX (cutbox-rows.mjs): the forced cells as the released guide's own fill.sh prints them over the translation ff963f2ac1e93d59… (all of the seat's roots in one cut). By AI agents, Wed Nov 11 2026. No macro, syntax, notation, axiom, sorry.
-/
import Derived.Test.YtoimpjmoikjibaaChecked
import GoSem.Claim
import GoSem.ClaimJoined
import GoSem.ClaimMapViews
import Derived.JoinedTies
import Derived.KernelRfl
namespace Go.Proofs.Ytoimpjmoikjibaa
/- THE CELL 'sum', in the pinned program and in every row, IS THE sha256 OF THE DUMP (.gsa) THAT YtoimpjmoikjibaaProg.lean LOADS. Nothing in Lean hashes anything: it is a label: what it is worth is what the hold of that sum in a sandbox is worth. -/
noncomputable def Try.pinned : Pinned := { name := "ytoimpjmoikjibaa", sum := "ff963f2ac1e93d59856825f264d1dc158a0376f26159c11fbc96457e157bf23d", checked := Try.checked }
namespace Rows
def none {H : Type} : Left H := { results := [], args := [] }

/-- 'slipwaylaw13.DockSafe': WHATEVER THE INPUT: true; the input reads as it did. -/
def dockSafeSpec : ChangeSpec := { name := "dockSafe", fn := fun _ => fun
  | [d1, d2, d3] => { results := [.lit (.bool true)], args := [d1, d2, d3] }
  | _ => none }
def dockSafeRow : OpenClaim := { program := "ytoimpjmoikjibaa", sum := "ff963f2ac1e93d59856825f264d1dc158a0376f26159c11fbc96457e157bf23d", func := "slipway/slipwaylaw13.DockSafe", spec := "dockSafe", unfollowed := true, recurses := true, apart := false }
def DockSafeSaid : Prop := dockSafeRow.holds Try.pinned (OpenSpec.ofChange dockSafeSpec)

/-- ITS FALSE NEIGHBOUR: 'it returns false'. Refute it at one input. -/
def dockSafeWrong : ChangeSpec := { name := "dockSafe", fn := fun _ => fun
  | [d1, d2, d3] => { results := [.lit (.bool false)], args := [d1, d2, d3] }
  | _ => none }
def DockSafeWrongFalsely : Prop := dockSafeRow.holds Try.pinned (OpenSpec.ofChange dockSafeWrong)

/-- 'slipwaylaw13.DockArms': WHATEVER THE INPUT: true; the input reads as it did. -/
def dockArmsSpec : ChangeSpec := { name := "dockArms", fn := fun _ => fun
  | [d1, d2] => { results := [.lit (.bool true)], args := [d1, d2] }
  | _ => none }
def dockArmsRow : OpenClaim := { program := "ytoimpjmoikjibaa", sum := "ff963f2ac1e93d59856825f264d1dc158a0376f26159c11fbc96457e157bf23d", func := "slipway/slipwaylaw13.DockArms", spec := "dockArms", unfollowed := true, recurses := true, apart := false }
def DockArmsSaid : Prop := dockArmsRow.holds Try.pinned (OpenSpec.ofChange dockArmsSpec)

/-- ITS FALSE NEIGHBOUR: 'it returns false'. Refute it at one input. -/
def dockArmsWrong : ChangeSpec := { name := "dockArms", fn := fun _ => fun
  | [d1, d2] => { results := [.lit (.bool false)], args := [d1, d2] }
  | _ => none }
def DockArmsWrongFalsely : Prop := dockArmsRow.holds Try.pinned (OpenSpec.ofChange dockArmsWrong)

/-- 'slipwaylaw13.DockCuts': WHATEVER THE INPUT: true; the input reads as it did. -/
def dockCutsSpec : ChangeSpec := { name := "dockCuts", fn := fun _ => fun
  | [d1, d2, d3, d4] => { results := [.lit (.bool true)], args := [d1, d2, d3, d4] }
  | _ => none }
def dockCutsRow : OpenClaim := { program := "ytoimpjmoikjibaa", sum := "ff963f2ac1e93d59856825f264d1dc158a0376f26159c11fbc96457e157bf23d", func := "slipway/slipwaylaw13.DockCuts", spec := "dockCuts", unfollowed := true, recurses := true, apart := false }
def DockCutsSaid : Prop := dockCutsRow.holds Try.pinned (OpenSpec.ofChange dockCutsSpec)

/-- ITS FALSE NEIGHBOUR: 'it returns false'. Refute it at one input. -/
def dockCutsWrong : ChangeSpec := { name := "dockCuts", fn := fun _ => fun
  | [d1, d2, d3, d4] => { results := [.lit (.bool false)], args := [d1, d2, d3, d4] }
  | _ => none }
def DockCutsWrongFalsely : Prop := dockCutsRow.holds Try.pinned (OpenSpec.ofChange dockCutsWrong)

/-- 'slipwaylaw13.DockApart': WHATEVER THE INPUT: true; the input reads as it did. -/
def dockApartSpec : ChangeSpec := { name := "dockApart", fn := fun _ => fun
  | [d1, d2] => { results := [.lit (.bool true)], args := [d1, d2] }
  | _ => none }
def dockApartRow : OpenClaim := { program := "ytoimpjmoikjibaa", sum := "ff963f2ac1e93d59856825f264d1dc158a0376f26159c11fbc96457e157bf23d", func := "slipway/slipwaylaw13.DockApart", spec := "dockApart", unfollowed := true, recurses := true, apart := false }
def DockApartSaid : Prop := dockApartRow.holds Try.pinned (OpenSpec.ofChange dockApartSpec)

/-- ITS FALSE NEIGHBOUR: 'it returns false'. Refute it at one input. -/
def dockApartWrong : ChangeSpec := { name := "dockApart", fn := fun _ => fun
  | [d1, d2] => { results := [.lit (.bool false)], args := [d1, d2] }
  | _ => none }
def DockApartWrongFalsely : Prop := dockApartRow.holds Try.pinned (OpenSpec.ofChange dockApartWrong)

/-- 'slipwaylaw13.DockPlays': WHATEVER THE INPUT: true; the input reads as it did. -/
def dockPlaysSpec : ChangeSpec := { name := "dockPlays", fn := fun _ => fun
  | [d1, d2] => { results := [.lit (.bool true)], args := [d1, d2] }
  | _ => none }
def dockPlaysRow : OpenClaim := { program := "ytoimpjmoikjibaa", sum := "ff963f2ac1e93d59856825f264d1dc158a0376f26159c11fbc96457e157bf23d", func := "slipway/slipwaylaw13.DockPlays", spec := "dockPlays", unfollowed := true, recurses := true, apart := false }
def DockPlaysSaid : Prop := dockPlaysRow.holds Try.pinned (OpenSpec.ofChange dockPlaysSpec)

/-- ITS FALSE NEIGHBOUR: 'it returns false'. Refute it at one input. -/
def dockPlaysWrong : ChangeSpec := { name := "dockPlays", fn := fun _ => fun
  | [d1, d2] => { results := [.lit (.bool false)], args := [d1, d2] }
  | _ => none }
def DockPlaysWrongFalsely : Prop := dockPlaysRow.holds Try.pinned (OpenSpec.ofChange dockPlaysWrong)

/-- 'slipwaylaw14.WalOpens': WHATEVER THE INPUT: true; the input reads as it did. -/
def walOpensSpec : ChangeSpec := { name := "walOpens", fn := fun _ => fun
  | [d] => { results := [.lit (.bool true)], args := [d] }
  | _ => none }
def walOpensRow : OpenClaim := { program := "ytoimpjmoikjibaa", sum := "ff963f2ac1e93d59856825f264d1dc158a0376f26159c11fbc96457e157bf23d", func := "slipway/slipwaylaw14.WalOpens", spec := "walOpens", unfollowed := true, recurses := true, apart := false }
def WalOpensSaid : Prop := walOpensRow.holds Try.pinned (OpenSpec.ofChange walOpensSpec)

/-- ITS FALSE NEIGHBOUR: 'it returns false'. Refute it at one input. -/
def walOpensWrong : ChangeSpec := { name := "walOpens", fn := fun _ => fun
  | [d] => { results := [.lit (.bool false)], args := [d] }
  | _ => none }
def WalOpensWrongFalsely : Prop := walOpensRow.holds Try.pinned (OpenSpec.ofChange walOpensWrong)

/-- 'slipwaylaw14.WalTurns': WHATEVER THE INPUT: true; the input reads as it did. -/
def walTurnsSpec : ChangeSpec := { name := "walTurns", fn := fun _ => fun
  | [d1, d2] => { results := [.lit (.bool true)], args := [d1, d2] }
  | _ => none }
def walTurnsRow : OpenClaim := { program := "ytoimpjmoikjibaa", sum := "ff963f2ac1e93d59856825f264d1dc158a0376f26159c11fbc96457e157bf23d", func := "slipway/slipwaylaw14.WalTurns", spec := "walTurns", unfollowed := true, recurses := true, apart := false }
def WalTurnsSaid : Prop := walTurnsRow.holds Try.pinned (OpenSpec.ofChange walTurnsSpec)

/-- ITS FALSE NEIGHBOUR: 'it returns false'. Refute it at one input. -/
def walTurnsWrong : ChangeSpec := { name := "walTurns", fn := fun _ => fun
  | [d1, d2] => { results := [.lit (.bool false)], args := [d1, d2] }
  | _ => none }
def WalTurnsWrongFalsely : Prop := walTurnsRow.holds Try.pinned (OpenSpec.ofChange walTurnsWrong)

/-- 'slipwaylaw14.WalOwn': WHATEVER THE INPUT: true; the input reads as it did. -/
def walOwnSpec : ChangeSpec := { name := "walOwn", fn := fun _ => fun
  | [d1, d2] => { results := [.lit (.bool true)], args := [d1, d2] }
  | _ => none }
def walOwnRow : OpenClaim := { program := "ytoimpjmoikjibaa", sum := "ff963f2ac1e93d59856825f264d1dc158a0376f26159c11fbc96457e157bf23d", func := "slipway/slipwaylaw14.WalOwn", spec := "walOwn", unfollowed := true, recurses := true, apart := false }
def WalOwnSaid : Prop := walOwnRow.holds Try.pinned (OpenSpec.ofChange walOwnSpec)

/-- ITS FALSE NEIGHBOUR: 'it returns false'. Refute it at one input. -/
def walOwnWrong : ChangeSpec := { name := "walOwn", fn := fun _ => fun
  | [d1, d2] => { results := [.lit (.bool false)], args := [d1, d2] }
  | _ => none }
def WalOwnWrongFalsely : Prop := walOwnRow.holds Try.pinned (OpenSpec.ofChange walOwnWrong)

/-- 'slipwaylaw14.WalPlays': WHATEVER THE INPUT: true; the input reads as it did. -/
def walPlaysSpec : ChangeSpec := { name := "walPlays", fn := fun _ => fun
  | [d1, d2] => { results := [.lit (.bool true)], args := [d1, d2] }
  | _ => none }
def walPlaysRow : OpenClaim := { program := "ytoimpjmoikjibaa", sum := "ff963f2ac1e93d59856825f264d1dc158a0376f26159c11fbc96457e157bf23d", func := "slipway/slipwaylaw14.WalPlays", spec := "walPlays", unfollowed := true, recurses := true, apart := false }
def WalPlaysSaid : Prop := walPlaysRow.holds Try.pinned (OpenSpec.ofChange walPlaysSpec)

/-- ITS FALSE NEIGHBOUR: 'it returns false'. Refute it at one input. -/
def walPlaysWrong : ChangeSpec := { name := "walPlays", fn := fun _ => fun
  | [d1, d2] => { results := [.lit (.bool false)], args := [d1, d2] }
  | _ => none }
def WalPlaysWrongFalsely : Prop := walPlaysRow.holds Try.pinned (OpenSpec.ofChange walPlaysWrong)

/-- 'slipwaylaw14.WalTwice': WHATEVER THE INPUT: true; the input reads as it did. -/
def walTwiceSpec : ChangeSpec := { name := "walTwice", fn := fun _ => fun
  | [d1, d2, d3, d4] => { results := [.lit (.bool true)], args := [d1, d2, d3, d4] }
  | _ => none }
def walTwiceRow : OpenClaim := { program := "ytoimpjmoikjibaa", sum := "ff963f2ac1e93d59856825f264d1dc158a0376f26159c11fbc96457e157bf23d", func := "slipway/slipwaylaw14.WalTwice", spec := "walTwice", unfollowed := true, recurses := true, apart := false }
def WalTwiceSaid : Prop := walTwiceRow.holds Try.pinned (OpenSpec.ofChange walTwiceSpec)

/-- ITS FALSE NEIGHBOUR: 'it returns false'. Refute it at one input. -/
def walTwiceWrong : ChangeSpec := { name := "walTwice", fn := fun _ => fun
  | [d1, d2, d3, d4] => { results := [.lit (.bool false)], args := [d1, d2, d3, d4] }
  | _ => none }
def WalTwiceWrongFalsely : Prop := walTwiceRow.holds Try.pinned (OpenSpec.ofChange walTwiceWrong)

/-- 'slipwaylaw14.WalLasts': WHATEVER THE INPUT: true; the input reads as it did. -/
def walLastsSpec : ChangeSpec := { name := "walLasts", fn := fun _ => fun
  | [d1, d2] => { results := [.lit (.bool true)], args := [d1, d2] }
  | _ => none }
def walLastsRow : OpenClaim := { program := "ytoimpjmoikjibaa", sum := "ff963f2ac1e93d59856825f264d1dc158a0376f26159c11fbc96457e157bf23d", func := "slipway/slipwaylaw14.WalLasts", spec := "walLasts", unfollowed := true, recurses := true, apart := false }
def WalLastsSaid : Prop := walLastsRow.holds Try.pinned (OpenSpec.ofChange walLastsSpec)

/-- ITS FALSE NEIGHBOUR: 'it returns false'. Refute it at one input. -/
def walLastsWrong : ChangeSpec := { name := "walLasts", fn := fun _ => fun
  | [d1, d2] => { results := [.lit (.bool false)], args := [d1, d2] }
  | _ => none }
def WalLastsWrongFalsely : Prop := walLastsRow.holds Try.pinned (OpenSpec.ofChange walLastsWrong)

/- THE SECOND FORM. 'bulk': how many values and letters a reading holds, each counted each time it is reached (what is shared counts as often as it is met; a slice's spare places count too). A statement '..UptoSaid' is the law's where the arguments, and the package variables that the reading takes, are together of bulk at most 1048576: NARROWER than '..Said'. Prove '..Said' where nothing that the law and all that it calls make is longer than what came in: it says more and counts as full. Else prove '..UptoSaid'. A law counts once. -/
mutual
def uptoBulk {H : Type} : DataW H → Nat
  | .lit (.string bytes) => bytes.length + 1
  | .lit _ => 1
  | .nil => 1
  | .ptr d => uptoBulk d + 1
  | .slice elems spare => uptoBulkAll elems + uptoBulkAll spare + 1
  | .agg parts => uptoBulkAll parts + 1
  | .iface _ d => uptoBulk d + 1
  | .map entries => uptoBulkEntries entries + 1
  | .held _ => 1
def uptoBulkAll {H : Type} : List (DataW H) → Nat
  | [] => 0
  | d :: r => uptoBulk d + uptoBulkAll r
def uptoBulkEntries {H : Type} : List (Lit × DataW H) → Nat
  | [] => 0
  | x :: r => uptoBulkEntry x + uptoBulkEntries r
def uptoBulkEntry {H : Type} : Lit × DataW H → Nat
  | (.string bytes, d) => bytes.length + uptoBulk d + 1
  | (_, d) => uptoBulk d + 1
 end
def uptoSmall : (H : Type) → List (DataW H) → Bool := fun _ ds => decide (uptoBulkAll ds ≤ 1048576)
def OpenSpec.upto (s : _root_.Go.ChangeSpec) : _root_.Go.OpenSpec := { _root_.Go.OpenSpec.ofChange s with cond := some uptoSmall }

/-- 'slipwaylaw13.DockSafe', WHERE WHAT IT READS IS OF BULK AT MOST 1048576: true; the input reads as it did. -/
def dockSafeUptoRow : OpenClaim := { program := "ytoimpjmoikjibaa", sum := "ff963f2ac1e93d59856825f264d1dc158a0376f26159c11fbc96457e157bf23d", func := "slipway/slipwaylaw13.DockSafe", spec := "dockSafe", unfollowed := true, recurses := true, apart := false, narrowed := true }
def DockSafeUptoSaid : Prop := dockSafeUptoRow.holds Try.pinned (OpenSpec.upto dockSafeSpec)

/-- 'slipwaylaw13.DockArms', WHERE WHAT IT READS IS OF BULK AT MOST 1048576: true; the input reads as it did. -/
def dockArmsUptoRow : OpenClaim := { program := "ytoimpjmoikjibaa", sum := "ff963f2ac1e93d59856825f264d1dc158a0376f26159c11fbc96457e157bf23d", func := "slipway/slipwaylaw13.DockArms", spec := "dockArms", unfollowed := true, recurses := true, apart := false, narrowed := true }
def DockArmsUptoSaid : Prop := dockArmsUptoRow.holds Try.pinned (OpenSpec.upto dockArmsSpec)

/-- 'slipwaylaw13.DockCuts', WHERE WHAT IT READS IS OF BULK AT MOST 1048576: true; the input reads as it did. -/
def dockCutsUptoRow : OpenClaim := { program := "ytoimpjmoikjibaa", sum := "ff963f2ac1e93d59856825f264d1dc158a0376f26159c11fbc96457e157bf23d", func := "slipway/slipwaylaw13.DockCuts", spec := "dockCuts", unfollowed := true, recurses := true, apart := false, narrowed := true }
def DockCutsUptoSaid : Prop := dockCutsUptoRow.holds Try.pinned (OpenSpec.upto dockCutsSpec)

/-- 'slipwaylaw13.DockApart', WHERE WHAT IT READS IS OF BULK AT MOST 1048576: true; the input reads as it did. -/
def dockApartUptoRow : OpenClaim := { program := "ytoimpjmoikjibaa", sum := "ff963f2ac1e93d59856825f264d1dc158a0376f26159c11fbc96457e157bf23d", func := "slipway/slipwaylaw13.DockApart", spec := "dockApart", unfollowed := true, recurses := true, apart := false, narrowed := true }
def DockApartUptoSaid : Prop := dockApartUptoRow.holds Try.pinned (OpenSpec.upto dockApartSpec)

/-- 'slipwaylaw13.DockPlays', WHERE WHAT IT READS IS OF BULK AT MOST 1048576: true; the input reads as it did. -/
def dockPlaysUptoRow : OpenClaim := { program := "ytoimpjmoikjibaa", sum := "ff963f2ac1e93d59856825f264d1dc158a0376f26159c11fbc96457e157bf23d", func := "slipway/slipwaylaw13.DockPlays", spec := "dockPlays", unfollowed := true, recurses := true, apart := false, narrowed := true }
def DockPlaysUptoSaid : Prop := dockPlaysUptoRow.holds Try.pinned (OpenSpec.upto dockPlaysSpec)

/-- 'slipwaylaw14.WalOpens', WHERE WHAT IT READS IS OF BULK AT MOST 1048576: true; the input reads as it did. -/
def walOpensUptoRow : OpenClaim := { program := "ytoimpjmoikjibaa", sum := "ff963f2ac1e93d59856825f264d1dc158a0376f26159c11fbc96457e157bf23d", func := "slipway/slipwaylaw14.WalOpens", spec := "walOpens", unfollowed := true, recurses := true, apart := false, narrowed := true }
def WalOpensUptoSaid : Prop := walOpensUptoRow.holds Try.pinned (OpenSpec.upto walOpensSpec)

/-- 'slipwaylaw14.WalTurns', WHERE WHAT IT READS IS OF BULK AT MOST 1048576: true; the input reads as it did. -/
def walTurnsUptoRow : OpenClaim := { program := "ytoimpjmoikjibaa", sum := "ff963f2ac1e93d59856825f264d1dc158a0376f26159c11fbc96457e157bf23d", func := "slipway/slipwaylaw14.WalTurns", spec := "walTurns", unfollowed := true, recurses := true, apart := false, narrowed := true }
def WalTurnsUptoSaid : Prop := walTurnsUptoRow.holds Try.pinned (OpenSpec.upto walTurnsSpec)

/-- 'slipwaylaw14.WalOwn', WHERE WHAT IT READS IS OF BULK AT MOST 1048576: true; the input reads as it did. -/
def walOwnUptoRow : OpenClaim := { program := "ytoimpjmoikjibaa", sum := "ff963f2ac1e93d59856825f264d1dc158a0376f26159c11fbc96457e157bf23d", func := "slipway/slipwaylaw14.WalOwn", spec := "walOwn", unfollowed := true, recurses := true, apart := false, narrowed := true }
def WalOwnUptoSaid : Prop := walOwnUptoRow.holds Try.pinned (OpenSpec.upto walOwnSpec)

/-- 'slipwaylaw14.WalPlays', WHERE WHAT IT READS IS OF BULK AT MOST 1048576: true; the input reads as it did. -/
def walPlaysUptoRow : OpenClaim := { program := "ytoimpjmoikjibaa", sum := "ff963f2ac1e93d59856825f264d1dc158a0376f26159c11fbc96457e157bf23d", func := "slipway/slipwaylaw14.WalPlays", spec := "walPlays", unfollowed := true, recurses := true, apart := false, narrowed := true }
def WalPlaysUptoSaid : Prop := walPlaysUptoRow.holds Try.pinned (OpenSpec.upto walPlaysSpec)

/-- 'slipwaylaw14.WalTwice', WHERE WHAT IT READS IS OF BULK AT MOST 1048576: true; the input reads as it did. -/
def walTwiceUptoRow : OpenClaim := { program := "ytoimpjmoikjibaa", sum := "ff963f2ac1e93d59856825f264d1dc158a0376f26159c11fbc96457e157bf23d", func := "slipway/slipwaylaw14.WalTwice", spec := "walTwice", unfollowed := true, recurses := true, apart := false, narrowed := true }
def WalTwiceUptoSaid : Prop := walTwiceUptoRow.holds Try.pinned (OpenSpec.upto walTwiceSpec)

/-- 'slipwaylaw14.WalLasts', WHERE WHAT IT READS IS OF BULK AT MOST 1048576: true; the input reads as it did. -/
def walLastsUptoRow : OpenClaim := { program := "ytoimpjmoikjibaa", sum := "ff963f2ac1e93d59856825f264d1dc158a0376f26159c11fbc96457e157bf23d", func := "slipway/slipwaylaw14.WalLasts", spec := "walLasts", unfollowed := true, recurses := true, apart := false, narrowed := true }
def WalLastsUptoSaid : Prop := walLastsUptoRow.holds Try.pinned (OpenSpec.upto walLastsSpec)

end Rows
end Go.Proofs.Ytoimpjmoikjibaa
