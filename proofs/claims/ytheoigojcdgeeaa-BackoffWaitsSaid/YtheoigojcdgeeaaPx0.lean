-- DERIVED: written by wip/tools/xprint.py over the translation; Lean checks it.
import Derived.Test.YtheoigojcdgeeaaProg
import Derived.Below
import Derived.Deep.Draws
import Derived.Deep.AppendLies
import Derived.Maps.AppendAt
import Derived.OwnWalk
import Derived.Laws.BytesArg
import Derived.Laws.MakeOwn
import Derived.Laws.OwnMore
import Derived.Deep.OwnRows
import Derived.Tactics
import Derived.Lib.ConvBytes
import Derived.Laws.Slices
import Derived.WalkKit
import Derived.KernelRfl
import Derived.RowKit3
import Derived.Deep.LoopGhost
import Derived.Deep.QuietTactic
import Derived.BigQuiet
import Derived.WideLaws
import Derived.Deep.DeepCutAuto
import Derived.Deep.CutBlock
import Derived.Deep.RegionHeld3
import Derived.Laws.Rows
import Derived.Lib.AppendStr
import Derived.ArgAppend
import Derived.Laws.IdiomCopy
import Derived.OrdersHeld
import Derived.Laws.BitsLemmas
import Derived.RowKit
import Derived.WalkSpells
import Derived.ScopeJumps
import Derived.WalkMore
import Derived.Lib.SlBytesConst
import Derived.Test.YtheoigojcdgeeaaClock
import Derived.Test.YtheoigojcdgeeaaWWords
import Derived.Test.YtheoigojcdgeeaaWLast
import Derived.Test.YtheoigojcdgeeaaWTab
import Derived.Test.YtheoigojcdgeeaaWFour
import Derived.Test.YtheoigojcdgeeaaWQPut
import Derived.Test.YtheoigojcdgeeaaWApart
import Derived.Test.YtheoigojcdgeeaaWArr
import Derived.Test.YtheoigojcdgeeaaWZeros
import Derived.Test.YtheoigojcdgeeaaWFoot
import Derived.Test.YtheoigojcdgeeaaWKept
import Derived.Test.YtheoigojcdgeeaaWShare
import Derived.Test.YtheoigojcdgeeaaWN
import Derived.Test.YtheoigojcdgeeaaWFootNe
import Derived.Test.YtheoigojcdgeeaaWAt
import Derived.Test.YtheoigojcdgeeaaWEqStruct
import Derived.Test.YtheoigojcdgeeaaWRepsOne
import Derived.Test.YtheoigojcdgeeaaWInv
import Derived.Test.YtheoigojcdgeeaaWInvWords
import Derived.Test.YtheoigojcdgeeaaWGuard
import Derived.Test.YtheoigojcdgeeaaWNEv
import Derived.Test.YtheoigojcdgeeaaWMore
namespace Go.Proofs.Ytheoigojcdgeeaa.P
open Go.RowKit Go.Proofs.YtheoigojcdgeeaaW.PrintWords Go.Proofs.YtheoigojcdgeeaaW.PrintLast Go.Proofs.YtheoigojcdgeeaaW.PrintMore
attribute [local go_sem] max2_int min2_int max_two min_two max_three min_three max_four min_four   -- for this text's walks alone
set_option linter.unusedVariables false
set_option linter.unusedSimpArgs false



def errW : Option Int → Value
  | none => .nilIface
  | some c => .iface 0 (.int .i64 c)
theorem errW_none : errW none = .nilIface := rfl
theorem errW_some (c : Int) : errW (some c) = .iface 0 (.int .i64 c) := rfl

-- the values' own types

end Go.Proofs.Ytheoigojcdgeeaa.P
