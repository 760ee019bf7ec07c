-- DERIVED: written by wip/tools/xprint.py over the translation; Lean checks it.
import Derived.Test.YtheoigojcdgeeaaPx0
import Derived.Test.YtheoigojcdgeeaaPx1
import Derived.Test.YtheoigojcdgeeaaPx2
import Derived.Test.YtheoigojcdgeeaaPx3
import Derived.Test.YtheoigojcdgeeaaPx4
import Derived.Test.YtheoigojcdgeeaaPx5
import Derived.Test.YtheoigojcdgeeaaPx6
import Derived.Test.YtheoigojcdgeeaaPx7
import Derived.Test.YtheoigojcdgeeaaPx8
namespace Go.Proofs.Ytheoigojcdgeeaa.P
open Go.RowKit Go.Proofs.YtheoigojcdgeeaaW.PrintWords Go.Proofs.YtheoigojcdgeeaaW.PrintLast Go.Proofs.YtheoigojcdgeeaaW.PrintMore
attribute [local go_sem] max2_int min2_int max_two min_two max_three min_three max_four min_four   -- for this text's walks alone
set_option linter.unusedVariables false
set_option linter.unusedSimpArgs false

end Go.Proofs.Ytheoigojcdgeeaa.P
