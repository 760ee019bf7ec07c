-- DERIVED: written by wip/tools/xprint.py over the translation; Lean checks it.
import Derived.Test.YtoimpjmoikjibaaPx0
import Derived.Test.YtoimpjmoikjibaaPx1
import Derived.Test.YtoimpjmoikjibaaPx2
import Derived.Test.YtoimpjmoikjibaaPx3
import Derived.Test.YtoimpjmoikjibaaPx4
import Derived.Test.YtoimpjmoikjibaaPx5
import Derived.Test.YtoimpjmoikjibaaPx6
import Derived.Test.YtoimpjmoikjibaaPx7
import Derived.Test.YtoimpjmoikjibaaPx8
import Derived.Test.YtoimpjmoikjibaaPx9
import Derived.Test.YtoimpjmoikjibaaPx10
import Derived.Test.YtoimpjmoikjibaaPx11
import Derived.Test.YtoimpjmoikjibaaPx12
import Derived.Test.YtoimpjmoikjibaaPx13
namespace Go.Proofs.Ytoimpjmoikjibaa.P
open Go.RowKit Go.Proofs.YtoimpjmoikjibaaW.PrintWords Go.Proofs.YtoimpjmoikjibaaW.PrintLast Go.Proofs.YtoimpjmoikjibaaW.PrintMore
attribute [local go_sem] max2_int min2_int max_two min_two max_three min_three max_four min_four   -- for this text's walks alone
set_option linter.unusedVariables false
set_option linter.unusedSimpArgs false

end Go.Proofs.Ytoimpjmoikjibaa.P
