/- Plain Lean functions for Go functions of the program, and proofs that the calls come to them; written by a program of this session (wip/tools), not by the kit's print. No condition. -/
import Derived.Test.YthcklcfdeejkpaaR0
import Derived.Test.YthcklcfdeejkpaaR1
import Derived.Test.YthcklcfdeejkpaaR2
import Derived.Test.YthcklcfdeejkpaaR3
import Derived.Test.YthcklcfdeejkpaaR4
import Derived.Test.YthcklcfdeejkpaaR5
import Derived.Test.YthcklcfdeejkpaaR6
namespace Go.Proofs.Ythcklcfdeejkpaa.R
open Go.RowKit Go.Proofs.YthcklcfdeejkpaaW.PrintWords Go.Proofs.YthcklcfdeejkpaaW.PrintLast Go.Proofs.YthcklcfdeejkpaaW.PrintMore
attribute [local go_sem] max2_int min2_int max_two min_two max_three min_three max_four min_four   -- for this text's walks alone
set_option linter.unusedVariables false
set_option linter.unusedSimpArgs false

end Go.Proofs.Ythcklcfdeejkpaa.R
