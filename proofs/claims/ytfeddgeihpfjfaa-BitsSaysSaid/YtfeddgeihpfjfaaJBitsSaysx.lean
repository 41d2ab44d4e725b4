-- Written by a program of mine (inj.py: the kit's printer, some functions told by hand).
import Derived.Test.YtfeddgeihpfjfaaJBitsSaysx0
import Derived.Test.YtfeddgeihpfjfaaJBitsSaysx1
import Derived.Test.YtfeddgeihpfjfaaJBitsSaysx2
import Derived.Test.YtfeddgeihpfjfaaJBitsSaysx3
namespace Go.Proofs.Ytfeddgeihpfjfaa.JBitsSays
open Go.RowKit Go.Proofs.YtfeddgeihpfjfaaW.PrintWords Go.Proofs.YtfeddgeihpfjfaaW.PrintLast Go.Proofs.YtfeddgeihpfjfaaW.PrintMore
attribute [local go_sem] max2_int min2_int max_two min_two max_three min_three max_four min_four   -- for this text's walks alone
set_option linter.unusedVariables false
set_option linter.unusedSimpArgs false

end Go.Proofs.Ytfeddgeihpfjfaa.JBitsSays
