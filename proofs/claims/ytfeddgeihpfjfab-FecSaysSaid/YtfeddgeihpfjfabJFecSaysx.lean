-- Written by a program of mine (inj.py: the kit's printer, some functions told by hand).
import Derived.Test.YtfeddgeihpfjfabJFecSaysx0
import Derived.Test.YtfeddgeihpfjfabJFecSaysx1
import Derived.Test.YtfeddgeihpfjfabJFecSaysx2
import Derived.Test.YtfeddgeihpfjfabJFecSaysx3
import Derived.Test.YtfeddgeihpfjfabJFecSaysx4
import Derived.Test.YtfeddgeihpfjfabJFecSaysx5
import Derived.Test.YtfeddgeihpfjfabJFecSaysx6
namespace Go.Proofs.Ytfeddgeihpfjfab.JFecSays
open Go.RowKit Go.Proofs.YtfeddgeihpfjfabW.PrintWords Go.Proofs.YtfeddgeihpfjfabW.PrintLast Go.Proofs.YtfeddgeihpfjfabW.PrintMore
attribute [local go_sem] max2_int min2_int max_two min_two max_three min_three max_four min_four   -- for this text's walks alone
set_option linter.unusedVariables false
set_option linter.unusedSimpArgs false

end Go.Proofs.Ytfeddgeihpfjfab.JFecSays
