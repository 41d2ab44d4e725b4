-- PRINTED BY print.sh 35421559b90ae4d0a3588c463048766b98c2df88dd9212a6774a882060cdf62d: not written by this session
import Derived.Test.YtfeddgeihpfjfaaPMediumSaysx0
import Derived.Test.YtfeddgeihpfjfaaPMediumSaysx1
import Derived.Test.YtfeddgeihpfjfaaPMediumSaysx2
import Derived.Test.YtfeddgeihpfjfaaPMediumSaysx3
import Derived.Test.YtfeddgeihpfjfaaPMediumSaysx4
import Derived.Test.YtfeddgeihpfjfaaPMediumSaysx5
import Derived.Test.YtfeddgeihpfjfaaPMediumSaysx6
import Derived.Test.YtfeddgeihpfjfaaPMediumSaysx7
import Derived.Test.YtfeddgeihpfjfaaPMediumSaysx8
namespace Go.Proofs.Ytfeddgeihpfjfaa.PMediumSays
open Go.RowKit Go.Proofs.YtfeddgeihpfjfaaW.PrintWords Go.Proofs.YtfeddgeihpfjfaaW.PrintLast Go.Proofs.YtfeddgeihpfjfaaW.PrintMore
attribute [local go_sem] max2_int min2_int max_two min_two max_three min_three max_four min_four   -- for this text's walks alone
set_option linter.unusedVariables false
set_option linter.unusedSimpArgs false

end Go.Proofs.Ytfeddgeihpfjfaa.PMediumSays
