/- The plain statement of BackoffSays: for every input the law's function answers true. -/
import Derived.Test.YtfeddgeihpfjfaaBackP
namespace Go.Proofs.Ytfeddgeihpfjfaa.Pure
open Go.RowKit Go.Proofs.Ytfeddgeihpfjfaa.JBackoffSays
theorem BackoffSays : patchbaylaw1_BackoffSays.Pure := backoff_pure
end Go.Proofs.Ytfeddgeihpfjfaa.Pure
