/- The plain statement of FecSays. -/
import Derived.Test.YtfeddgeihpfjfabFecP4
namespace Go.Proofs.Ytfeddgeihpfjfab.Pure
open Go.RowKit Go.Proofs.Ytfeddgeihpfjfab.JFecSays
theorem FecSays : patchbaylaw1_FecSays.Pure := fec_pure
end Go.Proofs.Ytfeddgeihpfjfab.Pure
