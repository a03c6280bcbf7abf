/- Walks: the reference's price. -/
import Derived.Test.YtdehjofmangmbaaFI
namespace Go.Proofs.Ytdehjofmangmbaa
open Go.RowKit Go.Shelf
end Go.Proofs.Ytdehjofmangmbaa
