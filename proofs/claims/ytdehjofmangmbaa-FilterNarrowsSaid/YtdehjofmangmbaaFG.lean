/- Walks: the reference's gaps and Rank. -/
import Derived.Test.YtdehjofmangmbaaFF
namespace Go.Proofs.Ytdehjofmangmbaa
open Go.RowKit Go.Shelf
end Go.Proofs.Ytdehjofmangmbaa
