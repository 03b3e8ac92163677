/- Contracts of the laws' own small functions. -/
import Derived.Test.Ytcapmljnhflopaa01
namespace Go.Proofs.Ytcapmljnhflopaa
open Go.RowKit




end Go.Proofs.Ytcapmljnhflopaa
