/- Contracts of the laws' own small functions. -/
import Derived.Test.Ytbmkpcenjjdflaa01
namespace Go.Proofs.Ytbmkpcenjjdflaa
open Go.RowKit




end Go.Proofs.Ytbmkpcenjjdflaa
