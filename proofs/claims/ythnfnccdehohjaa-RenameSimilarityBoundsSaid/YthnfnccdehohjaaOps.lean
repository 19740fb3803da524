/- The argument types of the laws, opened as Lean values; written by a program of this session. -/
import Derived.Test.YthnfnccdehohjaaOpens
import Derived.Test.YthnfnccdehohjaaPx0
namespace Go.Proofs.Ythnfnccdehohjaa.Opens
open Go.RowKit Go.Proofs.YthnfnccdehohjaaW.PrintWords Go.Proofs.Ythnfnccdehohjaa.P
end Go.Proofs.Ythnfnccdehohjaa.Opens
