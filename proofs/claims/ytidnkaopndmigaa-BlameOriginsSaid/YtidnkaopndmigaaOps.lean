/- The argument types of the laws, opened as Lean values; written by a program of this session. -/
import Derived.Test.YtidnkaopndmigaaOpens
import Derived.Test.YtidnkaopndmigaaPx0
namespace Go.Proofs.Ytidnkaopndmigaa.Opens
open Go.RowKit Go.Proofs.YtidnkaopndmigaaW.PrintWords Go.Proofs.Ytidnkaopndmigaa.P
end Go.Proofs.Ytidnkaopndmigaa.Opens
