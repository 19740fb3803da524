/- Small lemmas for the functions whose contracts are given by hand: rows that are read, as cells; rows of the call's own, out of cells. -/
import Derived.Test.YtidnkaopndmigaaWWords
import Derived.Test.YtidnkaopndmigaaWMore
import Derived.Test.YtidnkaopndmigaaWN
import Derived.OwnWalk
namespace Go.Proofs.Ytidnkaopndmigaa.HK
open Go.RowKit Go.Proofs.YtidnkaopndmigaaW.PrintWords Go.Proofs.YtidnkaopndmigaaW.PrintMore

end Go.Proofs.Ytidnkaopndmigaa.HK
