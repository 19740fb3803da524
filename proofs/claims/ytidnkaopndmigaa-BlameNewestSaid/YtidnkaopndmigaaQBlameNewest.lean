/- The statement BlameNewest over plain values: every argument that can be read as data makes the law's plain function true. -/
import Derived.Test.YtidnkaopndmigaaPx14
import Derived.Test.YtidnkaopndmigaaOps
namespace Go.Proofs.Ytidnkaopndmigaa.Pure
open Go.RowKit Go.Proofs.YtidnkaopndmigaaW.PrintWords Go.Proofs.YtidnkaopndmigaaW.PrintLast Go.Proofs.YtidnkaopndmigaaW.PrintMore Go.Proofs.Ytidnkaopndmigaa.P Go.Proofs.Ytidnkaopndmigaa.Opens
def BlameNewest.Pure : Prop := ∀ (x0 : (List (List ByteArray))), (wfL 24 (wfL 16 wfStr)) x0 → ∃ k, changeforgelaw2_BlameNewest.f k x0 = some true
end Go.Proofs.Ytidnkaopndmigaa.Pure
