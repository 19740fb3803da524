/- The statement RenameSimilarityBounds over plain values: every argument that can be read as data makes the law's plain function true. -/
import Derived.Test.YthnfnccdehohjaaPx4
import Derived.Test.YthnfnccdehohjaaOps
namespace Go.Proofs.Ythnfnccdehohjaa.Pure
open Go.RowKit Go.Proofs.YthnfnccdehohjaaW.PrintWords Go.Proofs.YthnfnccdehohjaaW.PrintLast Go.Proofs.YthnfnccdehohjaaW.PrintMore Go.Proofs.Ythnfnccdehohjaa.P Go.Proofs.Ythnfnccdehohjaa.Opens
def RenameSimilarityBounds.Pure : Prop := ∀ (x0 : (List ByteArray)) (x1 : (List ByteArray)), (wfL 16 wfStr) x0 → (wfL 16 wfStr) x1 → ∃ k, changeforgelaw2_RenameSimilarityBounds.f k x0 x1 = some true
end Go.Proofs.Ythnfnccdehohjaa.Pure
