/- The laws' own example: the inserted line has the later version as origin. -/
import Derived.Test.YtidnkaopndmigaaAnnot
import Derived.Test.YtidnkaopndmigaaEqInts
import Derived.Test.YtidnkaopndmigaaPx6
namespace Go.Proofs.Ytidnkaopndmigaa.PL
open Go.RowKit Go.Proofs.YtidnkaopndmigaaW.PrintWords Go.Proofs.YtidnkaopndmigaaW.PrintMore Go.Proofs.Ytidnkaopndmigaa.P
theorem annL_ba {a b : ByteArray} (h : a ≠ b) : annL 0 [] [] [[a], [b, a]] = [1, 0] := by
  have e1 : ann 0 [] [a] [] = [0] := by
    rw [ann, ann]
  have e2 : ann 1 [a] [b, a] [0] = [1, 0] := by
    rw [ann, if_neg h, if_neg (by rw [lcs_nil, lcs_self]; simp), ann, if_pos rfl, ann]
    rfl
  simp only [annL]
  rw [e1]
  exact e2
theorem added_ev : Ev (fun k => changeforgelaw2_added.f k) true := by
  have hn : (⟨#[97]⟩ : ByteArray) ≠ ⟨#[98]⟩ := by
    intro h
    have := congrArg ByteArray.data h
    simp at this
  have e : aF [[⟨#[97]⟩], [⟨#[98]⟩, ⟨#[97]⟩]] = ([1, 0], 0, 0) := by
    unfold aF
    rw [if_neg (by simp), badV_none.2 (by
      intro w hw
      simp only [List.mem_cons, List.not_mem_nil, or_false] at hw
      rcases hw with rfl | rfl
      · exact ⟨by simp, fun s hs => by
          simp only [List.mem_cons, List.not_mem_nil, or_false] at hs
          subst hs
          exact ⟨by decide, by decide⟩⟩
      · exact ⟨by simp, fun s hs => by
          simp only [List.mem_cons, List.not_mem_nil, or_false] at hs
          rcases hs with rfl | rfl <;> exact ⟨by decide, by decide⟩⟩)]
    simp only []
    rw [annL_ba hn]
  obtain ⟨K1, h1⟩ := Annotate_ev [[⟨#[97]⟩], [⟨#[98]⟩, ⟨#[97]⟩]]
  obtain ⟨K2, h2⟩ := Ints_ev [1, 0] [1, 0] (by simp)
  refine ⟨max K1 K2, fun k hk => ?_⟩
  have a1 := h1 k (by omega)
  have a2 := h2 k (by omega)
  dsimp only at a1 a2
  unfold changeforgelaw2_added.f
  dsimp only
  rw [a1, Option.bind_some, e]
  dsimp only
  rw [if_pos (by trivial), a2, Option.bind_some]
  rfl
end Go.Proofs.Ytidnkaopndmigaa.PL
