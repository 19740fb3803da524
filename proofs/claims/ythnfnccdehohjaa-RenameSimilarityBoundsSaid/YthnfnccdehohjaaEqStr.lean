/- Two lists of strings, compared. -/
import Derived.Test.YthnfnccdehohjaaPL
import Derived.Test.YthnfnccdehohjaaPx4
namespace Go.Proofs.Ythnfnccdehohjaa.PL
open Go.RowKit Go.Proofs.YthnfnccdehohjaaW.PrintWords Go.Proofs.YthnfnccdehohjaaW.PrintMore Go.Proofs.Ythnfnccdehohjaa.P

theorem Strings_ev (a b : List ByteArray) (ha : a.length ≤ 1000000000) : Ev (fun k => changeforgeequal_Strings.f k a b) (decide (a = b)) := by
  unfold changeforgeequal_Strings.f
  by_cases hl : a.length = b.length
  · have key := Ev_up a.length (fun k i => changeforgeequal_Strings.l0 k a b (i : Int)) (fun i => decide (a.drop i = b.drop i)) ?_ ?_ 0 (by omega)
    · obtain ⟨K, h⟩ := key
      refine ⟨K, fun k hk => ?_⟩
      have := h k hk
      dsimp only
      rw [if_pos (by omega)]
      simpa using this
    · refine ⟨1, fun k hk => ?_⟩
      obtain ⟨m, rfl⟩ : ∃ m, k = m + 1 := ⟨k - 1, by omega⟩
      simp only [changeforgeequal_Strings.l0]
      rw [if_neg (by omega), List.drop_length, hl, List.drop_length]
      simp
    · rintro i hi ⟨K, hK⟩
      refine ⟨K + 1, fun k hk => ?_⟩
      obtain ⟨m, rfl⟩ : ∃ m, k = m + 1 := ⟨k - 1, by omega⟩
      have h1 := hK m (by omega)
      dsimp only at h1 ⊢
      simp only [changeforgeequal_Strings.l0]
      rw [if_pos (by omega), if_pos (by omega), if_pos (by omega), rdOf_nat hi, rdOf_nat (show i < b.length by omega), wrap64_succ (by omega), List.drop_eq_getElem_cons hi, List.drop_eq_getElem_cons (show i < b.length by omega)]
      by_cases e : a[i] = b[i]
      · rw [if_pos ((bytes_eq _ _).2 e), h1, e]
        simp only [List.cons.injEq, true_and]
      · rw [if_neg (fun h => e ((bytes_eq _ _).1 h))]
        simp only [List.cons.injEq, e, false_and, decide_false]
  · refine ⟨0, fun k _ => ?_⟩
    dsimp only
    rw [if_neg (by omega)]
    have : a ≠ b := fun h => hl (by rw [h])
    simp [this]
end Go.Proofs.Ythnfnccdehohjaa.PL
