/- What changeforgeequal.Ints comes to. -/
import Derived.Test.YtidnkaopndmigaaPL
import Derived.Test.YtidnkaopndmigaaPx6
namespace Go.Proofs.Ytidnkaopndmigaa.PL
open Go.RowKit Go.Proofs.YtidnkaopndmigaaW.PrintWords Go.Proofs.YtidnkaopndmigaaW.PrintMore Go.Proofs.Ytidnkaopndmigaa.P
theorem Ints_l0 (a b : List Int) (h : a.length = b.length) (ha : a.length ≤ 1000000000) : ∀ (d i : Nat), a.length = i + d → Ev (fun k => changeforgeequal_Ints.l0 k a b (i : Int)) (decide (a.drop i = b.drop i)) := by
  intro d
  induction d with
  | zero =>
    intro i hi
    refine ⟨1, fun k hk => ?_⟩
    obtain ⟨m, rfl⟩ : ∃ m, k = m + 1 := ⟨k - 1, by omega⟩
    simp only [changeforgeequal_Ints.l0]
    rw [if_neg (by omega), List.drop_eq_nil_of_le (by omega), List.drop_eq_nil_of_le (by omega)]
    simp
  | succ d ih =>
    intro i hi
    have h1 : i < a.length := by omega
    have h2 : i < b.length := by omega
    obtain ⟨K, hK⟩ := ih (i + 1) (by omega)
    refine ⟨K + 1, fun k hk => ?_⟩
    obtain ⟨m, rfl⟩ : ∃ m, k = m + 1 := ⟨k - 1, by omega⟩
    have h := hK m (by omega)
    dsimp only at h
    simp only [changeforgeequal_Ints.l0]
    rw [if_pos (by omega), if_pos (by omega), if_pos (by omega), rd_nat h1, rd_nat h2, wrap64_succ (by omega), h, List.drop_eq_getElem_cons h1, List.drop_eq_getElem_cons h2]
    by_cases e : a[i] = b[i]
    · rw [if_pos e, e]
      simp only [List.cons.injEq, true_and]
    · rw [if_neg e]
      simp only [List.cons.injEq, e, false_and, decide_false]
theorem Ints_ev (a b : List Int) (ha : a.length ≤ 1000000000) : Ev (fun k => changeforgeequal_Ints.f k a b) (decide (a = b)) := by
  unfold changeforgeequal_Ints.f
  by_cases h : a.length = b.length
  · obtain ⟨K, hK⟩ := Ints_l0 a b h ha a.length 0 (by omega)
    refine ⟨K, fun k hk => ?_⟩
    dsimp only
    rw [if_pos (by omega)]
    have := hK k hk
    simpa using this
  · refine ⟨0, fun k _ => ?_⟩
    dsimp only
    rw [if_neg (by omega), decide_eq_false (fun e => h (by rw [e]))]
end Go.Proofs.Ytidnkaopndmigaa.PL
