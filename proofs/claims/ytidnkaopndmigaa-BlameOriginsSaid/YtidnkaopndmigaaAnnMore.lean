/- More about the origins along versions: the last step, bounds, how many are new. -/
import Derived.Test.YtidnkaopndmigaaAnnot
namespace Go.Proofs.Ytidnkaopndmigaa.PL
open Go.RowKit Go.Proofs.YtidnkaopndmigaaW.PrintWords Go.Proofs.YtidnkaopndmigaaW.PrintMore Go.Proofs.Ytidnkaopndmigaa.P

theorem badV_some {l : List (List ByteArray)} {i : Int} {p : Int × Int} (h : badV l i = some p) : p.1 ≠ 0 := by
  induction l generalizing i with
  | nil => simp [badV] at h
  | cons w r ih =>
    unfold badV at h
    by_cases e : (vF w).1 = 0
    · rw [if_pos e] at h
      exact ih h
    · rw [if_neg e] at h
      rw [← Option.some.inj h]
      exact e
theorem aF_zero {l : List (List ByteArray)} (h : (aF l).2.1 = 0) : l.length ≤ 16 ∧ (∀ w ∈ l, okL w) ∧ aF l = (annL 0 [] [] l, 0, 0) := by
  unfold aF at h ⊢
  by_cases h1 : l.length > 16
  · rw [if_pos h1] at h
    simp at h
  · rw [if_neg h1] at h ⊢
    cases hb : badV l 0 with
    | some p =>
      rw [hb] at h
      exact absurd h (badV_some hb)
    | none => exact ⟨by omega, badV_none.1 hb, rfl⟩
theorem annL_length (l : List (List ByteArray)) : ∀ (v : Int) (o : List Int) (t : List ByteArray), o.length = t.length → (annL v o t l).length = (l.getLastD t).length := by
  induction l with
  | nil =>
    intro v o t h
    simpa [annL] using h
  | cons w r ih =>
    intro v o t h
    simp only [annL]
    rw [ih _ _ _ (ann_length _ _ _ _), List.getLastD_cons]
section
variable {α : Type} [DecidableEq α]
theorem ann_bound (v lo : Int) (x y : List α) (o : List Int) (hl : o.length = x.length) (ho : ∀ p ∈ o, lo ≤ p ∧ p < v) (hv : lo ≤ v) : ∀ p ∈ ann v x y o, lo ≤ p ∧ p < v + 1 := by
  fun_induction ann v x y o with
  | case1 o => simp
  | case2 b y o ih =>
    simp only [List.mem_cons, forall_eq_or_imp]
    exact ⟨by omega, ih hl ho⟩
  | case3 a x o ih =>
    refine ih (by simp only [List.length_drop, hl, List.length_cons]; omega) (fun p hp => ho p (List.mem_of_mem_drop hp))
  | case4 x a y o ih =>
    cases o with
    | nil => simp at hl
    | cons q o =>
      simp only [List.headD_cons, List.drop_succ_cons, List.drop_zero, List.mem_cons, forall_eq_or_imp] at ih ho ⊢
      exact ⟨by omega, ih (by simpa using hl) ho.2⟩
  | case5 a x b y o h h2 ih =>
    refine ih (by simp only [List.length_drop, hl, List.length_cons]; omega) (fun p hp => ho p (List.mem_of_mem_drop hp))
  | case6 a x b y o h h2 ih =>
    simp only [List.mem_cons, forall_eq_or_imp]
    exact ⟨by omega, ih hl ho⟩
end
theorem annL_bound (l : List (List ByteArray)) : ∀ (v : Int) (o : List Int) (t : List ByteArray), 0 ≤ v → o.length = t.length → (∀ p ∈ o, 0 ≤ p ∧ p < v) → ∀ p ∈ annL v o t l, 0 ≤ p ∧ p < v + l.length := by
  induction l with
  | nil =>
    intro v o t hv hl ho p hp
    have := ho p (by simpa [annL] using hp)
    simpa using this
  | cons w r ih =>
    intro v o t hv hl ho p hp
    simp only [annL] at hp
    have := ih (v + 1) (ann v t w o) w (by omega) (ann_length _ _ _ _) (ann_bound v 0 t w o hl ho (by omega)) p hp
    simp only [List.length_cons]
    omega
end Go.Proofs.Ytidnkaopndmigaa.PL
