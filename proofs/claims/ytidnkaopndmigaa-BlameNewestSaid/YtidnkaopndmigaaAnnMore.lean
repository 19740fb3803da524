/- More about the origins along versions: the last step, bounds, how many are new. -/
import Derived.Test.YtidnkaopndmigaaAnnot
namespace Go.Proofs.Ytidnkaopndmigaa.PL
open Go.RowKit Go.Proofs.YtidnkaopndmigaaW.PrintWords Go.Proofs.YtidnkaopndmigaaW.PrintMore Go.Proofs.Ytidnkaopndmigaa.P

theorem badV_some {l : List (List ByteArray)} {i : Int} {p : Int × Int} (h : badV l i = some p) : p.1 ≠ 0 := by
  induction l generalizing i with
  | nil => simp [badV] at h
  | cons w r ih =>
    unfold badV at h
    by_cases e : (vF w).1 = 0
    · rw [if_pos e] at h
      exact ih h
    · rw [if_neg e] at h
      rw [← Option.some.inj h]
      exact e
theorem aF_zero {l : List (List ByteArray)} (h : (aF l).2.1 = 0) : l.length ≤ 16 ∧ (∀ w ∈ l, okL w) ∧ aF l = (annL 0 [] [] l, 0, 0) := by
  unfold aF at h ⊢
  by_cases h1 : l.length > 16
  · rw [if_pos h1] at h
    simp at h
  · rw [if_neg h1] at h ⊢
    cases hb : badV l 0 with
    | some p =>
      rw [hb] at h
      exact absurd h (badV_some hb)
    | none => exact ⟨by omega, badV_none.1 hb, rfl⟩
theorem annL_append (r s : List (List ByteArray)) : ∀ (v : Int) (o : List Int) (t : List ByteArray), annL v o t (r ++ s) = annL (v + r.length) (annL v o t r) (r.getLastD t) s := by
  induction r with
  | nil =>
    intro v o t
    simp [annL]
  | cons w r ih =>
    intro v o t
    simp only [List.cons_append, annL, List.length_cons]
    rw [ih, show (v + 1 + (r.length : Int)) = v + ((r.length + 1 : Nat) : Int) by omega, List.getLastD_cons]
theorem annL_length (l : List (List ByteArray)) : ∀ (v : Int) (o : List Int) (t : List ByteArray), o.length = t.length → (annL v o t l).length = (l.getLastD t).length := by
  induction l with
  | nil =>
    intro v o t h
    simpa [annL] using h
  | cons w r ih =>
    intro v o t h
    simp only [annL]
    rw [ih _ _ _ (ann_length _ _ _ _), List.getLastD_cons]
section
variable {α : Type} [DecidableEq α]
theorem ann_bound (v lo : Int) (x y : List α) (o : List Int) (hl : o.length = x.length) (ho : ∀ p ∈ o, lo ≤ p ∧ p < v) (hv : lo ≤ v) : ∀ p ∈ ann v x y o, lo ≤ p ∧ p < v + 1 := by
  fun_induction ann v x y o with
  | case1 o => simp
  | case2 b y o ih =>
    simp only [List.mem_cons, forall_eq_or_imp]
    exact ⟨by omega, ih hl ho⟩
  | case3 a x o ih =>
    refine ih (by simp only [List.length_drop, hl, List.length_cons]; omega) (fun p hp => ho p (List.mem_of_mem_drop hp))
  | case4 x a y o ih =>
    cases o with
    | nil => simp at hl
    | cons q o =>
      simp only [List.headD_cons, List.drop_succ_cons, List.drop_zero, List.mem_cons, forall_eq_or_imp] at ih ho ⊢
      exact ⟨by omega, ih (by simpa using hl) ho.2⟩
  | case5 a x b y o h h2 ih =>
    refine ih (by simp only [List.length_drop, hl, List.length_cons]; omega) (fun p hp => ho p (List.mem_of_mem_drop hp))
  | case6 a x b y o h h2 ih =>
    simp only [List.mem_cons, forall_eq_or_imp]
    exact ⟨by omega, ih hl ho⟩
end
theorem annL_bound (l : List (List ByteArray)) : ∀ (v : Int) (o : List Int) (t : List ByteArray), 0 ≤ v → o.length = t.length → (∀ p ∈ o, 0 ≤ p ∧ p < v) → ∀ p ∈ annL v o t l, 0 ≤ p ∧ p < v + l.length := by
  induction l with
  | nil =>
    intro v o t hv hl ho p hp
    have := ho p (by simpa [annL] using hp)
    simpa using this
  | cons w r ih =>
    intro v o t hv hl ho p hp
    simp only [annL] at hp
    have := ih (v + 1) (ann v t w o) w (by omega) (ann_length _ _ _ _) (ann_bound v 0 t w o hl ho (by omega)) p hp
    simp only [List.length_cons]
    omega
/-- The lines that hunks put in. -/
def sumN : List Hk → Nat
  | [] => 0
  | h :: r => h.f2.length + sumN r
theorem ann_count (v : Int) (i : Nat) (x y : List ByteArray) : ∀ (o : List Int), o.length = x.length → (∀ p ∈ o, p ≠ v) → (ann v x y o).count v = sumN (hs i x y) := by
  fun_induction hs i x y with
  | case1 i x y h ih =>
    intro o hl ho
    have hr := run_length x y
    rw [ann_run, List.count_append, List.count_replicate_self, ih _ (by simp only [List.length_drop, hl]) (fun p hp => ho p (List.mem_of_mem_drop hp))]
    rfl
  | case2 i a x b y h ih =>
    intro o hl ho
    have e : a = b := by
      rw [run] at h
      split at h
      · assumption
      · split at h <;> simp at h
    cases o with
    | nil => simp at hl
    | cons q o =>
      rw [ann, if_pos e]
      simp only [List.headD_cons, List.drop_succ_cons, List.drop_zero]
      rw [List.count_cons_of_ne (ho q (by simp)), ih o (by simpa using hl) (fun p hp => ho p (by simp [hp]))]
  | case3 i x y h h2 =>
    intro o hl ho
    have e : x = [] ∧ y = [] := by
      cases x with
      | nil =>
        rw [run_nil] at h
        simp at h
        exact ⟨rfl, h⟩
      | cons a x =>
        cases y with
        | nil =>
          rw [run_nil2] at h
          simp at h
        | cons b y => exact (h2 a x b y h rfl rfl HEq.rfl).elim
    obtain ⟨rfl, rfl⟩ := e
    rw [ann]
    rfl
theorem sumN_le (i : Nat) (x y : List ByteArray) : sumN (hs i x y) ≤ y.length := by
  fun_induction hs i x y with
  | case1 i x y h ih =>
    have hr := run_length x y
    simp only [sumN, List.length_drop] at ih ⊢
    omega
  | case2 i a x b y h ih =>
    simp only [List.length_cons]
    omega
  | case3 i x y h h2 => simp [sumN]
end Go.Proofs.Ytidnkaopndmigaa.PL
