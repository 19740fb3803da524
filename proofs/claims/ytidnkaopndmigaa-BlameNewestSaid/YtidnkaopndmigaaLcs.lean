/- Longest common subsequences of lists: plain. -/
import Derived.Test.YtidnkaopndmigaaPL
namespace Go.Proofs.Ytidnkaopndmigaa.PL

def lcs {α : Type} [DecidableEq α] : List α → List α → Nat
  | [], _ => 0
  | _ :: _, [] => 0
  | a :: x, b :: y => if a = b then lcs x y + 1 else max (lcs x (b :: y)) (lcs (a :: x) y)
termination_by x y => x.length + y.length

section
variable {α : Type} [DecidableEq α]
theorem lcs_nil (y : List α) : lcs [] y = 0 := by unfold lcs; rfl
theorem lcs_nil2 (x : List α) : lcs x [] = 0 := by cases x <;> (unfold lcs; rfl)
theorem lcs_cons (a b : α) (x y : List α) : lcs (a :: x) (b :: y) = if a = b then lcs x y + 1 else max (lcs x (b :: y)) (lcs (a :: x) y) := by
  rw [lcs]
theorem lcs_le (x y : List α) : lcs x y ≤ x.length ∧ lcs x y ≤ y.length := by
  fun_induction lcs x y with
  | case1 y => simp
  | case2 a x => simp
  | case3 a x y ih =>
    simp only [List.length_cons]
    omega
  | case4 a x b y h ih1 ih2 =>
    simp only [List.length_cons] at ih1 ih2 ⊢
    omega
theorem lcs_self (x : List α) : lcs x x = x.length := by
  induction x with
  | nil => rw [lcs_nil]; rfl
  | cons a x ih => rw [lcs_cons, if_pos rfl, ih]; rfl
end
end Go.Proofs.Ytidnkaopndmigaa.PL
