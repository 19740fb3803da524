/- The walk along two texts that keeps a longest common subsequence, its runs of other lines, and what becomes of the origins: plain. -/
import Derived.Test.YtidnkaopndmigaaLcs
namespace Go.Proofs.Ytidnkaopndmigaa.PL

section
variable {α : Type} [DecidableEq α]
/-- What becomes of the origins. -/
def ann (v : Int) : List α → List α → List Int → List Int
  | [], [], _ => []
  | [], _ :: y, o => v :: ann v [] y o
  | _ :: x, [], o => ann v x [] (o.drop 1)
  | a :: x, b :: y, o => if a = b then o.headD 0 :: ann v x y (o.drop 1) else if lcs x (b :: y) ≥ lcs (a :: x) y then ann v x (b :: y) (o.drop 1) else v :: ann v (a :: x) y o
termination_by x y => x.length + y.length
/-- The run of other lines at the beginning. -/
def run : List α → List α → List α × List α
  | [], [] => ([], [])
  | [], b :: y => ((run [] y).1, b :: (run [] y).2)
  | a :: x, [] => (a :: (run x []).1, (run x []).2)
  | a :: x, b :: y => if a = b then ([], []) else if lcs x (b :: y) ≥ lcs (a :: x) y then (a :: (run x (b :: y)).1, (run x (b :: y)).2) else ((run (a :: x) y).1, b :: (run (a :: x) y).2)
termination_by x y => x.length + y.length

theorem run_nil (y : List α) : run [] y = ([], y) := by
  induction y with
  | nil => rw [run]
  | cons b y ih => rw [run, ih]
theorem run_nil2 (x : List α) : run x [] = (x, []) := by
  induction x with
  | nil => rw [run]
  | cons a x ih => rw [run, ih]
theorem run_same (a : α) (x y : List α) : run (a :: x) (a :: y) = ([], []) := by rw [run, if_pos rfl]
/-- The run lies at the beginning of both. -/
theorem run_pre (x y : List α) : x = (run x y).1 ++ x.drop (run x y).1.length ∧ y = (run x y).2 ++ y.drop (run x y).2.length := by
  fun_induction run x y with
  | case1 => simp
  | case2 b y ih => simpa using ih
  | case3 a x ih => simpa using ih
  | case4 a x y => simp
  | case5 a x b y h h2 ih => simpa using ih
  | case6 a x b y h h2 ih => simpa using ih
theorem run_length (x y : List α) : (run x y).1.length ≤ x.length ∧ (run x y).2.length ≤ y.length := by
  have h := run_pre x y
  have h1 := congrArg List.length h.1
  have h2 := congrArg List.length h.2
  simp only [List.length_append, List.length_drop] at h1 h2
  omega
/-- Behind the run: nothing, or the same line. -/
theorem run_end (x y : List α) : (x.drop (run x y).1.length = [] ∧ y.drop (run x y).2.length = []) ∨ ∃ a x' y', x.drop (run x y).1.length = a :: x' ∧ y.drop (run x y).2.length = a :: y' := by
  fun_induction run x y with
  | case1 => simp
  | case2 b y ih => simpa using ih
  | case3 a x ih => simpa using ih
  | case4 x a y => exact Or.inr ⟨a, x, y, rfl, rfl⟩
  | case5 a x b y h h2 ih => simpa using ih
  | case6 a x b y h h2 ih => simpa using ih
/-- The origins behind the run. -/
theorem ann_run (v : Int) (x y : List α) (o : List Int) : ann v x y o = List.replicate (run x y).2.length v ++ ann v (x.drop (run x y).1.length) (y.drop (run x y).2.length) (o.drop (run x y).1.length) := by
  fun_induction run x y generalizing o with
  | case1 => simp
  | case2 b y ih => 
    rw [ann, ih]
    simp [List.replicate_succ]
  | case3 a x ih =>
    rw [ann, ih]
    simp
  | case4 a x y => simp
  | case5 a x b y h h2 ih =>
    rw [ann, if_neg h, if_pos h2, ih]
    simp
  | case6 a x b y h h2 ih =>
    rw [ann, if_neg h, if_neg h2, ih]
    simp [List.replicate_succ]
/-- As many origins as lines. -/
theorem ann_length (v : Int) (x y : List α) (o : List Int) : (ann v x y o).length = y.length := by
  fun_induction ann v x y o with
  | case1 o => rfl
  | case2 b y o ih => simp [ih]
  | case3 a x o ih => simpa using ih
  | case4 x a y o ih => simpa using ih
  | case5 a x b y o h h2 ih => simpa using ih
  | case6 a x b y o h h2 ih => simp [ih]
/-- The number of lines that are kept. -/
def kept : List α → List α → Nat
  | [], _ => 0
  | _ :: _, [] => 0
  | a :: x, b :: y => if a = b then kept x y + 1 else if lcs x (b :: y) ≥ lcs (a :: x) y then kept x (b :: y) else kept (a :: x) y
termination_by x y => x.length + y.length
end
end Go.Proofs.Ytidnkaopndmigaa.PL
