/- Texts of ours, put together: PA, PB, PC, PD, PE, PF. -/
import Derived.Test.YtidnkaopndmigaaK4
section
set_option linter.unusedSimpArgs false
set_option linter.unusedVariables false
/- What the functions compute, said shortly: lines. -/
namespace Go.Proofs.Ytidnkaopndmigaa.F
open Go Go.Proofs.Ytidnkaopndmigaa.V

def nl (s : ByteArray) : Bool := decide (0 ≤ Go.Lib.indexByte s.data.toList 10)
def vfrom : List ByteArray → Int → Int × Int × Unit
  | [], _ => (0, 0, ())
  | s :: r, i => if s.size > 80 then (2, i, ()) else if nl s = true then (5, i, ()) else vfrom r (i + 1)
def vF (l : List ByteArray) : Int × Int × Unit := if l.length > 120 then (2, -1, ()) else vfrom l 0

theorem ContainsRune_nl (s : ByteArray) : strings_ContainsRune_32 (s, 10, ()) = some (nl s, ()) := by
  unfold strings_ContainsRune_32
  simp [nl]

theorem lines_Validate_eq (l : List ByteArray) : lines_Validate_28 (l, ()) = some (vF l, ()) := by
  unfold lines_Validate_28 vF
  by_cases hl : l.length > 120
  · have : ((l.length : Int) > 120) := by omega
    simp [hl, this]
  · have h1 : ¬ ((l.length : Int) > 120) := by omega
    simp only [h1, hl, decide_false, Bool.false_eq_true, if_false]
    refine (loop_val (fun s => ∃ i : Nat, s.1 = (i : Int) ∧ i ≤ l.length) (fun s => l.length - s.1.toNat) (fun s => (vfrom (l.drop s.1.toNat) s.1, ())) ?_ (s := (0, ())) ⟨0, rfl, by omega⟩)
    rintro ⟨_, _⟩ ⟨i, rfl, hi⟩
    by_cases hlt : i < l.length
    · have h2 : ((i : Int) < (l.length : Int)) := by omega
      have hd : l.drop i = l[i] :: l.drop (i + 1) := List.drop_eq_getElem_cons hlt
      simp only [h2, decide_true, if_true, atC_val (List.getElem?_eq_getElem hlt), ContainsRune_nl, Option.bind_some, Int.toNat_natCast, hd, vfrom]
      by_cases h3 : l[i].size > 80
      · have h3' : (80 : Int) < (l[i].size : Int) := by omega
        right; simp [h3, h3']
      · have h3' : ¬ (80 : Int) < (l[i].size : Int) := by omega
        by_cases h4 : nl l[i] = true
        · right; simp [h3, h3', h4, ContainsRune_nl]
        · left
          refine ⟨((i + 1 : Nat), ()), ?_, ⟨i + 1, rfl, hlt⟩, ?_, by simp; omega⟩
          · simp [h3', h4, ContainsRune_nl, wrap_i64 (n := (i : Int) + 1) (by omega) (by omega)]
          · simp [h3, h4]
    · have h2 : ¬ ((i : Int) < (l.length : Int)) := by omega
      right
      simp only [h2, decide_false, Bool.false_eq_true, if_false, Int.toNat_natCast, List.drop_eq_nil_of_le (show l.length ≤ i from by omega), vfrom]
      rfl

abbrev Hunk := Int × List ByteArray × List ByteArray × Unit
abbrev Patch := List Hunk × Unit
abbrev Fault := Int × Int × Unit
def code (l : List ByteArray) : Int := (vF l).1
theorem lines_Code_eq (l : List ByteArray) : lines_Code_17 (l, ()) = some (code l, ()) := by
  unfold lines_Code_17
  simp [lines_Validate_eq, code]
theorem code_len {l : List ByteArray} (h : code l = 0) : l.length ≤ 120 := by
  unfold code vF at h
  split at h
  · cases h
  · omega
theorem End_eq (h : Hunk) (h0 : 0 ≤ h.1) (h1 : h.1 ≤ 4000000000000000000) (h2 : h.2.1.length ≤ 4000000000000000000) : textpatch_End_26 (h, ()) = some (h.1 + h.2.1.length, ()) := by
  unfold textpatch_End_26
  simp only []
  rw [wrap_i64 (by omega) (by omega)]
end Go.Proofs.Ytidnkaopndmigaa.F
end
section
set_option linter.unusedSimpArgs false
set_option linter.unusedVariables false
/- The walk along two texts that keeps a longest common subsequence, its runs of other lines, and what becomes of the origins. -/
namespace Go.Proofs.Ytidnkaopndmigaa.F
open Go Go.Proofs.Ytidnkaopndmigaa.V

theorem lcs_comm (x y : List ByteArray) : lcs x y = lcs y x := by
  fun_induction lcs x y with
  | case1 y => rw [lcs_nil2]
  | case2 a x => rw [lcs_nil]
  | case3 a x y ih => rw [lcs_cons, if_pos rfl, ih]
  | case4 a x b y h ih1 ih2 =>
    rw [lcs_cons, if_neg (fun e => h e.symm), ih1, ih2]
    omega
theorem lcs_self (x : List ByteArray) : lcs x x = x.length := by
  induction x with
  | nil => rw [lcs_nil]; rfl
  | cons a x ih => rw [lcs_cons, if_pos rfl, ih]; rfl
/-- As long as both: equal. -/
theorem lcs_full (x y : List ByteArray) (h1 : lcs x y = x.length) (h2 : lcs x y = y.length) : x = y := by
  induction x generalizing y with
  | nil =>
    rw [lcs_nil] at h2
    cases y with
    | nil => rfl
    | cons b y => simp at h2
  | cons a x ih =>
    cases y with
    | nil =>
      rw [lcs_nil2] at h1
      simp at h1
    | cons b y =>
      rw [lcs_cons] at h1 h2
      by_cases h : a = b
      · rw [if_pos h] at h1 h2
        simp only [List.length_cons, Nat.add_right_cancel_iff] at h1 h2
        rw [h, ih y h1 h2]
      · rw [if_neg h] at h1 h2
        have i1 := lcs_le x (b :: y)
        have i2 := lcs_le (a :: x) y
        simp only [List.length_cons] at h1 h2 i1 i2
        omega

/-- Kept (0), taken away (1), put in (2). -/
def walk : List ByteArray → List ByteArray → List (Int × ByteArray)
  | [], [] => []
  | [], b :: y => (2, b) :: walk [] y
  | a :: x, [] => (1, a) :: walk x []
  | a :: x, b :: y => if a = b then (0, a) :: walk x y else if lcs x (b :: y) ≥ lcs (a :: x) y then (1, a) :: walk x (b :: y) else (2, b) :: walk (a :: x) y
termination_by x y => x.length + y.length
/-- What becomes of the origins. -/
def ann (v : Int) : List ByteArray → List ByteArray → List Int → List Int
  | [], [], _ => []
  | [], _ :: y, o => v :: ann v [] y o
  | _ :: x, [], o => ann v x [] (o.drop 1)
  | a :: x, b :: y, o => if a = b then o.headD 0 :: ann v x y (o.drop 1) else if lcs x (b :: y) ≥ lcs (a :: x) y then ann v x (b :: y) (o.drop 1) else v :: ann v (a :: x) y o
termination_by x y => x.length + y.length
/-- The run of other lines at the beginning. -/
def run : List ByteArray → List ByteArray → List ByteArray × List ByteArray
  | [], [] => ([], [])
  | [], b :: y => ((run [] y).1, b :: (run [] y).2)
  | a :: x, [] => (a :: (run x []).1, (run x []).2)
  | a :: x, b :: y => if a = b then ([], []) else if lcs x (b :: y) ≥ lcs (a :: x) y then (a :: (run x (b :: y)).1, (run x (b :: y)).2) else ((run (a :: x) y).1, b :: (run (a :: x) y).2)
termination_by x y => x.length + y.length

theorem run_nil (y : List ByteArray) : run [] y = ([], y) := by
  induction y with
  | nil => rw [run]
  | cons b y ih => rw [run, ih]
theorem run_nil2 (x : List ByteArray) : run x [] = (x, []) := by
  induction x with
  | nil => rw [run]
  | cons a x ih => rw [run, ih]
theorem run_same (a : ByteArray) (x y : List ByteArray) : run (a :: x) (a :: y) = ([], []) := by rw [run, if_pos rfl]
/-- The run lies at the beginning of both. -/
theorem run_pre (x y : List ByteArray) : x = (run x y).1 ++ x.drop (run x y).1.length ∧ y = (run x y).2 ++ y.drop (run x y).2.length := by
  fun_induction run x y with
  | case1 => simp
  | case2 b y ih => simpa using ih
  | case3 a x ih => simpa using ih
  | case4 a x y => simp
  | case5 a x b y h h2 ih => simpa using ih
  | case6 a x b y h h2 ih => simpa using ih
theorem run_length (x y : List ByteArray) : (run x y).1.length ≤ x.length ∧ (run x y).2.length ≤ y.length := by
  have h := run_pre x y
  have h1 := congrArg List.length h.1
  have h2 := congrArg List.length h.2
  simp only [List.length_append, List.length_drop] at h1 h2
  omega
/-- Behind the run: nothing, or the same line. -/
theorem run_end (x y : List ByteArray) : (x.drop (run x y).1.length = [] ∧ y.drop (run x y).2.length = []) ∨ ∃ a x' y', x.drop (run x y).1.length = a :: x' ∧ y.drop (run x y).2.length = a :: y' := by
  fun_induction run x y with
  | case1 => simp
  | case2 b y ih => simpa using ih
  | case3 a x ih => simpa using ih
  | case4 x a y => exact Or.inr ⟨a, x, y, rfl, rfl⟩
  | case5 a x b y h h2 ih => simpa using ih
  | case6 a x b y h h2 ih => simpa using ih
/-- The origins behind the run. -/
theorem ann_run (v : Int) (x y : List ByteArray) (o : List Int) : ann v x y o = List.replicate (run x y).2.length v ++ ann v (x.drop (run x y).1.length) (y.drop (run x y).2.length) (o.drop (run x y).1.length) := by
  fun_induction run x y generalizing o with
  | case1 => simp
  | case2 b y ih => 
    rw [ann, ih]
    simp [List.replicate_succ]
  | case3 a x ih =>
    rw [ann, ih]
    simp
  | case4 a x y => simp
  | case5 a x b y h h2 ih =>
    rw [ann, if_neg h, if_pos h2, ih]
    simp
  | case6 a x b y h h2 ih =>
    rw [ann, if_neg h, if_neg h2, ih]
    simp [List.replicate_succ]
/-- As many origins as lines. -/
theorem ann_length (v : Int) (x y : List ByteArray) (o : List Int) : (ann v x y o).length = y.length := by
  fun_induction ann v x y o with
  | case1 o => rfl
  | case2 b y o ih => simp [ih]
  | case3 a x o ih => simpa using ih
  | case4 x a y o ih => simpa using ih
  | case5 a x b y o h h2 ih => simpa using ih
  | case6 a x b y o h h2 ih => simp [ih]
/-- The same text: the same origins. -/
theorem ann_self (v : Int) (x : List ByteArray) (o : List Int) (h : o.length = x.length) : ann v x x o = o := by
  induction x generalizing o with
  | nil =>
    rw [ann]
    exact (List.length_eq_zero_iff.1 h).symm
  | cons a x ih =>
    cases o with
    | nil => simp at h
    | cons p o =>
      rw [ann, if_pos rfl]
      simp only [List.headD_cons, List.drop_succ_cons, List.drop_zero]
      rw [ih o (by simpa using h)]

/-- The number of lines that are kept. -/
def kept : List ByteArray → List ByteArray → Nat
  | [], _ => 0
  | _ :: _, [] => 0
  | a :: x, b :: y => if a = b then kept x y + 1 else if lcs x (b :: y) ≥ lcs (a :: x) y then kept x (b :: y) else kept (a :: x) y
termination_by x y => x.length + y.length
theorem kept_lcs (x y : List ByteArray) : kept x y = lcs x y := by
  fun_induction kept x y with
  | case1 y => rw [lcs_nil]
  | case2 a x => rw [lcs_nil2]
  | case3 a x y ih => rw [lcs_cons, if_pos rfl, ih]
  | case4 a x b y h h2 ih =>
    rw [lcs_cons, if_neg h, ih]
    omega
  | case5 a x b y h h2 ih =>
    rw [lcs_cons, if_neg h, ih]
    omega
/-- What holds of the origins and their lines before holds behind, of kept lines; what is new has the new origin. -/
theorem ann_rel (v : Int) (P : ByteArray → Int → Prop) (Q : ByteArray → Int → Prop) (x y : List ByteArray) (o : List Int) (hl : o.length = x.length)
    (hP : ∀ p ∈ x.zip o, P p.1 p.2) (hk : ∀ a j, a ∈ y → P a j → Q a j) (hn : ∀ b ∈ y, Q b v) : ∀ p ∈ y.zip (ann v x y o), Q p.1 p.2 := by
  fun_induction ann v x y o with
  | case1 o => simp
  | case2 b y o ih =>
    simp only [List.zip_cons_cons, List.mem_cons, forall_eq_or_imp]
    exact ⟨hn b (by simp), ih hl hP (fun a j ha => hk a j (by simp [ha])) (fun b hb => hn b (by simp [hb]))⟩
  | case3 a x o ih => simp
  | case4 x a y o ih =>
    cases o with
    | nil => simp at hl
    | cons p o =>
      simp only [List.headD_cons, List.drop_succ_cons, List.drop_zero, List.zip_cons_cons, List.mem_cons, forall_eq_or_imp] at ih hP ⊢
      exact ⟨hk a p (by simp) hP.1, ih (by simpa using hl) hP.2 (fun a j ha => hk a j (by simp [ha])) (fun b hb => hn b (by simp [hb]))⟩
  | case5 a x b y o h h2 ih =>
    cases o with
    | nil => simp at hl
    | cons p o =>
      simp only [List.drop_succ_cons, List.drop_zero, List.zip_cons_cons, List.mem_cons, forall_eq_or_imp] at ih hP ⊢
      refine ih (by simpa using hl) hP.2 (fun a j ha => hk a j (by simpa using ha)) ⟨hn b (by simp), fun a ha => hn a (by simp [ha])⟩
  | case6 a x b y o h h2 ih =>
    simp only [List.zip_cons_cons, List.mem_cons, forall_eq_or_imp]
    exact ⟨hn b (by simp), ih hl hP (fun a j ha => hk a j (by simp [ha])) (fun b hb => hn b (by simp [hb]))⟩

end Go.Proofs.Ytidnkaopndmigaa.F
end
section
set_option linter.unusedSimpArgs false
set_option linter.unusedVariables false
/- What diff.Script computes: the hunks of the walk. -/
namespace Go.Proofs.Ytidnkaopndmigaa.F
open Go Go.Proofs.Ytidnkaopndmigaa.V

/-- The hunks, from line i on. -/
def hs (i : Nat) (x y : List ByteArray) : List Hunk :=
  if h : 0 < (run x y).1.length + (run x y).2.length then
    (((i : Int), (run x y).1, (run x y).2, ()) : Hunk) :: hs (i + (run x y).1.length) (x.drop (run x y).1.length) (y.drop (run x y).2.length)
  else match x, y with
    | _ :: x, _ :: y => hs (i + 1) x y
    | _, _ => []
termination_by x.length + y.length
decreasing_by
  · have := run_length x y
    simp only [List.length_drop]
    omega
  · simp only [List.length_cons]
    omega
theorem hs_run {i : Nat} {x y : List ByteArray} (h : 0 < (run x y).1.length + (run x y).2.length) :
    hs i x y = (((i : Int), (run x y).1, (run x y).2, ()) : Hunk) :: hs (i + (run x y).1.length) (x.drop (run x y).1.length) (y.drop (run x y).2.length) := by
  rw [hs, dif_pos h]
theorem hs_same (i : Nat) (a : ByteArray) (x y : List ByteArray) : hs i (a :: x) (a :: y) = hs (i + 1) x y := by
  rw [hs, dif_neg (by rw [run_same]; simp)]
theorem hs_nil (i : Nat) : hs i [] [] = [] := by
  rw [hs, dif_neg (by rw [run_nil]; simp)]

def T (x y : List ByteArray) (p q : Nat) : Int := (lcs (x.drop p) (y.drop q) : Int)
theorem tab_row {n m : Nat} {f : Nat → Nat → Int} {i : Nat} (h : i ≤ n) : (tab n m f)[i]? = some ((List.range (m + 1)).map fun j => f i j) := by
  unfold tab; rw [List.getElem?_map, List.getElem?_range (by omega)]; rfl
theorem tab_cell {m : Nat} {g : Nat → Int} {j : Nat} (h : j ≤ m) : ((List.range (m + 1)).map fun j => g j)[j]? = some (g j) := by
  rw [List.getElem?_map, List.getElem?_range (by omega)]; rfl
abbrev So := Int × Int × List Hunk × Unit
def finS (i j : Nat) (acc : List Hunk) (at_ : Int) (old new : List ByteArray) : So :=
  if 0 < old.length + new.length then ((i : Int), (j : Int), acc ++ [(at_, old, new, ())], ()) else (((i + 1 : Nat) : Int), ((j + 1 : Nat) : Int), acc, ())
theorem measure_eq (x y : List ByteArray) (hx : x.length ≤ 120) (hy : y.length ≤ 120) : diff_measure_30 (x, y, ()) = some (tab x.length y.length (T x y), ()) := by
  unfold diff_measure_30
  simp only
  rw [if_pos (by omega)]
  rfl
theorem exit_eq (p q : Nat) (acc : List Hunk) (at_ : Int) (old new : List ByteArray) (hb : old.length + new.length ≤ 240) (ha : acc.length ≤ 240) (hp : p ≤ 120) (hq : q ≤ 120) :
    (if decide (IntKind.wrap .i64 ((old.length : Int) + (new.length : Int)) > 0) = true then Option.bind (diff_Script_2_24 ((at_, old, new, ()), acc, ())) (fun r23 => some (.inl ((p : Int), (q : Int), r23.1, ()))) else Option.bind (diff_Script_1_23 ((p : Int), ())) fun _ => some (.inl (IntKind.wrap .i64 ((p : Int) + 1), IntKind.wrap .i64 ((q : Int) + 1), acc, ()))) = some (.inl (finS p q acc at_ old new) : So ⊕ (List Hunk × Unit)) := by
  rw [wrap_i64 (n := (old.length : Int) + (new.length : Int)) (by omega) (by omega)]
  unfold finS
  by_cases h : 0 < old.length + new.length
  · have h' : ((old.length : Int) + (new.length : Int)) > 0 := by omega
    rw [if_pos h]
    simp only [h', decide_true, if_true]
    unfold diff_Script_2_24
    simp only [List.length_cons, List.length_nil]
    rw [if_pos ⟨by omega, by simp [maxLen]; omega⟩]
    rfl
  · have h' : ¬ ((old.length : Int) + (new.length : Int)) > 0 := by omega
    rw [if_neg h, wrap_i64 (n := (p : Int) + 1) (by omega) (by omega), wrap_i64 (n := (q : Int) + 1) (by omega) (by omega)]
    simp only [h', decide_false, Bool.false_eq_true, if_false]
    rfl
set_option maxHeartbeats 4000000 in
theorem steps_eq (x y : List ByteArray) (hx : x.length ≤ 120) (hy : y.length ≤ 120) : diff_steps_22_23_24 (x, y, [], ()) = some (hs 0 x y, ()) := by
  unfold diff_steps_22_23_24
  simp only [measure_eq x y hx hy, Option.bind_some]
  refine loop_val (fun s => ∃ i j : Nat, s.1 = (i : Int) ∧ s.2.1 = (j : Int) ∧ i ≤ x.length ∧ j ≤ y.length ∧ s.2.2.1.length ≤ i + j) (fun s => x.length - s.1.toNat + (y.length - s.2.1.toNat)) (fun s => (s.2.2.1 ++ hs s.1.toNat (x.drop s.1.toNat) (y.drop s.2.1.toNat), ())) ?_ (s := (0, 0, [], ())) ⟨0, 0, rfl, rfl, by omega, by omega, by simp⟩
  rintro ⟨a1, a2, acc, ⟨⟩⟩ ⟨i, j, g1, g2, hi, hj, hacc⟩
  simp only at g1 g2 hacc
  subst g1 g2
  simp only [Int.toNat_natCast]
  by_cases hend : i = x.length ∧ j = y.length
  · right
    obtain ⟨rfl, rfl⟩ := hend
    simp only [Int.lt_irrefl, decide_false, Bool.false_eq_true, if_false, List.drop_length, hs_nil, List.append_nil]
    rfl
  · -- a run
    have hl := run_length (x.drop i) (y.drop j)
    simp only [List.length_drop] at hl
    have hinner : ∀ (step : So × Int × List ByteArray × List ByteArray × Unit → Unit), True := fun _ => trivial
    have hval : ∀ (o : Option (So ⊕ (List Hunk × Unit))), o = some (.inl (finS (i + (run (x.drop i) (y.drop j)).1.length) (j + (run (x.drop i) (y.drop j)).2.length) acc (i : Int) (run (x.drop i) (y.drop j)).1 (run (x.drop i) (y.drop j)).2)) →
        (∃ s' : So, o = some (.inl s') ∧ (∃ i j : Nat, s'.1 = (i : Int) ∧ s'.2.1 = (j : Int) ∧ i ≤ x.length ∧ j ≤ y.length ∧ s'.2.2.1.length ≤ i + j) ∧ ((s'.2.2.1 ++ hs s'.1.toNat (x.drop s'.1.toNat) (y.drop s'.2.1.toNat), ()) : List Hunk × Unit) = (acc ++ hs i (x.drop i) (y.drop j), ()) ∧ x.length - s'.1.toNat + (y.length - s'.2.1.toNat) < x.length - i + (y.length - j)) ∨ o = some (.inr (acc ++ hs i (x.drop i) (y.drop j), ())) := by
      intro o ho
      subst ho
      left
      refine ⟨_, rfl, ?_⟩
      unfold finS
      by_cases hr : 0 < (run (x.drop i) (y.drop j)).1.length + (run (x.drop i) (y.drop j)).2.length
      · rw [if_pos hr]
        refine ⟨⟨_, _, rfl, rfl, by omega, by omega, by simp; omega⟩, ?_, by simp only [Int.toNat_natCast]; omega⟩
        simp only [Int.toNat_natCast]
        rw [hs_run hr, List.drop_drop, List.drop_drop, List.append_assoc]
        rfl
      · rw [if_neg hr]
        have e1 : (run (x.drop i) (y.drop j)).1 = [] := List.length_eq_zero_iff.1 (by omega)
        have e2 : (run (x.drop i) (y.drop j)).2 = [] := List.length_eq_zero_iff.1 (by omega)
        rcases run_end (x.drop i) (y.drop j) with ⟨h1, h2⟩ | ⟨a, x', y', h1, h2⟩
        · rw [e1] at h1
          rw [e2] at h2
          simp only [List.length_nil, List.drop_zero, List.drop_eq_nil_iff] at h1 h2
          omega
        · rw [e1] at h1
          rw [e2] at h2
          simp only [List.length_nil, List.drop_zero] at h1 h2
          have hil : i < x.length := by
            have := congrArg List.length h1
            simp only [List.length_drop, List.length_cons] at this
            omega
          have hjl : j < y.length := by
            have := congrArg List.length h2
            simp only [List.length_drop, List.length_cons] at this
            omega
          have hx' : x' = x.drop (i + 1) := by
            rw [List.drop_eq_getElem_cons hil] at h1
            exact ((List.cons.inj h1).2).symm
          have hy' : y' = y.drop (j + 1) := by
            rw [List.drop_eq_getElem_cons hjl] at h2
            exact ((List.cons.inj h2).2).symm
          simp only [e1, e2, List.length_nil, Nat.add_zero]
          refine ⟨⟨i + 1, j + 1, rfl, rfl, by omega, by omega, by show acc.length ≤ _; omega⟩, ?_, by simp only [Int.toNat_natCast]; omega⟩
          simp only [Int.toNat_natCast]
          rw [h1, h2, hs_same, hx', hy']
    have hflag : (if decide ((i : Int) < (x.length : Int)) = true then true else decide ((j : Int) < (y.length : Int))) = true := by
      by_cases h : i < x.length
      · simp [h]
      · have : j < y.length := by omega
        simp [this]
    apply hval
    clear hval
    suffices key : loopC _ ((i : Int), (j : Int), acc, (i : Int), [], [], ()) = _ from by
      by_cases h : i < x.length
      · have h' : ((i : Int) < (x.length : Int)) := by omega
        simp only [h', decide_true, if_true]
        exact key
      · have h' : ¬ ((i : Int) < (x.length : Int)) := by omega
        have h2 : ((j : Int) < (y.length : Int)) := by omega
        simp only [h', h2, decide_true, decide_false, Bool.false_eq_true, if_false, if_true]
        exact key
    have hv0 := loop_val (step := ?step) (fun (s : Int × Int × List Hunk × Int × List ByteArray × List ByteArray × Unit) => ∃ p q : Nat, s.1 = (p : Int) ∧ s.2.1 = (q : Int) ∧ p ≤ x.length ∧ q ≤ y.length ∧ s.2.2.1 = acc ∧ s.2.2.2.1 = (i : Int) ∧ s.2.2.2.2.1.length + s.2.2.2.2.2.1.length + (x.length - p) + (y.length - q) ≤ 240 ∧ (p < x.length ∨ q < y.length ∨ 0 < s.2.2.2.2.1.length + s.2.2.2.2.2.1.length)) (fun s => x.length - s.1.toNat + (y.length - s.2.1.toNat))
      (fun s => (Sum.inl (finS (s.1.toNat + (run (x.drop s.1.toNat) (y.drop s.2.1.toNat)).1.length) (s.2.1.toNat + (run (x.drop s.1.toNat) (y.drop s.2.1.toNat)).2.length) acc (i : Int) (s.2.2.2.2.1 ++ (run (x.drop s.1.toNat) (y.drop s.2.1.toNat)).1) (s.2.2.2.2.2.1 ++ (run (x.drop s.1.toNat) (y.drop s.2.1.toNat)).2)) : So ⊕ (List Hunk × Unit))) ?_ (s := ((i : Int), (j : Int), acc, (i : Int), [], [], ())) ⟨i, j, rfl, rfl, hi, hj, rfl, rfl, by simp; omega, by omega⟩
    · simp only [Int.toNat_natCast, List.nil_append] at hv0
      exact hv0
    rintro ⟨b1, b2, b3, b4, old, new, ⟨⟩⟩ ⟨p, q, e1, e2, hp, hq, e3, e4, hb, hlive⟩
    simp only at e1 e2 e3 e4 hb hlive
    subst e1 e2 e3 e4
    simp only [Int.toNat_natCast]
    have hexit := exit_eq p q b3 (i : Int) old new (by omega) (by omega) (by omega) (by omega)
    have ho16 : (old.length + (0 + 1)) * 16 ≤ 140737488355328 ∧ old.length + (0 + 1) ≤ maxLen := ⟨by omega, by simp [maxLen]; omega⟩
    have hn16 : (new.length + (0 + 1)) * 16 ≤ 140737488355328 ∧ new.length + (0 + 1) ≤ maxLen := ⟨by omega, by simp [maxLen]; omega⟩
    have hwp := wrap_i64 (n := (p : Int) + 1) (by omega) (by omega)
    have hwq := wrap_i64 (n := (q : Int) + 1) (by omega) (by omega)
    have hlast : ∀ {a b c d : Nat} {u v : List ByteArray}, a = c → b = d → finS a b b3 (i : Int) u v = finS c d b3 (i : Int) u v := fun h1 h2 => by rw [h1, h2]
    by_cases hpx : p < x.length
    · have c1 : ((p : Int) < (x.length : Int)) := by omega
      have c2 : ((p : Int) == (x.length : Int)) = false := by simp; omega
      have ex : x.drop p = x[p] :: x.drop (p + 1) := List.drop_eq_getElem_cons hpx
      have hgx : x[p]? = some x[p] := List.getElem?_eq_getElem hpx
      generalize x[p] = a at ex hgx
      by_cases hqy : q < y.length
      · have c3 : ((q : Int) == (y.length : Int)) = false := by simp; omega
        have ey : y.drop q = y[q] :: y.drop (q + 1) := List.drop_eq_getElem_cons hqy
        have hgy : y[q]? = some y[q] := List.getElem?_eq_getElem hqy
        generalize y[q] = b at ey hgy
        by_cases heq : a = b
        · right
          subst heq
          rw [ex, ey, run_same]
          simp only [c1, c2, c3, decide_true, if_true, Bool.false_eq_true, if_false, atC_val hgx, atC_val hgy, BEq.rfl, Bool.not_true, List.length_nil, Nat.add_zero, List.append_nil]
          exact congrArg (Option.map Sum.inr) hexit
        · left
          have hne : (!(ByteArray.toList a == ByteArray.toList b)) = true := by simp [str_eq, heq]
          have r1 := tab_row (n := x.length) (m := y.length) (f := T x y) (i := p + 1) (by omega)
          have r0 := tab_row (n := x.length) (m := y.length) (f := T x y) (i := p) (by omega)
          have k1 := tab_cell (m := y.length) (g := T x y (p + 1)) (j := q) (by omega)
          have k0 := tab_cell (m := y.length) (g := T x y p) (j := q + 1) (by omega)
          have hwp' : IntKind.wrap .i64 ((p : Int) + 1) = ((p + 1 : Nat) : Int) := by rw [hwp]; rfl
          have hwq' : IntKind.wrap .i64 ((q : Int) + 1) = ((q + 1 : Nat) : Int) := by rw [hwq]; rfl
          by_cases hge : T x y (p + 1) q ≥ T x y p (q + 1)
          · refine ⟨(((p + 1 : Nat) : Int), (q : Int), b3, (i : Int), old ++ [a], new, ()), ?_, ⟨p + 1, q, rfl, rfl, by omega, by omega, rfl, rfl, by simp; omega, by simp; omega⟩, ?_, by simp; omega⟩
            · simp only [c1, c2, c3, decide_true, if_true, Bool.false_eq_true, if_false, atC_val hgx, atC_val hgy, hne, hwp', hwq', atC_val r1, atC_val r0, atC_val k1, atC_val k0, hge, List.length_cons, List.length_nil]
              rw [if_pos ho16]
            · have er : run (x.drop p) (y.drop q) = (a :: (run (x.drop (p + 1)) (y.drop q)).1, (run (x.drop (p + 1)) (y.drop q)).2) := by
                have hge' : lcs (x.drop (p + 1)) (y.drop q) ≥ lcs (x.drop p) (y.drop (q + 1)) := by unfold T at hge; omega
                rw [ex, ey] at hge' ⊢
                rw [run, if_neg heq, if_pos hge']
              simp only [Int.toNat_natCast, er, List.length_cons, List.append_assoc, List.singleton_append]
              congr 1
              exact hlast (by omega) rfl
          · refine ⟨((p : Int), ((q + 1 : Nat) : Int), b3, (i : Int), old, new ++ [b], ()), ?_, ⟨p, q + 1, rfl, rfl, by omega, by omega, rfl, rfl, by simp; omega, by simp; omega⟩, ?_, by simp; omega⟩
            · simp only [c1, c2, c3, decide_true, decide_false, if_true, Bool.false_eq_true, if_false, atC_val hgx, atC_val hgy, hne, hwp', hwq', atC_val r1, atC_val r0, atC_val k1, atC_val k0, hge, List.length_cons, List.length_nil]
              rw [if_pos hn16]
            · have er : run (x.drop p) (y.drop q) = ((run (x.drop p) (y.drop (q + 1))).1, b :: (run (x.drop p) (y.drop (q + 1))).2) := by
                have hge' : ¬ lcs (x.drop (p + 1)) (y.drop q) ≥ lcs (x.drop p) (y.drop (q + 1)) := by unfold T at hge; omega
                rw [ex, ey] at hge' ⊢
                rw [run, if_neg heq, if_neg hge']
              simp only [Int.toNat_natCast, er, List.length_cons, List.append_assoc, List.singleton_append]
              congr 1
              exact hlast rfl (by omega)
      · left
        obtain rfl : q = y.length := by omega
        have c3 : ((y.length : Int) == (y.length : Int)) = true := by simp
        refine ⟨(((p + 1 : Nat) : Int), (y.length : Int), b3, (i : Int), old ++ [a], new, ()), ?_, ⟨p + 1, y.length, rfl, rfl, by omega, by omega, rfl, rfl, by simp; omega, by simp; omega⟩, ?_, by simp; omega⟩
        · simp only [c1, c2, c3, decide_true, if_true, Bool.false_eq_true, if_false, atC_val hgx, hwp, List.length_cons, List.length_nil]
          rw [if_pos ho16]
          rfl
        · rw [List.drop_length, ex]
          simp only [Int.toNat_natCast, List.drop_length, run_nil2, List.length_cons, List.append_assoc, List.singleton_append, List.length_nil]
          congr 1
          exact hlast (by omega) rfl
    · obtain rfl : p = x.length := by omega
      have c1 : ¬ ((x.length : Int) < (x.length : Int)) := by omega
      have c2 : ((x.length : Int) == (x.length : Int)) = true := by simp
      by_cases hqy : q < y.length
      · left
        have c3 : ((q : Int) == (y.length : Int)) = false := by simp; omega
        have c4 : ((q : Int) < (y.length : Int)) := by omega
        have ey : y.drop q = y[q] :: y.drop (q + 1) := List.drop_eq_getElem_cons hqy
        have hgy : y[q]? = some y[q] := List.getElem?_eq_getElem hqy
        generalize y[q] = b at ey hgy
        refine ⟨((x.length : Int), ((q + 1 : Nat) : Int), b3, (i : Int), old, new ++ [b], ()), ?_, ⟨x.length, q + 1, rfl, rfl, by omega, by omega, rfl, rfl, by simp; omega, by simp; omega⟩, ?_, by simp; omega⟩
        · simp only [c1, c2, c3, c4, decide_true, decide_false, if_true, Bool.false_eq_true, if_false, atC_val hgy, hwq, List.length_cons, List.length_nil]
          rw [if_pos hn16]
          rfl
        · rw [List.drop_length, ey]
          simp only [Int.toNat_natCast, List.drop_length, run_nil, List.length_cons, List.append_assoc, List.singleton_append, List.length_nil]
          congr 1
          exact hlast rfl (by omega)
      · right
        obtain rfl : q = y.length := by omega
        have c4 : ¬ ((y.length : Int) < (y.length : Int)) := by omega
        simp only [c1, c4, decide_false, Bool.false_eq_true, if_false, List.drop_length, run_nil, List.length_nil, Nat.add_zero, List.append_nil]
        exact congrArg (Option.map Sum.inr) hexit
end Go.Proofs.Ytidnkaopndmigaa.F
end
section
set_option linter.unusedSimpArgs false
set_option linter.unusedVariables false
/- What blame.Follow and blame.Annotate compute. -/
namespace Go.Proofs.Ytidnkaopndmigaa.F
open Go Go.Proofs.Ytidnkaopndmigaa.V

theorem vfrom_zero : ∀ {l : List ByteArray} {i : Int}, (vfrom l i).1 = 0 → vfrom l i = (0, 0, ())
  | [], _, _ => rfl
  | s :: r, i, h => by
    unfold vfrom at h ⊢
    split at h
    · cases h
    · rename_i h1
      rw [if_neg h1]
      split at h
      · cases h
      · rename_i h2
        rw [if_neg h2]; exact vfrom_zero h
theorem code_vF {l : List ByteArray} (h : code l = 0) : vF l = (0, 0, ()) := by
  unfold code vF at h
  unfold vF
  split at h
  · cases h
  · rename_i h1
    rw [if_neg h1]; exact vfrom_zero h
theorem code_nil : code [] = 0 := rfl
theorem Two_ok {x y : List ByteArray} (hx : code x = 0) (hy : code y = 0) : lines_Two_21 (x, y, ()) = some ((0, 0, ()), ()) := by
  unfold lines_Two_21
  simp [lines_Validate_eq, code_vF hx, lines_Code_eq, hy]
theorem Script_eq {x y : List ByteArray} (hx : code x = 0) (hy : code y = 0) : diff_Script_15 (x, y, ()) = some ((hs 0 x y, ()), (0, 0, ()), ()) := by
  unfold diff_Script_15
  simp only [Two_ok hx hy, Option.bind_some, BEq.rfl, Bool.and_self, Bool.not_true, Bool.false_eq_true, if_false, steps_eq x y (code_len hx) (code_len hy)]
/-- The origins behind hunks. -/
def fol (v : Int) (o : List Int) : Nat → List Hunk → List Int
  | a, [] => o.drop a
  | a, h :: r => (o.take h.1.toNat).drop a ++ (List.replicate h.2.2.1.length v ++ fol v o (h.1.toNat + h.2.1.length) r)
/-- Hunks that lie in order within n lines, from line a on. -/
def okH (n : Nat) : Nat → List Hunk → Prop
  | a, [] => a ≤ n
  | a, h :: r => ∃ q : Nat, h.1 = (q : Int) ∧ a ≤ q ∧ q + h.2.1.length ≤ n ∧ h.2.2.1.length ≤ 1000 ∧ okH n (q + h.2.1.length) r

theorem hs_ok (n i : Nat) (x y : List ByteArray) (hx : i + x.length = n) (hy : y.length ≤ 1000) : ∀ a, a ≤ i → okH n a (hs i x y) := by
  fun_induction hs i x y with
  | case1 i x y h ih =>
    intro a ha
    have hl := run_length x y
    refine ⟨i, rfl, ha, by dsimp only; omega, by dsimp only; omega, ih (by simp only [List.length_drop]; omega) (by simp only [List.length_drop]; omega) _ (Nat.le_refl _)⟩
  | case2 i a x b y h ih =>
    intro c hc
    exact ih (by simp only [List.length_cons] at hx; omega) (by simp only [List.length_cons] at hy; omega) c (by omega)
  | case3 i x y h =>
    intro a ha
    unfold okH
    omega

theorem fol_hs (v : Int) (o : List Int) (i : Nat) (x y : List ByteArray) (ho : o.length = i + x.length) : ∀ a, a ≤ i → fol v o a (hs i x y) = (o.take i).drop a ++ ann v x y (o.drop i) := by
  fun_induction hs i x y with
  | case1 i x y h ih =>
    intro a ha
    have hl := run_length x y
    unfold fol
    simp only [Int.toNat_natCast]
    rw [ih (by simp only [List.length_drop]; omega) _ (Nat.le_refl _), ann_run v x y (o.drop i), List.drop_drop]
    rw [show (o.take (i + (run x y).1.length)).drop (i + (run x y).1.length) = [] from List.drop_eq_nil_of_le (by simp; omega), List.nil_append]
  | case2 i a x b y h ih =>
    intro c hc
    have hl := run_length (a :: x) (b :: y)
    rw [ih (by simp only [List.length_cons] at ho; omega) c (by omega)]
    have e : a = b := by
      rw [run] at h
      split at h
      · assumption
      · split at h <;> simp at h
    rw [ann, if_pos e, List.drop_drop]
    have hi : i < o.length := by simp only [List.length_cons] at ho; omega
    rw [List.drop_eq_getElem_cons hi]
    simp only [List.headD_cons]
    rw [List.take_add_one, List.getElem?_eq_getElem hi]
    simp only [Option.toList_some]
    rw [List.drop_append_of_le_length (by simp; omega), List.append_assoc]
    rfl
  | case3 i x y h h2 =>
    intro a ha
    have hl := run_length x y
    have e : x = [] ∧ y = [] := by
      cases x with
      | nil =>
        rw [run_nil] at h
        simp at h
        exact ⟨rfl, h⟩
      | cons a x =>
        cases y with
        | nil =>
          rw [run_nil2] at h
          simp at h
        | cons b y => exact (h2 a x b y h rfl rfl HEq.rfl).elim
    obtain ⟨rfl, rfl⟩ := e
    unfold fol
    rw [ann, List.append_nil]
    rw [List.take_of_length_le (by simp at ho; omega)]

theorem okH_le {n : Nat} : ∀ {a : Nat} {l : List Hunk}, okH n a l → a ≤ n := by
  intro a l h
  induction l generalizing a with
  | nil => exact h
  | cons x r ih =>
    obtain ⟨q, _, h1, _, _, h2⟩ := h
    have := ih h2
    omega
theorem fol_len {v : Int} {o : List Int} : ∀ {a : Nat} {l : List Hunk}, okH o.length a l → (fol v o a l).length ≤ o.length - a + 1000 * l.length := by
  intro a l h
  induction l generalizing a with
  | nil => unfold fol; simp
  | cons x r ih =>
    obtain ⟨q, e, h1, h2, h3, h4⟩ := h
    have := ih h4
    have := okH_le h4
    unfold fol
    rw [e]
    simp only [Int.toNat_natCast, List.length_append, List.length_drop, List.length_take, List.length_replicate, List.length_cons]
    omega

theorem hs_len (i : Nat) (x y : List ByteArray) : (hs i x y).length ≤ x.length + y.length := by
  fun_induction hs i x y with
  | case1 i x y h ih =>
    have := run_length x y
    simp only [List.length_cons, List.length_drop] at ih ⊢
    omega
  | case2 i a x b y h ih =>
    simp only [List.length_cons]
    omega
  | case3 i x y h => simp

theorem Follow_eq (o : List Int) (p : List Hunk) (v : Int) (ho : o.length ≤ 1000000) (hp : p.length ≤ 1000000) (hok : okH o.length 0 p) : blame_Follow_18 (o, (p, ()), v, ()) = some (fol v o 0 p, ()) := by
  unfold blame_Follow_18
  simp only []
  refine loop_val (fun s => ∃ k a : Nat, s.2.2.1 = (k : Int) ∧ s.2.1 = (a : Int) ∧ k ≤ p.length ∧ okH o.length a (p.drop k) ∧ s.1.length ≤ 2000000 * k) (fun s => p.length - s.2.2.1.toNat) (fun s => (s.1 ++ fol v o s.2.1.toNat (p.drop s.2.2.1.toNat), ())) ?_ (s := ([], 0, 0, ())) ⟨0, 0, rfl, rfl, by omega, hok, by simp⟩
  rintro ⟨out, a2, a3, ⟨⟩⟩ ⟨k, a, g1, g2, hk, hh, hout⟩
  simp only at g1 g2 hout
  subst g1 g2
  simp only [Int.toNat_natCast]
  by_cases hlt : k < p.length
  · left
    have q2 : ((k : Int) < (p.length : Int)) := by omega
    have hg : p[k]? = some p[k] := List.getElem?_eq_getElem hlt
    have hd : p.drop k = p[k] :: p.drop (k + 1) := List.drop_eq_getElem_cons hlt
    generalize p[k] = h at hg hd
    rw [hd] at hh
    obtain ⟨q, hq1, hq2, hq3, hq4, hq5⟩ := hh
    obtain ⟨at_, old, new, ⟨⟩⟩ := h
    simp only at hq1 hq3 hq4 hq5
    subst hq1
    have hdr : (o.take q).drop a = (o.take q).drop a := rfl
    have hdl : ((o.take q).drop a).length ≤ 1000000 := by simp; omega
    refine ⟨(out ++ (o.take q).drop a ++ List.replicate new.length v, ((q + old.length : Nat) : Int), ((k + 1 : Nat) : Int), ()), ?_, ⟨k + 1, q + old.length, rfl, rfl, hlt, hq5, by simp only [List.length_append, List.length_replicate]; omega⟩, ?_, by simp only [Int.toNat_natCast]; omega⟩
    · have c1 : (0 : Int) ≤ (a : Int) ∧ (a : Int) ≤ (q : Int) ∧ (q : Int) ≤ (o.length : Int) := by omega
      simp only [q2, decide_true, if_true, atC_val hg, c1, and_self, Int.toNat_natCast]
      rw [if_pos ⟨by omega, by simp [maxLen]; omega⟩]
      generalize hob : out ++ (o.take q).drop a = ob
      have hobl : ob.length ≤ 2000000 * k + 1000000 := by rw [← hob, List.length_append]; omega
      refine loop_val (fun s => s.2.1 = (k : Int) ∧ s.2.2.1 = (new.length : Int) ∧ s.2.2.2.2 = ((q : Int), old, new, ()) ∧ ∃ t : Nat, s.2.2.2.1 = (t : Int) ∧ t ≤ new.length ∧ s.1 = ob ++ List.replicate t v) (fun s => new.length - s.2.2.2.1.toNat) (fun _ => Sum.inl (ob ++ List.replicate new.length v, ((q + old.length : Nat) : Int), ((k + 1 : Nat) : Int), ())) ?_ (s := (ob, (k : Int), (new.length : Int), 0, (q : Int), old, new, ())) ⟨rfl, rfl, rfl, 0, rfl, by omega, by simp⟩
      rintro ⟨b1, b2, b3, b4, b5⟩ ⟨e1, e2, e3, t, e4, ht, e5⟩
      simp only at e1 e2 e3 e4 e5
      subst e1 e2 e3 e4 e5
      by_cases htl : t < new.length
      · left
        have q3 : ((t : Int) < (new.length : Int)) := by omega
        refine ⟨(ob ++ List.replicate (t + 1) v, (k : Int), (new.length : Int), ((t + 1 : Nat) : Int), (q : Int), old, new, ()), ?_, ⟨rfl, rfl, rfl, t + 1, rfl, htl, rfl⟩, rfl, by simp; omega⟩
        simp only [q3, decide_true, if_true, List.length_append, List.length_replicate, List.length_cons, List.length_nil]
        rw [if_pos ⟨by omega, by simp [maxLen]; omega⟩, wrap_i64 (n := (t : Int) + 1) (by omega) (by omega), List.append_assoc, ← List.replicate_succ']
        rfl
      · right
        have q3 : ¬ ((t : Int) < (new.length : Int)) := by omega
        have et : t = new.length := by omega
        rw [et]
        have hE : textpatch_End_26 (((q : Int), old, new, ()), ()) = some ((q : Int) + old.length, ()) := End_eq _ (by simp) (by simp; omega) (by simp; omega)
        simp only [Int.lt_irrefl, decide_false, Bool.false_eq_true, if_false, hE, Option.bind_some, wrap_i64 (n := (k : Int) + 1) (by omega) (by omega)]
        simp
    · simp only [Int.toNat_natCast]
      rw [hd, fol]
      simp only [Int.toNat_natCast, List.append_assoc]
  · right
    have q2 : ¬ ((k : Int) < (p.length : Int)) := by omega
    rw [List.drop_eq_nil_of_le (show p.length ≤ k by omega)] at hh ⊢
    have hal : a ≤ o.length := hh
    have c1 : (0 : Int) ≤ (a : Int) ∧ (a : Int) ≤ (o.length : Int) ∧ (o.length : Int) ≤ (o.length : Int) := by omega
    simp only [q2, decide_false, Bool.false_eq_true, if_false, c1, and_self, if_true, Int.toNat_natCast, List.take_length, fol]
    rw [if_pos ⟨by simp; omega, by simp [maxLen]; omega⟩]
    rfl
/-- The origins along versions; the first has the number v. -/
def annL : Int → List Int → List ByteArray → List (List ByteArray) → List Int
  | _, o, _, [] => o
  | v, o, t, w :: r => annL (v + 1) (ann v t w o) w r
theorem annL_append (r s : List (List ByteArray)) : ∀ (v : Int) (o : List Int) (t : List ByteArray), annL v o t (r ++ s) = annL (v + r.length) (annL v o t r) (r.getLastD t) s := by
  induction r with
  | nil =>
    intro v o t
    simp [annL]
  | cons w r ih =>
    intro v o t
    simp only [List.cons_append, annL, List.length_cons]
    rw [ih, show (v + 1 + (r.length : Int)) = v + ((r.length + 1 : Nat) : Int) by omega, List.getLastD_cons]
theorem annL_length (l : List (List ByteArray)) : ∀ (v : Int) (o : List Int) (t : List ByteArray), o.length = t.length → (annL v o t l).length = (l.getLastD t).length := by
  induction l with
  | nil =>
    intro v o t h
    simpa [annL] using h
  | cons w r ih =>
    intro v o t h
    simp only [annL]
    rw [ih _ _ _ (ann_length _ _ _ _), List.getLastD_cons]
def AnnQ (l : List (List ByteArray)) (r : List Int × Fault × Unit) : Prop :=
  (r.2.1 = (0, 0, ()) ∧ l.length ≤ 16 ∧ (∀ w ∈ l, code w = 0) ∧ r.1 = annL 0 [] [] l) ∨ (¬ r.2.1.1 = 0 ∧ ¬ (l.length ≤ 16 ∧ ∀ w ∈ l, code w = 0))
theorem Annotate_eq (l : List (List ByteArray)) : ∃ r, blame_Annotate_8 (l, ()) = some r ∧ AnnQ l r := by
  unfold blame_Annotate_8
  by_cases hl : l.length > 16
  · have : ((l.length : Int) > 16) := by omega
    simp only [this, decide_true, if_true]
    exact ⟨_, rfl, .inr ⟨by simp, fun h => by omega⟩⟩
  · have h1 : ¬ ((l.length : Int) > 16) := by omega
    simp only [h1, decide_false, Bool.false_eq_true, if_false]
    refine loop_inv (fun s => ∃ k : Nat, s.1 = (k : Int) ∧ k ≤ l.length ∧ ∀ w ∈ l.take k, code w = 0) (fun s => l.length - s.1.toNat) (AnnQ l) ?_ (s := (0, ())) ⟨0, rfl, by omega, by simp⟩
    rintro ⟨a1, ⟨⟩⟩ ⟨k, g1, hk, hall⟩
    simp only at g1
    subst g1
    by_cases hlt : k < l.length
    · have q2 : ((k : Int) < (l.length : Int)) := by omega
      have hg : l[k]? = some l[k] := List.getElem?_eq_getElem hlt
      have hmem := List.getElem_mem hlt
      have ht : l.take (k + 1) = l.take k ++ [l[k]] := by rw [List.take_add_one, hg]; rfl
      generalize l[k] = w at hg hmem ht
      simp only [q2, decide_true, if_true, atC_val hg, lines_Code_eq, Option.bind_some]
      by_cases hw : code w = 0
      · left
        refine ⟨(((k + 1 : Nat) : Int), ()), ?_, ⟨k + 1, rfl, hlt, fun u hu => ?_⟩, by simp; omega⟩
        · simp only [hw, bne_self_eq_false, Bool.false_eq_true, if_false, wrap_i64 (n := (k : Int) + 1) (by omega) (by omega)]; rfl
        · rw [ht, List.mem_append, List.mem_singleton] at hu
          rcases hu with hu | rfl
          · exact hall u hu
          · exact hw
      · right
        have hw' : (code w != 0) = true := by simpa using hw
        simp only [hw', if_true]
        exact ⟨_, rfl, .inr ⟨hw, fun h => hw (h.2 w hmem)⟩⟩
    · right
      have q2 : ¬ ((k : Int) < (l.length : Int)) := by omega
      rw [List.take_of_length_le (by omega)] at hall
      simp only [q2, decide_false, Bool.false_eq_true, if_false]
      suffices key : ∃ r : List Int × Fault × Unit, _ = some r ∧ AnnQ l r from by
        obtain ⟨r, h, hq⟩ := key
        refine ⟨r, ?_, hq⟩
        exact congrArg (Option.map (Sum.inr (α := Int × Unit))) h
      suffices key : _ = some ((annL 0 [] [] l, (0, 0, ()), ()) : List Int × Fault × Unit) from ⟨_, key, .inl ⟨rfl, by omega, hall, rfl⟩⟩
      refine loop_val (fun (s : List Int × List ByteArray × Int × Unit) => ∃ k : Nat, s.2.2.1 = (k : Int) ∧ k ≤ l.length ∧ code s.2.1 = 0 ∧ s.1.length = s.2.1.length) (fun s => l.length - s.2.2.1.toNat) (fun s => ((annL s.2.2.1 s.1 s.2.1 (l.drop s.2.2.1.toNat), (0, 0, ()), ()) : List Int × Fault × Unit)) ?_ (s := ([], [], 0, ())) ⟨0, rfl, by omega, code_nil, rfl⟩
      rintro ⟨o, t, a3, ⟨⟩⟩ ⟨k, g1, hk, ht, ho⟩
      simp only at g1 ht ho
      subst g1
      simp only [Int.toNat_natCast]
      by_cases hlt : k < l.length
      · left
        have q2 : ((k : Int) < (l.length : Int)) := by omega
        have hg : l[k]? = some l[k] := List.getElem?_eq_getElem hlt
        have hd : l.drop k = l[k] :: l.drop (k + 1) := List.drop_eq_getElem_cons hlt
        have hw := hall _ (List.getElem_mem hlt)
        generalize l[k] = w at hg hd hw
        have lt := code_len ht
        have lw := code_len hw
        have hF : blame_Follow_18 (o, (hs 0 t w, ()), (k : Int), ()) = some (ann (k : Int) t w o, ()) := by
          rw [Follow_eq o (hs 0 t w) (k : Int) (by omega) (by have := hs_len 0 t w; omega) (hs_ok o.length 0 t w (by omega) (by omega) 0 (by omega)), fol_hs (k : Int) o 0 t w (by omega) 0 (by omega)]
          simp
        refine ⟨(ann (k : Int) t w o, w, ((k + 1 : Nat) : Int), ()), ?_, ⟨k + 1, rfl, hlt, hw, ann_length _ _ _ _⟩, ?_, by simp; omega⟩
        · simp only [q2, decide_true, if_true, atC_val hg, Script_eq ht hw, Option.bind_some, hF, wrap_i64 (n := (k : Int) + 1) (by omega) (by omega)]
          rfl
        · simp only [Int.toNat_natCast]
          rw [hd, annL]
          rfl
      · right
        have q2 : ¬ ((k : Int) < (l.length : Int)) := by omega
        simp only [q2, decide_false, Bool.false_eq_true, if_false, List.drop_eq_nil_of_le (show l.length ≤ k by omega), annL]
        rfl
theorem Ints_refl (l : List Int) (hl : l.length ≤ 1000000) : changeforgeequal_Ints_12 (l, l, ()) = some (true, ()) := by
  unfold changeforgeequal_Ints_12
  simp only [bne_self_eq_false, Bool.false_eq_true, if_false]
  refine (loop_val (fun s => ∃ i : Nat, s.1 = (i : Int) ∧ i ≤ l.length) (fun s => l.length - s.1.toNat) (fun s => (true, ())) ?_ (s := (0, ())) ⟨0, rfl, by omega⟩)
  rintro ⟨a1, ⟨⟩⟩ ⟨i, h1, hi⟩
  simp only at h1
  subst h1
  by_cases hlt : i < l.length
  · left
    have h2 : ((i : Int) < (l.length : Int)) := by omega
    have hg : l[i]? = some l[i] := List.getElem?_eq_getElem hlt
    refine ⟨((i + 1 : Nat), ()), ?_, ⟨i + 1, rfl, hlt⟩, rfl, by simp; omega⟩
    simp only [h2, decide_true, if_true, atC_val hg, bne_self_eq_false, Bool.false_eq_true, if_false, wrap_i64 (n := (i : Int) + 1) (by omega) (by omega)]
    rfl
  · right
    have h2 : ¬ ((i : Int) < (l.length : Int)) := by omega
    simp only [h2, decide_false, Bool.false_eq_true, if_false]
    rfl
theorem added_eq : changeforgelaw2_added_10 () = some (true, ()) := by
  obtain ⟨r, hA, hq⟩ := Annotate_eq [[(⟨#[97]⟩ : ByteArray)], [(⟨#[98]⟩ : ByteArray), (⟨#[97]⟩ : ByteArray)]]
  have hne : ¬ ((⟨#[97]⟩ : ByteArray) = ⟨#[98]⟩) := fun h => by injection h with h; cases h
  have hc : ∀ w ∈ [[(⟨#[97]⟩ : ByteArray)], [(⟨#[98]⟩ : ByteArray), (⟨#[97]⟩ : ByteArray)]], code w = 0 := by
    intro w hw
    simp only [List.mem_cons, List.not_mem_nil, or_false] at hw
    rcases hw with rfl | rfl <;> decide +kernel
  have hr : r = ([1, 0], (0, 0, ()), ()) := by
    rcases hq with ⟨h1, _, _, h2⟩ | ⟨_, h⟩
    · obtain ⟨a, b, ⟨⟩⟩ := r
      simp only at h1 h2
      rw [h1, h2]
      simp only [annL]
      rw [ann, ann, ann, if_neg hne, if_neg (by rw [lcs_nil, lcs_cons, if_pos rfl]; omega), ann, if_pos rfl, ann]
      rfl
    · exact absurd ⟨by simp, hc⟩ h
  subst hr
  unfold changeforgelaw2_added_10
  simp only [hA, Option.bind_some, BEq.rfl, if_true, Ints_refl [1, 0] (by simp)]
theorem Unchanged_eq (l : List (List ByteArray)) : changeforgelaw2_BlameUnchanged_5 (l, ()) = some (true, ()) := by
  obtain ⟨r, hA, hq⟩ := Annotate_eq l
  unfold changeforgelaw2_BlameUnchanged_5
  simp only [hA, Option.bind_some, added_eq]
  rcases hq with ⟨h1, hl, hc, h2⟩ | ⟨h1, _⟩
  · obtain ⟨o, f, ⟨⟩⟩ := r
    simp only at h1 h2
    subst h1 h2
    simp only [bne_self_eq_false, Bool.false_eq_true, if_false]
    by_cases h0 : l.length = 0
    · simp [h0]
    · have e0 : ((l.length : Int) == 0) = false := by rw [beq_eq_false_iff_ne]; omega
      by_cases h16 : l.length ≥ 16
      · have : ((l.length : Int) ≥ 16) := by omega
        simp only [e0, this, decide_true, Bool.false_eq_true, if_false, if_true]
      · have h16' : ¬ ((l.length : Int) ≥ 16) := by omega
        obtain ⟨w, hw⟩ : ∃ w, l[l.length - 1]? = some w := ⟨_, List.getElem?_eq_getElem (by omega)⟩
        have hwc := hc w (List.mem_of_getElem? hw)
        have hix : IntKind.wrap .i64 ((l.length : Int) - 1) = ((l.length - 1 : Nat) : Int) := by rw [wrap_i64 (by omega) (by omega)]; omega
        obtain ⟨r', hA', hq'⟩ := Annotate_eq (l ++ [w])
        have hr' : r' = (annL 0 [] [] l, (0, 0, ()), ()) := by
          rcases hq' with ⟨g1, _, _, g2⟩ | ⟨_, h⟩
          · obtain ⟨o', f', ⟨⟩⟩ := r'
            simp only at g1 g2
            subst g1 g2
            have hlast : l.getLastD [] = w := by
              rw [List.getLastD_eq_getLast?, List.getLast?_eq_getElem?, hw]; rfl
            rw [annL_append, hlast]
            simp only [annL]
            rw [ann_self]
            rw [annL_length l 0 [] [] rfl, hlast]
          · exact absurd ⟨by simp; omega, fun u hu => (List.mem_append.1 hu).elim (hc u) fun hu => by rw [List.mem_singleton.1 hu]; exact hwc⟩ h
        subst hr'
        have hlen : (annL 0 [] [] l).length ≤ 1000000 := by
          rw [annL_length l 0 [] [] rfl]
          have : l.getLastD [] = w := by rw [List.getLastD_eq_getLast?, List.getLast?_eq_getElem?, hw]; rfl
          rw [this]; have := code_len hwc; omega
        simp only [e0, h16', decide_false, Bool.false_eq_true, if_false, List.length_nil, Nat.zero_add, List.nil_append, hix, atC_val hw, List.length_cons]
        have m1 : l.length * 24 ≤ 140737488355328 ∧ l.length ≤ maxLen := ⟨by omega, by simp [maxLen]; omega⟩
        have m2 : (l.length + (0 + 1)) * 24 ≤ 140737488355328 ∧ l.length + (0 + 1) ≤ maxLen := ⟨by omega, by simp [maxLen]; omega⟩
        rw [if_pos m1, if_pos m2]
        simp only [hA', Option.bind_some, BEq.rfl, if_true, Ints_refl _ hlen]
  · have : (r.2.1.1 != 0) = true := by simpa using h1
    simp only [this, if_true]
end Go.Proofs.Ytidnkaopndmigaa.F
end
section
set_option linter.unusedSimpArgs false
set_option linter.unusedVariables false
/- What applying a patch computes. -/
namespace Go.Proofs.Ytidnkaopndmigaa.F
open Go Go.Proofs.Ytidnkaopndmigaa.V

def hc (h : Hunk) (k : Int) : Int :=
  if h.1 < 0 ∨ h.1 > 120 then 3 else if code h.2.1 ≠ 0 then code h.2.1 else if code h.2.2.1 ≠ 0 then code h.2.2.1 else
  if (h.2.1 = [] ∧ h.2.2.1 = []) ∨ h.1 < k then 5 else if h.1 + h.2.1.length > 120 then 3 else 0
theorem len0 {α : Type} (l : List α) : ((l.length : Int) == 0) = l.isEmpty := by cases l <;> simp; omega
theorem hunkCode_eq (h : Hunk) (k : Int) : textpatch_hunkCode_31 (h, k, ()) = some (hc h k, ()) := by
  obtain ⟨at_, old, new, ⟨⟩⟩ := h
  unfold textpatch_hunkCode_31 hc
  simp only [lines_Code_eq, Option.bind_some]
  by_cases h1 : at_ < 0
  · simp [h1]
  · by_cases h2 : at_ > 120
    · simp [h1, h2]
    · have h2' : ¬ 120 < at_ := by omega
      by_cases h3 : code old = 0
      · by_cases h4 : code new = 0
        · have hl := code_len h3
          have hE : textpatch_End_26 ((at_, old, new, ()), ()) = some (at_ + old.length, ()) := End_eq _ (by omega) (by omega) (by simp; omega)
          have e1 := len0 old
          have e2 := len0 new
          simp only [h1, h2', h3, h4, e1, e2, hE, decide_false, Bool.false_eq_true, if_false, gt_iff_lt, bne_self_eq_false, or_self, ne_eq, not_true_eq_false, Option.bind_some]
          cases old with
          | nil =>
            cases new with
            | nil => simp
            | cons a l =>
              by_cases h5 : at_ < k
              · simp [h5]
              · have h6 : ¬ (120 : Int) < at_ + (([] : List ByteArray).length : Nat) := by simp; omega
                simp only [List.isEmpty_nil, List.isEmpty_cons, if_true, Bool.false_eq_true, if_false, h5, decide_false, h6, reduceCtorEq, and_false, or_self]
          | cons a l =>
            by_cases h5 : at_ < k
            · simp [h5]
            · by_cases h6 : (120 : Int) < at_ + ((a :: l).length : Nat)
              · simp only [List.isEmpty_cons, Bool.false_eq_true, if_false, h5, decide_false, h6, decide_true, if_true, reduceCtorEq, false_and, or_self]
              · simp only [List.isEmpty_cons, Bool.false_eq_true, if_false, h5, decide_false, h6, reduceCtorEq, false_and, or_self]
        · simp [h1, h2', h3, h4]
      · simp [h1, h2', h3]
theorem hc_zero {h : Hunk} {k : Int} (e : hc h k = 0) : 0 ≤ h.1 ∧ k ≤ h.1 ∧ h.1 + h.2.1.length ≤ 120 ∧ h.2.1.length ≤ 120 ∧ h.2.2.1.length ≤ 120 ∧ code h.2.1 = 0 ∧ code h.2.2.1 = 0 ∧ (h.2.1 ≠ [] ∨ h.2.2.1 ≠ []) := by
  unfold hc at e
  split at e
  · cases e
  · split at e
    · rename_i h1; exact absurd e h1
    · split at e
      · rename_i h1; exact absurd e h1
      · rename_i h1 h2 h3
        have h2 : code h.2.1 = 0 := by simpa using h2
        have h3 : code h.2.2.1 = 0 := by simpa using h3
        have l2 := code_len h2
        have l3 := code_len h3
        split at e
        · cases e
        · split at e
          · cases e
          · rename_i h4 h5
            refine ⟨by omega, by omega, by omega, l2, l3, h2, h3, ?_⟩
            by_cases hn : h.2.1 = []
            · exact .inr fun hn' => h4 (.inl ⟨hn, hn'⟩)
            · exact .inl hn
/-- The first hunk that is not as it should be. -/
def hfrom : List Hunk → Int → Int → Fault
  | [], _, _ => (0, 0, ())
  | h :: r, k, i => if hc h k ≠ 0 then (hc h k, i, ()) else hfrom r (h.1 + h.2.1.length + 1) (i + 1)
def pF (p : Patch) : Fault := if p.1.length > 130 then (2, -1, ()) else hfrom p.1 0 0
theorem textpatch_Validate_eq (p : Patch) : textpatch_Validate_25 (p, ()) = some (pF p, ()) := by
  obtain ⟨l, ⟨⟩⟩ := p
  unfold textpatch_Validate_25 pF
  by_cases hl : l.length > 130
  · have : (130 : Int) < (l.length : Int) := by omega
    simp [hl, this]
  · have h1 : ¬ (130 : Int) < (l.length : Int) := by omega
    simp only [gt_iff_lt, h1, show ¬ 130 < l.length from by omega, decide_false, Bool.false_eq_true, if_false]
    refine (loop_val (fun s => ∃ i : Nat, s.2.1 = (i : Int) ∧ i ≤ l.length) (fun s => l.length - s.2.1.toNat) (fun s => (hfrom (l.drop s.2.1.toNat) s.1 s.2.1, ())) ?_ (s := (0, 0, ())) ⟨0, rfl, by omega⟩)
    rintro ⟨k, _, _⟩ ⟨i, rfl, hi⟩
    by_cases hlt : i < l.length
    · have h2 : ((i : Int) < (l.length : Int)) := by omega
      have hd : l.drop i = l[i] :: l.drop (i + 1) := List.drop_eq_getElem_cons hlt
      generalize hx : l[i] = x at hd
      have hg : l[i]? = some x := by rw [List.getElem?_eq_getElem hlt, hx]
      obtain ⟨at_, old, new, ⟨⟩⟩ := x
      simp only [h2, decide_true, if_true, atC_val hg, hunkCode_eq, Option.bind_some, Int.toNat_natCast, hd, hfrom]
      by_cases h3 : hc (at_, old, new, ()) k = 0
      · left
        have hz := hc_zero h3
        simp only at hz
        have hE : textpatch_End_26 ((at_, old, new, ()), ()) = some (at_ + old.length, ()) := End_eq _ (by simp; omega) (by simp; omega) (by simp; omega)
        refine ⟨(at_ + old.length + 1, (i + 1 : Nat), ()), ?_, ⟨i + 1, rfl, hlt⟩, ?_, by simp; omega⟩
        · simp [h3, hE, wrap_i64 (n := (i : Int) + 1) (by omega) (by omega), wrap_i64 (n := at_ + old.length + 1) (by omega) (by omega)]
        · simp [h3]
      · right; simp [h3]
    · have h2 : ¬ ((i : Int) < (l.length : Int)) := by omega
      right
      simp only [h2, decide_false, Bool.false_eq_true, if_false, Int.toNat_natCast, List.drop_eq_nil_of_le (show l.length ≤ i from by omega), hfrom]
      rfl
/-- A patch within bounds. -/
def bdH (h : Hunk) : Prop := 0 ≤ h.1 ∧ h.1 ≤ 120 ∧ h.2.1.length ≤ 120 ∧ h.2.2.1.length ≤ 120
def bd (p : Patch) : Prop := p.1.length ≤ 130 ∧ ∀ h ∈ p.1, bdH h
theorem hfrom_bd : ∀ {l : List Hunk} {k i : Int}, hfrom l k i = (0, 0, ()) → ∀ h ∈ l, bdH h
  | [], _, _, _, h, hh => by cases hh
  | h :: r, k, i, e, h', hh => by
    simp only [hfrom] at e
    split at e
    · rename_i hne
      injection e with e1 e2
      exact absurd e1 hne
    · rename_i hz
      have hz : hc h k = 0 := by simpa using hz
      rcases List.mem_cons.1 hh with rfl | hh
      · have := hc_zero hz
        exact ⟨this.1, by omega, by omega, by omega⟩
      · exact hfrom_bd e h' hh
theorem pF_bd {p : Patch} (e : pF p = (0, 0, ())) : bd p := by
  unfold pF at e
  split at e
  · injection e with e; cases e
  · exact ⟨by omega, hfrom_bd e⟩
/-- Hunks in order, from a line on. -/
def Srt : Int → List Hunk → Prop
  | _, [] => True
  | k, h :: r => k ≤ h.1 ∧ Srt (h.1 + h.2.1.length + 1) r
theorem hfrom_srt : ∀ {l : List Hunk} {k i : Int}, hfrom l k i = (0, 0, ()) → Srt k l
  | [], _, _, _ => trivial
  | h :: r, k, i, e => by
    simp only [hfrom] at e
    split at e
    · rename_i hne; injection e with e1 e2; exact absurd e1 hne
    · rename_i hz
      have hz : hc h k = 0 := by simpa using hz
      exact ⟨(hc_zero hz).2.1, hfrom_srt e⟩
theorem pF_srt {p : Patch} (e : pF p = (0, 0, ())) : Srt 0 p.1 := by
  unfold pF at e
  split at e
  · injection e with e; cases e
  · exact hfrom_srt e
def okS (s : ByteArray) : Prop := s.size ≤ 80 ∧ nl s = false
theorem vfrom_iff : ∀ {l : List ByteArray} {i : Int}, (vfrom l i).1 = 0 ↔ ∀ s ∈ l, okS s
  | [], _ => by simp [vfrom]
  | s :: l, i => by
    simp only [vfrom, List.forall_mem_cons]
    by_cases h1 : s.size > 80
    · rw [if_pos h1]; simp [okS]; omega
    · rw [if_neg h1]
      by_cases h2 : nl s = true
      · rw [if_pos h2]; simp [okS, h2]
      · rw [if_neg h2, vfrom_iff]
        have : okS s := ⟨by omega, by simpa using h2⟩
        simp [this]
theorem code_iff {l : List ByteArray} : code l = 0 ↔ l.length ≤ 120 ∧ ∀ s ∈ l, okS s := by
  unfold code vF
  by_cases h : l.length > 120
  · rw [if_pos h]; simp; omega
  · rw [if_neg h, vfrom_iff]; simp [show l.length ≤ 120 from by omega]

/-- The rest of a text, from a line on, behind hunks. -/
def apL : List Hunk → Int → List ByteArray → Option (List ByteArray)
  | [], _, t => some t
  | h :: r, k, t => if (h.1 - k).toNat + h.2.1.length ≤ t.length ∧ (t.drop (h.1 - k).toNat).take h.2.1.length = h.2.1 then
      (apL r (h.1 + h.2.1.length) (t.drop ((h.1 - k).toNat + h.2.1.length))).map (t.take (h.1 - k).toNat ++ h.2.2.1 ++ ·) else none
def okHs (l : List Hunk) : Prop := ∀ h ∈ l, ∀ s ∈ h.2.2.1, okS s
theorem apL_ok : ∀ {l : List Hunk} {k : Int} {t u : List ByteArray}, apL l k t = some u → (∀ s ∈ t, okS s) → okHs l → ∀ s ∈ u, okS s
  | [], _, t, u, h, ht, _ => by injection h with h; subst h; exact ht
  | h :: r, k, t, u, e, ht, hl => by
    simp only [apL] at e
    split at e
    · rw [Option.map_eq_some_iff] at e
      obtain ⟨u', e1, rfl⟩ := e
      have := apL_ok e1 (fun s hs => ht s (List.mem_of_mem_drop hs)) fun x hx => hl x (by simp [hx])
      intro s hs
      simp only [List.mem_append] at hs
      rcases hs with (hs | hs) | hs
      · exact ht s (List.mem_of_mem_take hs)
      · exact hl h (by simp) s hs
      · exact this s hs
    · cases e
theorem hfrom_new : ∀ {l : List Hunk} {k i : Int}, hfrom l k i = (0, 0, ()) → okHs l
  | [], _, _, _, h, hh => by cases hh
  | h :: r, k, i, e, h', hh => by
    simp only [hfrom] at e
    split at e
    · rename_i hne; injection e with e1 e2; exact absurd e1 hne
    · rename_i hz
      have hz : hc h k = 0 := by simpa using hz
      rcases List.mem_cons.1 hh with rfl | hh
      · exact (code_iff.1 (hc_zero hz).2.2.2.2.2.2.1).2
      · exact hfrom_new e h' hh
theorem pF_new {p : Patch} (e : pF p = (0, 0, ())) : okHs p.1 := by
  unfold pF at e
  split at e
  · injection e with e; cases e
  · exact hfrom_new e
theorem Equal_eq (a b : List ByteArray) (ha : a.length ≤ 1000000) : slices_Equal___string_string__27 (a, b, ()) = some (decide (a = b), ()) := by
  unfold slices_Equal___string_string__27
  by_cases hl : a.length = b.length
  · have h0 : (((a.length : Int)) != (b.length : Int)) = false := by simp [hl]
    simp only [h0, Bool.false_eq_true, if_false]
    refine (loop_val (fun s => ∃ i : Nat, s.1 = (i : Int) ∧ i ≤ a.length) (fun s => a.length - s.1.toNat) (fun s => (decide (a.drop s.1.toNat = b.drop s.1.toNat), ())) ?_ (s := (0, ())) ⟨0, rfl, by omega⟩)
    rintro ⟨a1, ⟨⟩⟩ ⟨i, h1, hi⟩
    simp only at h1
    subst h1
    by_cases hlt : i < a.length
    · have h2 : ((i : Int) < (a.length : Int)) := by omega
      have hg : a[i]? = some a[i] := List.getElem?_eq_getElem hlt
      have hg' : b[i]? = some (b[i]'(by omega)) := List.getElem?_eq_getElem (by omega)
      have hd : a.drop i = a[i] :: a.drop (i + 1) := List.drop_eq_getElem_cons hlt
      have hd' : b.drop i = (b[i]'(by omega)) :: b.drop (i + 1) := List.drop_eq_getElem_cons (by omega)
      generalize a[i] = x at hg hd
      generalize b[i]'(by omega) = y at hg' hd'
      simp only [h2, decide_true, if_true, atC_val hg, atC_val hg', Int.toNat_natCast, hd, hd', str_eq]
      by_cases hxy : x = y
      · subst hxy
        left
        refine ⟨((i + 1 : Nat), ()), ?_, ⟨i + 1, rfl, hlt⟩, by simp, by simp; omega⟩
        simp only [decide_true, Bool.not_true, Bool.false_eq_true, if_false, wrap_i64 (n := (i : Int) + 1) (by omega) (by omega)]
        rfl
      · right
        simp [hxy]
    · right
      have h2 : ¬ ((i : Int) < (a.length : Int)) := by omega
      simp only [h2, decide_false, Bool.false_eq_true, if_false, Int.toNat_natCast, List.drop_eq_nil_of_le (show a.length ≤ i from by omega), List.drop_eq_nil_of_le (show b.length ≤ i from by omega)]
      rfl
  · have h0 : (((a.length : Int)) != (b.length : Int)) = true := by simp; omega
    have : ¬ a = b := fun e => hl (by rw [e])
    simp [h0, this]
def apQ (o : Option (List ByteArray)) (r : List ByteArray × Fault × Unit) : Prop := match o with
  | some u => if 120 < u.length then r = ([], (10, -1, ()), ()) else r = (u, (0, 0, ()), ())
  | none => r.2.1.1 = 19
theorem ApplyP_eq (p : Patch) (t : List ByteArray) (hp : pF p = (0, 0, ())) (ht : code t = 0) : ∃ r, textpatch_Apply_16 (p, t, ()) = some r ∧ apQ (apL p.1 0 t) r := by
  have hsrt := pF_srt hp
  obtain ⟨hl, hb⟩ := pF_bd hp
  obtain ⟨l, ⟨⟩⟩ := p
  simp only at hsrt hl hb
  obtain ⟨htl, _⟩ := code_iff.1 ht
  unfold textpatch_Apply_16
  have e : (((l, ()) : Patch).1, ()) = ((l, ()) : Patch) := rfl
  simp only [textpatch_Validate_eq, hp, lines_Code_eq, ht, Option.bind_some, BEq.rfl, Bool.and_self, Bool.not_true, Bool.false_eq_true, if_false, bne_self_eq_false]
  refine (loop_inv (fun s => ∃ i k : Nat, s.2.1 = (k : Int) ∧ s.2.2.1 = (i : Int) ∧ i ≤ l.length ∧ k ≤ t.length ∧ s.1.length ≤ 240 * i ∧ Srt k (l.drop i) ∧ apL l 0 t = (apL (l.drop i) k (t.drop k)).map (s.1 ++ ·)) (fun s => l.length - s.2.2.1.toNat) (apQ (apL l 0 t)) ?_ (s := ([], 0, 0, ())) ⟨0, 0, rfl, rfl, by omega, by omega, by simp, hsrt, ?_⟩)
  · rintro ⟨out, a2, a3, ⟨⟩⟩ ⟨i, k, h1, h2, hi, hk, ho, hs, he⟩
    simp only at h1 h2 ho he
    subst h1 h2
    by_cases hlt : i < l.length
    · have h2 : ((i : Int) < (l.length : Int)) := by omega
      have hg : l[i]? = some l[i] := List.getElem?_eq_getElem hlt
      have hd : l.drop i = l[i] :: l.drop (i + 1) := List.drop_eq_getElem_cons hlt
      have hbi := hb _ (List.getElem_mem hlt)
      generalize l[i] = x at hg hd hbi
      obtain ⟨at_, old, new, ⟨⟩⟩ := x
      obtain ⟨b1, b2, b3, b4⟩ := hbi
      simp only at b1 b2 b3 b4
      rw [hd] at hs he
      obtain ⟨hs1, hs2⟩ := hs
      simp only at hs1 hs2
      obtain ⟨A, rfl⟩ := Int.eq_ofNat_of_zero_le b1
      have hE : textpatch_End_26 (((A : Int), old, new, ()), ()) = some (((A + old.length : Nat) : Int), ()) := by rw [End_eq _ (by simp) (by simp; omega) (by simp; omega)]; simp
      simp only [apL] at he
      have hAk : ((A : Int) - (k : Int)).toNat = A - k := by omega
      rw [hAk] at he
      simp only [h2, decide_true, if_true, atC_val hg, hE, Option.bind_some]
      by_cases hend : ((A + old.length : Nat) : Int) > (t.length : Int)
      · right
        have hno : ¬ ((A - k) + old.length ≤ (t.drop k).length ∧ ((t.drop k).drop (A - k)).take old.length = old) := by rintro ⟨h, _⟩; simp at h; omega
        rw [if_neg hno] at he
        simp only [hend, decide_true, if_true]
        exact ⟨_, rfl, by rw [he]; rfl⟩
      · have hend' : A + old.length ≤ t.length := by omega
        have hc1 : (0 : Int) ≤ (A : Int) ∧ (A : Int) ≤ ((A + old.length : Nat) : Int) ∧ ((A + old.length : Nat) : Int) ≤ (t.length : Int) := by omega
        simp only [hend, decide_false, Bool.false_eq_true, if_false, hc1, and_self, if_true, Int.toNat_natCast]
        have hsl : List.drop A (List.take (A + old.length) t) = (t.drop A).take old.length := by rw [List.drop_take]; congr 1; omega
        rw [hsl, Equal_eq _ _ (by simp; omega)]
        have hdd : (t.drop k).drop (A - k) = t.drop A := by rw [List.drop_drop]; congr 1; omega
        rw [hdd] at he
        by_cases heq : (t.drop A).take old.length = old
        · left
          rw [if_pos ⟨by simp; omega, heq⟩] at he
          have hc2 : (0 : Int) ≤ (k : Int) ∧ (k : Int) ≤ (A : Int) ∧ (A : Int) ≤ (t.length : Int) := by omega
          have hl2 : (List.drop k (List.take A t)).length = A - k := by simp; omega
          have hdt : List.drop k (List.take A t) = (t.drop k).take (A - k) := by rw [List.drop_take]
          refine ⟨(out ++ List.drop k (List.take A t) ++ new, ((A + old.length : Nat) : Int), ((i + 1 : Nat) : Int), ()), ?_, ⟨i + 1, A + old.length, rfl, rfl, hlt, hend', by simp; omega, ?_, ?_⟩, by simp; omega⟩
          · simp only [Option.bind_some, decide_eq_true heq, Bool.not_true, Bool.false_eq_true, if_false, hc2, and_self, if_true, Int.toNat_natCast, hl2]
            rw [if_pos ⟨by omega, by simp [maxLen]; omega⟩]
            simp only [List.length_append, hl2]
            rw [if_pos ⟨by omega, by simp [maxLen]; omega⟩]
            simp only [hE, Option.bind_some, wrap_i64 (n := (i : Int) + 1) (by omega) (by omega)]
            rfl
          · cases hr : l.drop (i + 1) with
            | nil => trivial
            | cons y r => rw [hr] at hs2; obtain ⟨q1, q2⟩ := hs2; exact ⟨by omega, q2⟩
          · rw [he]
            have : (t.drop k).drop (A - k + old.length) = t.drop (A + old.length) := by rw [List.drop_drop]; congr 1; omega
            rw [this, hdt]
            simp only [Option.map_map, Function.comp_def, List.append_assoc]
            congr 1
        · right
          rw [if_neg (fun h => heq h.2)] at he
          simp only [Option.bind_some, decide_eq_false heq, Bool.not_false, if_true]
          exact ⟨_, rfl, by rw [he]; rfl⟩
    · right
      have h2 : ¬ ((i : Int) < (l.length : Int)) := by omega
      rw [List.drop_eq_nil_of_le (show l.length ≤ i from by omega)] at he
      have hc : (0 : Int) ≤ (k : Int) ∧ (k : Int) ≤ (t.length : Int) ∧ (t.length : Int) ≤ (t.length : Int) := by omega
      simp only [h2, decide_false, Bool.false_eq_true, if_false, hc, and_self, if_true, Int.toNat_natCast, List.take_length]
      rw [if_pos ⟨by simp; omega, by simp [maxLen]; omega⟩, he]
      have hap : (apL [] (k : Int) (t.drop k)).map (out ++ ·) = some (out ++ t.drop k) := rfl
      rw [hap]
      simp only [apQ]
      generalize out ++ t.drop k = u
      by_cases hu : 120 < u.length
      · have : ((u.length : Int) > 120) := by omega
        simp only [this, decide_true, if_true, hu]
        exact ⟨_, rfl, rfl⟩
      · have : ¬ ((u.length : Int) > 120) := by omega
        simp only [this, decide_false, Bool.false_eq_true, if_false, hu]
        exact ⟨_, rfl, rfl⟩
  · simp

theorem f0 (f : Fault) : (f.1 == 0 && (f.2.1 == 0 && true)) = decide (f = (0, 0, ())) := by
  obtain ⟨c, j, ⟨⟩⟩ := f
  by_cases h : c = 0 ∧ j = 0
  · obtain ⟨rfl, rfl⟩ := h; rfl
  · rw [decide_eq_false (fun e => h (by simpa using e)), Bool.eq_false_iff]
    intro e; simp at e; exact h e
theorem hc_code (h : Hunk) (k : Int) : hfrom [h] k 0 = (0, 0, ()) ∨ hc h k ≠ 0 := by
  by_cases e : hc h k = 0
  · left; simp [hfrom, e]
  · exact .inr e
theorem hfrom_z : ∀ {l : List Hunk} {k i : Int}, (hfrom l k i).1 = 0 → hfrom l k i = (0, 0, ())
  | [], _, _, _ => rfl
  | h :: r, k, i, e => by
    simp only [hfrom] at e ⊢
    split at e
    · rename_i hne; exact absurd e hne
    · rename_i hz; rw [if_neg hz]; exact hfrom_z e
theorem pF_z {p : Patch} (e : (pF p).1 = 0) : pF p = (0, 0, ()) := by
  unfold pF at e ⊢
  split at e
  · cases e
  · rename_i h; rw [if_neg h]; exact hfrom_z e
/-- What Apply comes to. -/
theorem Apply_all (p : Patch) (t : List ByteArray) : ∃ r, textpatch_Apply_16 (p, t, ()) = some r ∧ (¬ r.2.1.1 = 0 ∨ (r.2.1 = (0, 0, ()) ∧ pF p = (0, 0, ()) ∧ code t = 0 ∧ apL p.1 0 t = some r.1 ∧ code r.1 = 0)) := by
  by_cases hp : pF p = (0, 0, ())
  · by_cases ht : code t = 0
    · obtain ⟨r, h1, h2⟩ := ApplyP_eq p t hp ht
      refine ⟨r, h1, ?_⟩
      cases ha : apL p.1 0 t with
      | none => rw [ha] at h2; have h2 : r.2.1.1 = 19 := h2; exact .inl (by omega)
      | some u =>
        rw [ha] at h2
        simp only [apQ] at h2
        split at h2
        · exact .inl (by rw [h2]; simp)
        · subst h2
          have := apL_ok ha (code_iff.1 ht).2 (pF_new hp)
          exact .inr ⟨rfl, hp, ht, rfl, code_iff.2 ⟨by show u.length ≤ 120; omega, this⟩⟩
    · obtain ⟨l, ⟨⟩⟩ := p
      have ht' : (code t != 0) = true := by simpa using ht
      unfold textpatch_Apply_16
      have e : (((l, ()) : Patch).1, ()) = ((l, ()) : Patch) := rfl
      simp only [textpatch_Validate_eq, hp, lines_Code_eq, Option.bind_some, BEq.rfl, Bool.and_self, Bool.not_true, Bool.false_eq_true, if_false, ht', if_true]
      exact ⟨_, rfl, .inl ht⟩
  · obtain ⟨l, ⟨⟩⟩ := p
    have e := f0 (pF (l, ()))
    rw [decide_eq_false hp] at e
    have hz : ¬ (pF (l, ())).1 = 0 := fun h => hp (pF_z h)
    unfold textpatch_Apply_16
    simp only [textpatch_Validate_eq, Option.bind_some]
    generalize pF (l, ()) = f at e hz
    obtain ⟨c, j, ⟨⟩⟩ := f
    simp only at e hz
    simp only [e, Bool.not_false, if_true]
    exact ⟨_, rfl, .inl hz⟩
end Go.Proofs.Ytidnkaopndmigaa.F
end
section
set_option linter.unusedSimpArgs false
set_option linter.unusedVariables false
/- The law BlameEdited over plain values. -/
namespace Go.Proofs.Ytidnkaopndmigaa.F
open Go Go.Proofs.Ytidnkaopndmigaa.V

instance decMem (x : ByteArray) (m : List ByteArray) : Decidable (x ∈ m) := if h : m.any (fun y => decide (y = x)) = true then .isTrue (by simpa using h) else .isFalse (by simpa using h)
theorem follows_one (x : ByteArray) (m : List ByteArray) (hm : m.length ≤ 1000000) : changeforgelaw2_follows_14 ([x], m, ()) = some (decide (x ∈ m), ()) := by
  unfold changeforgelaw2_follows_14
  simp only []
  refine loop_val (fun s => ∃ i : Nat, s.2.1 = (i : Int) ∧ i ≤ m.length ∧ ((s.1 = 0 ∧ x ∉ m.take i) ∨ (s.1 = 1 ∧ x ∈ m))) (fun s => m.length - s.2.1.toNat) (fun _ => (decide (x ∈ m), ())) ?_ (s := (0, 0, ())) ⟨0, rfl, by omega, .inl ⟨rfl, by simp⟩⟩
  rintro ⟨k, a2, ⟨⟩⟩ ⟨i, g1, hi, hc⟩
  simp only at g1 hc
  subst g1
  by_cases hlt : i < m.length
  · have q2 : ((i : Int) < (m.length : Int)) := by omega
    have hg : m[i]? = some m[i] := List.getElem?_eq_getElem hlt
    have hmem := List.getElem_mem hlt
    have ht : m.take (i + 1) = m.take i ++ [m[i]] := by rw [List.take_add_one, hg]; rfl
    generalize m[i] = y at hg hmem ht
    rcases hc with ⟨rfl, hno⟩ | ⟨rfl, hin⟩
    · have hx : atC [x] (0 : Int) = fun (k : ByteArray → Option ((Int × Int × Unit) ⊕ (Bool × Unit))) => k x := by
        funext k
        exact atC_val (xs := [x]) (i := 0) rfl
      by_cases e : y = x
      · subst e
        left
        refine ⟨(1, ((i + 1 : Nat) : Int), ()), ?_, ⟨i + 1, rfl, hlt, .inr ⟨rfl, hmem⟩⟩, rfl, by simp; omega⟩
        simp [q2, atC_val hg, hx, str_eq, wrap_i64 (n := (i : Int) + 1) (by omega) (by omega)]
        decide
      · left
        refine ⟨(0, ((i + 1 : Nat) : Int), ()), ?_, ⟨i + 1, rfl, hlt, .inl ⟨rfl, ?_⟩⟩, rfl, by simp; omega⟩
        · simp [q2, atC_val hg, hx, str_eq, e, wrap_i64 (n := (i : Int) + 1) (by omega) (by omega)]
        · rw [ht, List.mem_append, List.mem_singleton]
          exact fun h => h.elim hno fun h => e h.symm
    · right
      simp [q2, hin]
  · right
    have q2 : ¬ ((i : Int) < (m.length : Int)) := by omega
    rcases hc with ⟨rfl, hno⟩ | ⟨rfl, hin⟩
    · rw [List.take_of_length_le (by omega)] at hno
      simp [q2, hno]
    · simp [q2, hin]
theorem sub_len (a b : List ByteArray) : ∀ l : List ByteArray, l.Sublist a → l.Sublist b → l.length ≤ lcs a b := by
  fun_induction lcs a b with
  | case1 b => intro l h _; rw [List.sublist_nil.1 h]; simp
  | case2 a x => intro l _ h; rw [List.sublist_nil.1 h]; simp
  | case3 x a y ih =>
    intro l h1 h2
    cases l with
    | nil => simp
    | cons c l =>
      have t : ∀ {z : List ByteArray}, (c :: l).Sublist (a :: z) → l.Sublist z := fun h => by
        cases h with
        | cons _ h => exact (List.sublist_cons_self c l).trans h
        | cons_cons _ h => exact h
      have := ih l (t h1) (t h2)
      simp only [List.length_cons]; omega
  | case4 a x b y hne ih1 ih2 =>
    intro l h1 h2
    cases h1 with
    | cons _ h => have := ih1 l h h2; omega
    | cons_cons _ h =>
      rename_i l'
      cases h2 with
      | cons _ h' => have := ih2 (a :: l') (h.cons_cons a) h'; omega
      | cons_cons _ h' => exact absurd rfl hne
/-- What is left of the base, and nothing else of it. -/
theorem apL_sub (B : List ByteArray) : ∀ {l : List Hunk} {k : Int} {t u : List ByteArray}, apL l k t = some u → (∀ h ∈ l, ∀ s ∈ h.2.2.1, s ∉ B) → (∀ s ∈ t, s ∈ B) → (u.filter fun s => decide (s ∈ B)).Sublist t
  | [], _, t, u, h, _, _ => by injection h with h; subst h; exact List.filter_sublist
  | h :: r, k, t, u, e, hn, ht => by
    simp only [apL] at e
    split at e
    · rw [Option.map_eq_some_iff] at e
      obtain ⟨u', e1, rfl⟩ := e
      have ih := apL_sub B e1 (fun x hx => hn x (by simp [hx])) (fun s hs => ht s (List.mem_of_mem_drop hs))
      have hnew : h.2.2.1.filter (fun s => decide (s ∈ B)) = [] := by
        rw [List.filter_eq_nil_iff]
        intro s hs
        simpa using hn h (by simp) s hs
      rw [List.filter_append, List.filter_append, hnew, List.append_nil]
      conv => rhs; rw [← List.take_append_drop (h.1 - k).toNat t]
      refine List.Sublist.append List.filter_sublist (ih.trans ?_)
      rw [← List.drop_drop]
      exact List.drop_sublist _ _
    · cases e
theorem ann_new (v : Int) : ∀ (y : List ByteArray), ann v [] y [] = List.replicate y.length v
  | [] => by rw [ann]; rfl
  | b :: y => by rw [ann, ann_new v y]; rfl
theorem ann_zero {x y : List ByteArray} {o : List Int} : ∀ p ∈ y.zip (ann 1 x y o), p.2 = 0 → p.1 ∈ x := by
  fun_induction ann 1 x y o with
  | case1 o => simp
  | case2 b y o ih =>
    simp only [List.zip_cons_cons, List.mem_cons, forall_eq_or_imp]
    exact ⟨fun h => by omega, ih⟩
  | case3 a x o ih => simp
  | case4 x a y o ih =>
    simp only [List.zip_cons_cons, List.mem_cons, forall_eq_or_imp]
    exact ⟨fun _ => by simp, fun p hp h => by simp [ih p hp h]⟩
  | case5 a x b y o h h2 ih => exact fun p hp hz => List.mem_cons_of_mem _ (ih p hp hz)
  | case6 a x b y o h h2 ih =>
    simp only [List.zip_cons_cons, List.mem_cons, forall_eq_or_imp]
    exact ⟨fun h => by omega, fun p hp hz => by simpa using ih p hp hz⟩
theorem ann_count {x y : List ByteArray} {o : List Int} (ho : o.length = x.length) (hz : ∀ p ∈ o, p = 0) : (ann 1 x y o).countP (fun p => decide (p = 0)) = kept x y := by
  fun_induction ann 1 x y o with
  | case1 o => rw [kept]; rfl
  | case2 b y o ih =>
    rw [List.countP_cons_of_neg (by simp), ih ho hz]
    cases y <;> simp [kept]
  | case3 a x o ih =>
    rw [ih (by simp at ho ⊢; omega) (fun p hp => hz p (List.mem_of_mem_drop hp))]
    cases x <;> simp [kept]
  | case4 x a y o ih =>
    cases o with
    | nil => simp at ho
    | cons q o =>
      have hq : q = 0 := hz q (by simp)
      simp only [List.headD_cons, List.drop_succ_cons, List.drop_zero] at ih ⊢
      rw [List.countP_cons_of_pos (by simp [hq]), ih (by simpa using ho) (fun p hp => hz p (by simp [hp])), kept, if_pos rfl]
  | case5 a x b y o h h2 ih =>
    rw [ih (by simp at ho ⊢; omega) (fun p hp => hz p (List.mem_of_mem_drop hp)), kept, if_neg h, if_pos h2]
  | case6 a x b y o h h2 ih =>
    rw [List.countP_cons_of_neg (by simp), ih ho hz, kept, if_neg h, if_neg h2]
theorem count_eq {α : Type} (f g : α → Bool) : ∀ (l : List α), (∀ p ∈ l, f p = true → g p = true) → l.countP g ≤ l.countP f → ∀ p ∈ l, g p = f p
  | [], _, _, p, hp => by cases hp
  | a :: l, h, hc, p, hp => by
    have hle : l.countP f ≤ l.countP g := List.countP_mono_left fun q hq => h q (by simp [hq])
    have ha := h a (by simp)
    rw [List.countP_cons, List.countP_cons] at hc
    cases hfa : f a <;> cases hga : g a <;> simp [hfa, hga] at hc ha
    · rcases List.mem_cons.1 hp with rfl | hp
      · rw [hfa, hga]
      · exact count_eq f g l (fun q hq => h q (by simp [hq])) hc p hp
    · omega
    · rcases List.mem_cons.1 hp with rfl | hp
      · rw [hfa, hga]
      · exact count_eq f g l (fun q hq => h q (by simp [hq])) hc p hp
theorem origins_eq {B s : List ByteArray} {p : Patch} (ha : apL p.1 0 B = some s) (hn : ∀ h ∈ p.1, ∀ x ∈ h.2.2.1, x ∉ B) :
    ∀ q ∈ s.zip (ann 1 B s (List.replicate B.length 0)), decide (q.1 ∈ B) = decide (q.2 = 0) := by
  have hl := ann_length 1 B s (List.replicate B.length 0)
  refine count_eq (fun q : ByteArray × Int => decide (q.2 = 0)) (fun q => decide (q.1 ∈ B)) _ (fun q hq h => by simpa using ann_zero q hq (by simpa using h)) ?_
  have c1 : (s.zip (ann 1 B s (List.replicate B.length 0))).countP (fun q => decide (q.1 ∈ B)) = s.countP (fun x => decide (x ∈ B)) := by
    conv => rhs; rw [← List.map_fst_zip (l₁ := s) (l₂ := ann 1 B s (List.replicate B.length 0)) (by omega)]
    rw [List.countP_map]; rfl
  have c2 : (s.zip (ann 1 B s (List.replicate B.length 0))).countP (fun q => decide (q.2 = 0)) = (ann 1 B s (List.replicate B.length 0)).countP (fun x => decide (x = 0)) := by
    conv => rhs; rw [← List.map_snd_zip (l₁ := s) (l₂ := ann 1 B s (List.replicate B.length 0)) (by omega)]
    rw [List.countP_map]; rfl
  rw [c1, c2, ann_count (by simp) (by simp), kept_lcs, List.countP_eq_length_filter]
  exact sub_len _ _ _ (apL_sub B ha hn (fun s hs => hs)) List.filter_sublist
theorem one_at {l : List ByteArray} {i : Nat} {x : ByteArray} (h : l[i]? = some x) : List.drop i (List.take (i + 1) l) = [x] := by
  obtain ⟨hi, rfl⟩ := List.getElem?_eq_some_iff.1 h
  rw [List.take_add_one, List.getElem?_eq_getElem hi, List.drop_append_of_le_length (by simp; omega), List.drop_take_self]
  rfl
set_option maxHeartbeats 1000000 in
theorem Edited_eq (B : List ByteArray) (p : Patch) : changeforgelaw2_BlameEdited_7 (B, p, ()) = some (true, ()) := by
  obtain ⟨r, hA, hq⟩ := Apply_all p B
  obtain ⟨hks, ⟨⟩⟩ := p
  unfold changeforgelaw2_BlameEdited_7
  simp only [hA, Option.bind_some, added_eq]
  rcases hq with hne | ⟨hf, hp, hB, hap, hs⟩
  · have : (r.2.1.1 != 0) = true := by simpa using hne
    simp only [this, if_true]
  · obtain ⟨s, f, ⟨⟩⟩ := r
    simp only at hf hap hs
    subst hf
    have lB := code_len hB
    have ls := code_len hs
    obtain ⟨lh, bh⟩ := pF_bd hp
    simp only at lh bh
    simp only [bne_self_eq_false, Bool.false_eq_true, if_false]
    suffices key : ∃ r : Bool × Unit, _ = some r ∧ r = (true, ()) from by
      obtain ⟨r, h, rfl⟩ := key; exact h
    refine loop_inv (fun st => ∃ i : Nat, st.1 = (i : Int) ∧ i ≤ B.length ∧ ∀ h ∈ hks, ∀ x ∈ h.2.2.1, x ∉ B.take i) (fun st => B.length - st.1.toNat) _ ?_ (s := (0, ())) ⟨0, rfl, by omega, by simp⟩
    rintro ⟨a1, ⟨⟩⟩ ⟨i, g1, hi, hno⟩
    simp only at g1
    subst g1
    by_cases hlt : i < B.length
    · have q2 : ((i : Int) < (B.length : Int)) := by omega
      have hg : B[i]? = some B[i] := List.getElem?_eq_getElem hlt
      have ht : B.take (i + 1) = B.take i ++ [B[i]] := by rw [List.take_add_one, hg]; rfl
      generalize B[i] = x at hg ht
      have hone := one_at hg
      have hwi : IntKind.wrap .i64 ((i : Int) + 1) = ((i + 1 : Nat) : Int) := by rw [wrap_i64 (by omega) (by omega)]; rfl
      simp only [q2, decide_true, if_true]
      have hin : ∃ r : (Int × Unit) ⊕ (Bool × Unit), (∀ o : Option ((Int × Unit) ⊕ (Bool × Unit)), o = some r → (∃ s' : Int × Unit, o = some (.inl s') ∧ (∃ i : Nat, s'.1 = (i : Int) ∧ i ≤ B.length ∧ ∀ h ∈ hks, ∀ x ∈ h.2.2.1, x ∉ B.take i) ∧ B.length - s'.1.toNat < B.length - i) ∨ ∃ r, o = some (.inr r) ∧ r = (true, ())) := ⟨.inr (true, ()), fun o ho => .inr ⟨_, ho, rfl⟩⟩
      suffices key : ∃ r : (Int × Unit) ⊕ (Bool × Unit), _ = some r ∧ (r = .inr (true, ()) ∨ (r = .inl (((i + 1 : Nat) : Int), ()) ∧ ∀ h ∈ hks, x ∉ h.2.2.1)) from by
        obtain ⟨r, h, hr⟩ := key
        rcases hr with rfl | ⟨rfl, hr⟩
        · exact .inr ⟨_, h, rfl⟩
        · refine .inl ⟨_, h, ⟨i + 1, rfl, hlt, fun h hh y hy => ?_⟩, by simp only [Int.toNat_natCast]; omega⟩
          rw [ht, List.mem_append, List.mem_singleton]
          rintro (h1 | rfl)
          · exact hno h hh y hy h1
          · exact hr h hh hy
      refine loop_inv (fun st => st.1 = (i : Int) ∧ ∃ k : Nat, st.2.1 = (k : Int) ∧ k ≤ hks.length ∧ ∀ h ∈ hks.take k, x ∉ h.2.2.1) (fun st => hks.length - st.2.1.toNat) _ ?_ (s := ((i : Int), 0, ())) ⟨rfl, 0, rfl, by omega, by simp⟩
      rintro ⟨b1, b2, ⟨⟩⟩ ⟨e1, k, e2, hk, hkn⟩
      simp only at e1 e2
      subst e1 e2
      by_cases hkl : k < hks.length
      · have q3 : ((k : Int) < (hks.length : Int)) := by omega
        have hgk : hks[k]? = some hks[k] := List.getElem?_eq_getElem hkl
        have htk : hks.take (k + 1) = hks.take k ++ [hks[k]] := by rw [List.take_add_one, hgk]; rfl
        have hbk := bh _ (List.getElem_mem hkl)
        generalize hks[k] = h at hgk htk hbk
        have c1 : 0 ≤ (i : Int) ∧ (i : Int) ≤ ((i + 1 : Nat) : Int) ∧ ((i + 1 : Nat) : Int) ≤ (B.length : Int) := by omega
        have c2 : 0 ≤ (0 : Int) ∧ (0 : Int) ≤ (i : Int) ∧ (i : Int) ≤ (B.length : Int) := by omega
        have hnl := hbk.2.2.2
        have f1 := follows_one x h.2.2.1 (by omega)
        have f2 := follows_one x (B.take i) (by simp; omega)
        simp only [q3, decide_true, if_true, hwi, c1, c2, and_self, Int.toNat_natCast, hone, atC_val hgk, f1, Option.bind_some, Int.toNat_zero, List.drop_zero, f2, decide_eq_true_eq]
        by_cases hx : x ∈ h.2.2.1
        · right
          simp only [hx, if_true]
          exact ⟨_, rfl, .inl rfl⟩
        · have stay : ∃ s' : Int × Int × Unit, (some (.inl ((i : Int), IntKind.wrap .i64 ((k : Int) + 1), ())) : Option ((Int × Int × Unit) ⊕ ((Int × Unit) ⊕ (Bool × Unit)))) = some (.inl s') ∧ (s'.1 = (i : Int) ∧ ∃ k : Nat, s'.2.1 = (k : Int) ∧ k ≤ hks.length ∧ ∀ h ∈ hks.take k, x ∉ h.2.2.1) ∧ hks.length - s'.2.1.toNat < hks.length - k := by
            refine ⟨_, rfl, ⟨rfl, k + 1, by rw [wrap_i64 (by omega) (by omega)]; rfl, hkl, fun h' hh => ?_⟩, by rw [wrap_i64 (by omega) (by omega)]; simp only; omega⟩
            rw [htk, List.mem_append, List.mem_singleton] at hh
            rcases hh with hh | rfl
            · exact hkn h' hh
            · exact hx
          simp only [hx, if_false]
          by_cases hi0 : (i : Int) > 0
          · simp only [hi0, if_true]
            by_cases hxt : x ∈ B.take i
            · right
              simp only [hxt, if_true]
              exact ⟨_, rfl, .inl rfl⟩
            · left
              simp only [hxt, if_false]
              exact stay
          · left
            simp only [hi0, if_false, Bool.false_eq_true]
            exact stay
      · right
        have q3 : ¬ ((k : Int) < (hks.length : Int)) := by omega
        rw [List.take_of_length_le (by omega)] at hkn
        simp only [q3, decide_false, Bool.false_eq_true, if_false, hwi]
        exact ⟨_, rfl, .inr ⟨rfl, hkn⟩⟩
    · right
      have q2 : ¬ ((i : Int) < (B.length : Int)) := by omega
      rw [List.take_of_length_le (by omega)] at hno
      simp only [q2, decide_false, Bool.false_eq_true, if_false]
      obtain ⟨r', hA', hq'⟩ := Annotate_eq [B, s]
      have hr' : r' = (ann 1 B s (List.replicate B.length 0), (0, 0, ()), ()) := by
        rcases hq' with ⟨g1, _, _, g2⟩ | ⟨_, h⟩
        · obtain ⟨o', f', ⟨⟩⟩ := r'
          simp only at g1 g2
          subst g1 g2
          simp only [annL, ann_new]
          rfl
        · exact absurd ⟨by simp, by simp [hB, hs]⟩ h
      subst hr'
      have hor := origins_eq (p := (hks, ())) hap hno
      have hlen := ann_length 1 B s (List.replicate B.length 0)
      simp only [hA', Option.bind_some]
      generalize ann 1 B s (List.replicate B.length 0) = R at hor hlen
      have hl2 : (((R.length : Int)) != (s.length : Int)) = false := by simp [hlen]
      simp only [bne_self_eq_false, Bool.false_eq_true, if_false, hl2]
      suffices key : ∃ r : Bool × Unit, _ = some r ∧ r = (true, ()) from by
        obtain ⟨r, h, hr⟩ := key
        exact ⟨r, congrArg (Option.map (Sum.inr (α := Int × Unit))) h, hr⟩
      refine loop_inv (fun st => ∃ i : Nat, st.1 = (i : Int) ∧ i ≤ R.length) (fun st => R.length - st.1.toNat) _ ?_ (s := (0, ())) ⟨0, rfl, by omega⟩
      rintro ⟨a1, ⟨⟩⟩ ⟨j, g1, hj⟩
      simp only at g1
      subst g1
      by_cases hjl : j < R.length
      · left
        have q3 : ((j : Int) < (R.length : Int)) := by omega
        have hgR : R[j]? = some R[j] := List.getElem?_eq_getElem hjl
        have hgs : s[j]? = some (s[j]'(by omega)) := List.getElem?_eq_getElem (by omega)
        have hz : (s[j]'(by omega), R[j]) ∈ s.zip R := by
          refine List.mem_of_getElem? (i := j) ?_
          rw [List.getElem?_zip_eq_some]; exact ⟨hgs, hgR⟩
        have hoz := hor _ hz
        generalize R[j] = v at hgR hoz
        generalize s[j]'(by omega) = y at hgs hoz
        have hwj : IntKind.wrap .i64 ((j : Int) + 1) = ((j + 1 : Nat) : Int) := by rw [wrap_i64 (by omega) (by omega)]; rfl
        have c1 : 0 ≤ (j : Int) ∧ (j : Int) ≤ ((j + 1 : Nat) : Int) ∧ ((j + 1 : Nat) : Int) ≤ (s.length : Int) := by omega
        have hv0 : (v == 0) = decide (v = 0) := by by_cases h : v = 0 <;> simp [h]
        refine ⟨(((j + 1 : Nat) : Int), ()), ?_, ⟨j + 1, rfl, hjl⟩, by simp; omega⟩
        simp only [q3, decide_true, if_true, atC_val hgR, hwj, c1, and_self, Int.toNat_natCast, one_at hgs, follows_one y B (by omega), Option.bind_some, hv0]
        simp only at hoz
        rw [hoz]
        simp
      · right
        have q3 : ¬ ((j : Int) < (R.length : Int)) := by omega
        simp only [q3, decide_false, Bool.false_eq_true, if_false]
        exact ⟨_, rfl, rfl⟩
end Go.Proofs.Ytidnkaopndmigaa.F
end
