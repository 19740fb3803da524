/- What diff's table comes to: the longest common subsequences of the texts' ends. -/
import Derived.Test.YtidnkaopndmigaaLcs
import Derived.Test.YtidnkaopndmigaaPx3
namespace Go.Proofs.Ytidnkaopndmigaa.PL
open Go.RowKit Go.Proofs.YtidnkaopndmigaaW.PrintWords Go.Proofs.YtidnkaopndmigaaW.PrintMore Go.Proofs.Ytidnkaopndmigaa.P

/-- A table out of a function. -/
def tab (n m : Nat) (f : Nat → Nat → Int) : List (List Int) := (List.range (n + 1)).map fun i => (List.range (m + 1)).map fun j => f i j
theorem tab_congr {n m : Nat} {f g : Nat → Nat → Int} (h : ∀ i j, i ≤ n → j ≤ m → f i j = g i j) : tab n m f = tab n m g := by
  unfold tab
  refine List.map_congr_left fun i hi => List.map_congr_left fun j hj => h i j ?_ ?_
  · have := List.mem_range.1 hi; omega
  · have := List.mem_range.1 hj; omega
theorem tab_length (n m : Nat) (f : Nat → Nat → Int) : (tab n m f).length = n + 1 := by simp [tab]
theorem tab_row {n m : Nat} {f : Nat → Nat → Int} {i : Nat} (hi : i ≤ n) : rd_L4 (tab n m f) (i : Int) = (List.range (m + 1)).map fun j => f i j := by
  unfold rd_L4
  rw [Int.toNat_natCast, List.getD_eq_getElem?_getD, List.getElem?_eq_getElem (by rw [tab_length]; omega)]
  simp [tab]
theorem tab_row_length {n m : Nat} {f : Nat → Nat → Int} {i : Nat} (hi : i ≤ n) : (rd_L4 (tab n m f) (i : Int)).length = m + 1 := by
  rw [tab_row hi]
  simp
theorem tab_at {n m : Nat} {f : Nat → Nat → Int} {i j : Nat} (hi : i ≤ n) (hj : j ≤ m) : rd (rd_L4 (tab n m f) (i : Int)) (j : Int) = f i j := by
  rw [tab_row hi, rd_nat (by simp; omega)]
  simp
theorem tab_set {n m : Nat} {f : Nat → Nat → Int} {i j : Nat} (hi : i ≤ n) (hj : j ≤ m) (v : Int) : (tab n m f).set i ((rd_L4 (tab n m f) (i : Int)).set j v) = tab n m (fun a b => if a = i ∧ b = j then v else f a b) := by
  rw [tab_row hi]
  apply List.ext_getElem
  · simp [tab]
  · intro a h1 h2
    have ha : a < n + 1 := by rw [tab_length] at h2; exact h2
    simp only [tab, List.getElem_set, List.getElem_map, List.getElem_range]
    by_cases e : i = a
    · subst e
      rw [if_pos rfl]
      apply List.ext_getElem
      · simp
      · intro b h3 h4
        simp only [List.getElem_set, List.getElem_map, List.getElem_range, true_and]
        by_cases e2 : j = b
        · subst e2
          simp
        · rw [if_neg e2, if_neg (fun h => e2 h.symm)]
    · rw [if_neg e]
      refine List.map_congr_left fun b hb => ?_
      rw [if_neg (fun h => e h.1.symm)]

section
variable (x y : List ByteArray)
/-- The table's entries: of the ends from i and from j on. -/
def T (i j : Nat) : Int := (lcs (x.drop i) (y.drop j) : Int)
theorem T_end1 (j : Nat) : T x y x.length j = 0 := by unfold T; rw [List.drop_length, lcs_nil]; rfl
theorem T_end2 (i : Nat) : T x y i y.length = 0 := by unfold T; rw [List.drop_length, lcs_nil2]; rfl
theorem T_step {i j : Nat} (hi : i < x.length) (hj : j < y.length) : T x y i j = if x[i] = y[j] then T x y (i + 1) (j + 1) + 1 else max (T x y (i + 1) j) (T x y i (j + 1)) := by
  unfold T
  rw [List.drop_eq_getElem_cons hi, List.drop_eq_getElem_cons hj, lcs_cons]
  split
  · simp
  · rw [← List.drop_eq_getElem_cons hj, ← List.drop_eq_getElem_cons hi]
    omega
theorem T_bound (i j : Nat) : 0 ≤ T x y i j ∧ T x y i j ≤ x.length := by
  unfold T
  have := (lcs_le (x.drop i) (y.drop j)).1
  rw [List.length_drop] at this
  omega
/-- What stands in the table when all places behind (i, j) are done. -/
def part (i j : Nat) : Nat → Nat → Int := fun a b => if i < a ∨ (a = i ∧ j ≤ b) then T x y a b else 0

variable (hx : x.length ≤ 1000000) (hy : y.length ≤ 1000000)
include hx hy
/-- The loop over one row, from j - 1 down. -/
theorem measure_l2 (i : Nat) (hi : i < x.length) (h1 : Ev (fun k => diff_measure.l1 k x y (tab x.length y.length (part x y i 0)) ((i : Int) - 1)) (tab x.length y.length (T x y))) :
    ∀ j, j ≤ y.length → Ev (fun k => diff_measure.l2 k x y (tab x.length y.length (part x y i j)) (i : Int) ((j : Int) - 1)) (tab x.length y.length (T x y)) := by
  intro j
  induction j with
  | zero =>
    intro _
    obtain ⟨K, h1⟩ := h1
    refine ⟨K + 1, fun k hk => ?_⟩
    obtain ⟨m, rfl⟩ : ∃ m, k = m + 1 := ⟨k - 1, by omega⟩
    have h := h1 m (by omega)
    simp only [diff_measure.l2]
    rw [if_neg (by omega), show wrap64 ((i : Int) - 1) = (i : Int) - 1 from wrap64_id (by omega) (by omega)]
    exact h
  | succ j ih =>
    intro hj
    obtain ⟨K, h1⟩ := ih (by omega)
    refine ⟨K + 1, fun k hk => ?_⟩
    obtain ⟨m, rfl⟩ : ∃ m, k = m + 1 := ⟨k - 1, by omega⟩
    have h := h1 m (by omega)
    dsimp only at h ⊢
    rw [show ((j + 1 : Nat) : Int) - 1 = (j : Int) by omega]
    simp only [diff_measure.l2]
    rw [if_pos (by omega), if_pos (by omega), if_pos (by omega), if_pos (by omega), if_pos (by omega), rdOf_nat hi, rdOf_nat (show j < y.length by omega)]
    rw [wrap64_succ (show i < 9223372036854775807 by omega), wrap64_succ (show j < 9223372036854775807 by omega), show wrap64 ((j : Int) - 1) = (j : Int) - 1 from wrap64_id (by omega) (by omega)]
    have hL := tab_length x.length y.length (part x y i (j + 1))
    have hr1 := tab_row_length (m := y.length) (f := part x y i (j + 1)) (show i + 1 ≤ x.length by omega)
    have hr0 := tab_row_length (m := y.length) (f := part x y i (j + 1)) (show i ≤ x.length by omega)
    have b1 := T_bound x y (i + 1) (j + 1)
    have hT := T_step x y hi (show j < y.length by omega)
    have fin : ∀ v, v = T x y i j → (tab x.length y.length (part x y i (j + 1))).set i ((rd_L4 (tab x.length y.length (part x y i (j + 1))) (i : Int)).set j v) = tab x.length y.length (part x y i j) := by
      intro v hv
      rw [tab_set (by omega) (by omega)]
      refine tab_congr fun a b ha hb => ?_
      unfold part
      by_cases e : a = i ∧ b = j
      · rw [if_pos e, if_pos (.inr ⟨e.1, by omega⟩), hv, e.1, e.2]
      · rw [if_neg e]
        by_cases e2 : i < a ∨ (a = i ∧ j + 1 ≤ b)
        · rw [if_pos e2, if_pos (by omega)]
        · rw [if_neg e2, if_neg (by omega)]
    by_cases he : x[i] = y[j]
    · rw [if_pos ((bytes_eq _ _).2 he), if_pos (by omega), if_pos (by omega), if_pos (by omega), if_pos (by omega), if_pos (by omega), if_pos (by omega), tab_at (by omega) (by omega)]
      rw [if_pos he] at hT
      have e1 : part x y i (j + 1) (i + 1) (j + 1) = T x y (i + 1) (j + 1) := by
        unfold part
        rw [if_pos (.inl (by omega))]
      rw [e1, wrap64_id (by omega) (by omega), Int.toNat_natCast, Int.toNat_natCast, fin _ hT.symm]
      exact h
    · rw [if_neg (fun h => he ((bytes_eq _ _).1 h)), if_pos (by omega), if_pos (by omega), if_pos (by omega), if_pos (by omega), if_pos (by omega), if_pos (by omega), if_pos (by omega), tab_at (by omega) (by omega), tab_at (by omega) (by omega)]
      rw [if_neg he] at hT
      have e1 : part x y i (j + 1) (i + 1) j = T x y (i + 1) j := by
        unfold part
        rw [if_pos (.inl (by omega))]
      have e2 : part x y i (j + 1) i (j + 1) = T x y i (j + 1) := by
        unfold part
        rw [if_pos (.inr ⟨rfl, by omega⟩)]
      rw [e1, e2, Int.toNat_natCast, Int.toNat_natCast, fin _ (by rw [hT]; unfold mx; omega)]
      exact h
/-- The loop over the rows. -/
theorem measure_l1 : ∀ i, i ≤ x.length → Ev (fun k => diff_measure.l1 k x y (tab x.length y.length (part x y i 0)) ((i : Int) - 1)) (tab x.length y.length (T x y)) := by
  intro i
  induction i with
  | zero =>
    intro _
    refine ⟨1, fun k hk => ?_⟩
    obtain ⟨m, rfl⟩ : ∃ m, k = m + 1 := ⟨k - 1, by omega⟩
    simp only [diff_measure.l1]
    rw [if_neg (by omega)]
    refine congrArg some (tab_congr fun a b _ _ => ?_)
    unfold part
    rw [if_pos (by omega)]
  | succ i ih =>
    intro hi
    obtain ⟨K, h2⟩ := measure_l2 x y hx hy i (by omega) (ih (by omega)) y.length (Nat.le_refl _)
    refine ⟨K + 1, fun k hk => ?_⟩
    obtain ⟨m, rfl⟩ : ∃ m, k = m + 1 := ⟨k - 1, by omega⟩
    have h := h2 m (by omega)
    dsimp only at h ⊢
    rw [show ((i + 1 : Nat) : Int) - 1 = (i : Int) by omega]
    simp only [diff_measure.l1]
    rw [if_pos (by omega), show wrap64 ((y.length : Int) - 1) = (y.length : Int) - 1 from wrap64_id (by omega) (by omega)]
    have e : tab x.length y.length (part x y (i + 1) 0) = tab x.length y.length (part x y i y.length) := by
      refine tab_congr fun a b ha hb => ?_
      unfold part
      by_cases c1 : i < a
      · rw [if_pos (by omega), if_pos (.inl c1)]
      · rw [if_neg (by omega)]
        split
        · have : b = y.length := by omega
          subst this
          rw [T_end2]
        · rfl
    rw [e]
    exact h
theorem measure_l0 : ∀ d i, i + d = x.length + 1 → Ev (fun k => diff_measure.l0 k x y ((List.replicate i (List.replicate (y.length + 1) (0 : Int))) ++ List.replicate d []) ((x.length + 1 : Nat) : Int) (i : Int)) (tab x.length y.length (T x y)) := by
  intro d
  induction d with
  | zero =>
    intro i hi
    obtain ⟨K, h1⟩ := measure_l1 x y hx hy x.length (Nat.le_refl _)
    refine ⟨K + 1, fun k hk => ?_⟩
    obtain ⟨m, rfl⟩ : ∃ m, k = m + 1 := ⟨k - 1, by omega⟩
    have h := h1 m (by omega)
    dsimp only at h ⊢
    simp only [diff_measure.l0]
    rw [if_neg (by omega), show wrap64 ((x.length : Int) - 1) = (x.length : Int) - 1 from wrap64_id (by omega) (by omega)]
    have e : List.replicate i (List.replicate (y.length + 1) (0 : Int)) ++ List.replicate 0 [] = tab x.length y.length (part x y x.length 0) := by
      obtain rfl : i = x.length + 1 := by omega
      rw [show tab x.length y.length (part x y x.length 0) = tab x.length y.length (fun _ _ => 0) from tab_congr fun a b ha hb => by
        unfold part
        split
        · obtain rfl : a = x.length := by omega
          rw [T_end1]
        · rfl]
      unfold tab
      rw [List.map_const', List.length_range, List.map_const', List.length_range]
      simp
    rw [e]
    exact h
  | succ d ih =>
    intro i hi
    obtain ⟨K, h1⟩ := ih (i + 1) (by omega)
    refine ⟨K + 1, fun k hk => ?_⟩
    obtain ⟨m, rfl⟩ : ∃ m, k = m + 1 := ⟨k - 1, by omega⟩
    have h := h1 m (by omega)
    dsimp only at h ⊢
    simp only [diff_measure.l0]
    rw [wrap64_succ (show y.length < 9223372036854775807 by omega), wrap64_succ (show i < 9223372036854775807 by omega), if_pos (by omega), if_pos (by omega), if_pos (by omega), if_pos (by omega), if_pos (by simp; omega), Int.toNat_natCast, Int.toNat_natCast]
    have e : (List.replicate i (List.replicate (y.length + 1) (0 : Int)) ++ List.replicate (d + 1) []).set i (List.replicate (y.length + 1) 0) = List.replicate (i + 1) (List.replicate (y.length + 1) 0) ++ List.replicate d [] := by
      rw [List.set_append_right _ _ (by simp)]
      simp only [List.length_replicate, Nat.sub_self, List.replicate_succ (n := d), List.set_cons_zero]
      rw [show List.replicate (i + 1) (List.replicate (y.length + 1) (0 : Int)) = List.replicate i (List.replicate (y.length + 1) 0) ++ [List.replicate (y.length + 1) 0] from List.replicate_succ', List.append_assoc]
      rfl
    rw [e]
    exact h
/-- THE TABLE. -/
theorem measure_ev : Ev (fun k => diff_measure.f k x y) (tab x.length y.length (T x y)) := by
  obtain ⟨K, h1⟩ := measure_l0 x y hx hy (x.length + 1) 0 (by omega)
  refine ⟨K, fun k hk => ?_⟩
  have h := h1 k hk
  unfold diff_measure.f
  dsimp only at h ⊢
  rw [wrap64_succ (show x.length < 9223372036854775807 by omega), if_pos (by omega), if_pos (by omega), Int.toNat_natCast, Option.bind_some, List.length_replicate]
  simpa using h
end
end Go.Proofs.Ytidnkaopndmigaa.PL
