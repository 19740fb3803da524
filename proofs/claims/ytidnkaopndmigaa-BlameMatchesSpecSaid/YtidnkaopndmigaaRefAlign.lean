/- The reference's table of common subsequences and its alignment. -/
import Derived.Test.YtidnkaopndmigaaWalk
import Derived.Test.YtidnkaopndmigaaMeasure
import Derived.Test.YtidnkaopndmigaaPx8
import Derived.Test.YtidnkaopndmigaaPx9
namespace Go.Proofs.Ytidnkaopndmigaa.PL
open Go.RowKit Go.Proofs.YtidnkaopndmigaaW.PrintWords Go.Proofs.YtidnkaopndmigaaW.PrintMore Go.Proofs.Ytidnkaopndmigaa.P

def rowF (n : Nat) (f : Nat → Int) : List Int := (List.range (n + 1)).map f
def tabR (m : Nat) (g : Nat → List Int) : List (List Int) := (List.range (m + 1)).map g
theorem rowF_length (n : Nat) (f : Nat → Int) : (rowF n f).length = n + 1 := by simp [rowF]
theorem tabR_length (m : Nat) (g : Nat → List Int) : (tabR m g).length = m + 1 := by simp [tabR]
theorem rowF_at {n i : Nat} {f : Nat → Int} (h : i ≤ n) : rd (rowF n f) (i : Int) = f i := by
  rw [rd_nat (by rw [rowF_length]; omega)]
  simp [rowF]
theorem tabR_at {m j : Nat} {g : Nat → List Int} (h : j ≤ m) : rd_L4 (tabR m g) (j : Int) = g j := by
  unfold rd_L4
  rw [Int.toNat_natCast, List.getD_eq_getElem?_getD, List.getElem?_eq_getElem (by rw [tabR_length]; omega)]
  simp [tabR]
theorem rowF_set {n i : Nat} {f : Nat → Int} {v : Int} : (rowF n f).set i v = rowF n (fun a => if a = i then v else f a) := by
  apply List.ext_getElem
  · simp [rowF]
  · intro a h1 h2
    simp only [rowF, List.getElem_set, List.getElem_map, List.getElem_range]
    by_cases e : i = a
    · rw [if_pos e, if_pos e.symm]
    · rw [if_neg e, if_neg (fun h => e h.symm)]
theorem tabR_set {m j : Nat} {g : Nat → List Int} {r : List Int} : (tabR m g).set j r = tabR m (fun b => if b = j then r else g b) := by
  apply List.ext_getElem
  · simp [tabR]
  · intro a h1 h2
    simp only [tabR, List.getElem_set, List.getElem_map, List.getElem_range]
    by_cases e : j = a
    · rw [if_pos e, if_pos e.symm]
    · rw [if_neg e, if_neg (fun h => e h.symm)]
theorem rowF_congr {n : Nat} {f g : Nat → Int} (h : ∀ i, i ≤ n → f i = g i) : rowF n f = rowF n g := by
  refine List.map_congr_left fun i hi => h i ?_
  have := List.mem_range.1 hi
  omega
theorem tabR_congr {m : Nat} {f g : Nat → List Int} (h : ∀ i, i ≤ m → f i = g i) : tabR m f = tabR m g := by
  refine List.map_congr_left fun i hi => h i ?_
  have := List.mem_range.1 hi
  omega

section
variable {α : Type} [DecidableEq α]
/-- One line more makes at most one more. -/
theorem lcs_cons_le' (n : Nat) : ∀ (x y : List α), x.length + y.length ≤ n → ∀ a, lcs (a :: x) y ≤ lcs x y + 1 ∧ lcs x y ≤ lcs (a :: x) y := by
  induction n with
  | zero =>
    intro x y h a
    obtain rfl : y = [] := List.length_eq_zero_iff.1 (by omega)
    rw [lcs_nil2, lcs_nil2]
    omega
  | succ n ih =>
    intro x y h a
    cases y with
    | nil =>
      rw [lcs_nil2, lcs_nil2]
      omega
    | cons b y =>
      simp only [List.length_cons] at h
      have h1 := ih x y (by omega) a
      have h2 := ih y x (by omega) b
      rw [lcs_comm (b :: y) x, lcs_comm y x] at h2
      rw [lcs_cons]
      by_cases e : a = b
      · rw [if_pos e]
        omega
      · rw [if_neg e]
        omega
theorem lcs_cons_le (a : α) (x y : List α) : lcs (a :: x) y ≤ lcs x y + 1 ∧ lcs x y ≤ lcs (a :: x) y := lcs_cons_le' _ x y (Nat.le_refl _) a
theorem lcs_cons_le2 (b : α) (x y : List α) : lcs x (b :: y) ≤ lcs x y + 1 ∧ lcs x y ≤ lcs x (b :: y) := by
  rw [lcs_comm x (b :: y), lcs_comm x y]
  exact lcs_cons_le b y x
end

section
variable (x y : List ByteArray)
theorem T_mono1 {i j : Nat} (hi : i < x.length) : T x y i j ≤ T x y (i + 1) j + 1 ∧ T x y (i + 1) j ≤ T x y i j := by
  unfold T
  rw [List.drop_eq_getElem_cons hi]
  have := lcs_cons_le x[i] (x.drop (i + 1)) (y.drop j)
  omega
theorem T_mono2 {i j : Nat} (hj : j < y.length) : T x y i j ≤ T x y i (j + 1) + 1 ∧ T x y i (j + 1) ≤ T x y i j := by
  unfold T
  rw [List.drop_eq_getElem_cons hj]
  have := lcs_cons_le2 y[j] (x.drop i) (y.drop (j + 1))
  omega
/-- The table when row j is done from place i on. -/
def st (j i : Nat) : List (List Int) := tabR y.length (fun b => if b < j then [] else rowF x.length (fun a => if b = j ∧ a < i then 0 else T x y a b))
theorem st_length (j i : Nat) : (st x y j i).length = y.length + 1 := tabR_length _ _
theorem st_row {j i b : Nat} (hb : b ≤ y.length) (hj : j ≤ b) : rd_L4 (st x y j i) (b : Int) = rowF x.length (fun a => if b = j ∧ a < i then 0 else T x y a b) := by
  unfold st
  rw [tabR_at hb, if_neg (by omega)]
theorem st_zero {j : Nat} (hj : j < y.length) : (st x y (j + 1) 0).set j (List.replicate (x.length + 1) 0) = st x y j x.length := by
  unfold st
  rw [tabR_set]
  refine tabR_congr fun b hb => ?_
  by_cases e : b = j
  · subst e
    rw [if_pos rfl, if_neg (by omega)]
    unfold rowF
    apply List.ext_getElem
    · simp
    · intro a h1 h2
      simp only [List.getElem_replicate, List.getElem_map, List.getElem_range]
      by_cases ha : a < x.length
      · rw [if_pos ⟨by trivial, ha⟩]
      · obtain rfl : a = x.length := by simp at h1; omega
        rw [if_neg (by omega), T_end1]
  · rw [if_neg e]
    by_cases e2 : b < j
    · rw [if_pos e2, if_pos (by omega)]
    · rw [if_neg e2, if_neg (by omega)]
      refine rowF_congr fun a ha => ?_
      rw [if_neg (by omega), if_neg (by omega)]
theorem st_top : (List.replicate (y.length + 1) ([] : List Int)).set y.length (List.replicate (x.length + 1) 0) = st x y y.length 0 := by
  unfold st
  have e : List.replicate (y.length + 1) ([] : List Int) = tabR y.length (fun _ => []) := by
    unfold tabR
    rw [List.map_const', List.length_range]
  rw [e, tabR_set]
  refine tabR_congr fun b hb => ?_
  by_cases e : b = y.length
  · subst e
    rw [if_pos rfl, if_neg (by omega)]
    unfold rowF
    apply List.ext_getElem
    · simp
    · intro a h1 h2
      simp only [List.getElem_replicate, List.getElem_map, List.getElem_range]
      rw [if_neg (by omega), T_end2]
  · rw [if_neg e, if_pos (by omega)]
theorem st_set {j i : Nat} (hj : j ≤ y.length) (v : Int) (hv : v = T x y i j) : (st x y j (i + 1)).set j ((rd_L4 (st x y j (i + 1)) (j : Int)).set i v) = st x y j i := by
  rw [st_row x y hj (Nat.le_refl _), rowF_set]
  unfold st
  rw [tabR_set]
  refine tabR_congr fun b hb => ?_
  by_cases e : b = j
  · subst e
    rw [if_pos rfl, if_neg (by omega)]
    refine rowF_congr fun a ha => ?_
    by_cases e2 : a = i
    · subst e2
      rw [if_pos rfl, if_neg (by omega), hv]
    · rw [if_neg e2]
      by_cases e3 : a < i
      · rw [if_pos ⟨rfl, by omega⟩, if_pos ⟨rfl, e3⟩]
      · rw [if_neg (by omega), if_neg (by omega)]
  · rw [if_neg e]
    by_cases e2 : b < j
    · rw [if_pos e2, if_pos e2]
    · rw [if_neg e2, if_neg e2]
      refine rowF_congr fun a ha => ?_
      rw [if_neg (by omega), if_neg (by omega)]

variable (hx : x.length ≤ 1000000) (hy : y.length ≤ 1000000)
include hx hy
theorem suff_l1 (r : List (List Int)) (j : Nat) (hj : j < y.length) (h0 : Ev (fun k => changeforgeref1_suffixes.l0 k x y (st x y j 0) ((j : Int) - 1)) r) :
    ∀ i, i ≤ x.length → Ev (fun k => changeforgeref1_suffixes.l1 k x y (st x y j i) (j : Int) ((i : Int) - 1)) r := by
  intro i
  induction i with
  | zero =>
    intro _
    obtain ⟨K, h1⟩ := h0
    refine ⟨K + 1, fun k hk => ?_⟩
    obtain ⟨m, rfl⟩ : ∃ m, k = m + 1 := ⟨k - 1, by omega⟩
    have h := h1 m (by omega)
    simp only [changeforgeref1_suffixes.l1]
    rw [if_neg (by omega), show wrap64 ((j : Int) - 1) = (j : Int) - 1 from wrap64_id (by omega) (by omega)]
    exact h
  | succ i ih =>
    intro hi
    have hil : i < x.length := by omega
    obtain ⟨K, h1⟩ := ih (by omega)
    have r0 := st_row x y (i := i + 1) (show j ≤ y.length by omega) (Nat.le_refl j)
    have r1 := st_row x y (j := j) (i := i + 1) (b := j + 1) (show j + 1 ≤ y.length by omega) (by omega)
    have hL := st_length x y j (i + 1)
    have a1 : rd (rowF x.length (fun a => if j + 1 = j ∧ a < i + 1 then 0 else T x y a (j + 1))) (i : Int) = T x y i (j + 1) := by
      rw [rowF_at (by omega), if_neg (by omega)]
    have a2 : rd (rowF x.length (fun a => if j = j ∧ a < i + 1 then 0 else T x y a j)) ((i + 1 : Nat) : Int) = T x y (i + 1) j := by
      rw [rowF_at (by omega), if_neg (by omega)]
    have a3 : rd (rowF x.length (fun a => if j + 1 = j ∧ a < i + 1 then 0 else T x y a (j + 1))) ((i + 1 : Nat) : Int) = T x y (i + 1) (j + 1) := by
      rw [rowF_at (by omega), if_neg (by omega)]
    have hT := T_step x y hil hj
    have m1 := T_mono1 x y (j := j + 1) hil
    have m2 := T_mono2 x y (i := i + 1) hj
    have b1 := T_bound x y (i + 1) (j + 1)
    refine ⟨K + 3, fun k hk => ?_⟩
    obtain ⟨m, rfl⟩ : ∃ m, k = m + 1 := ⟨k - 1, by omega⟩
    have h := h1 m (by omega)
    dsimp only at h ⊢
    rw [show ((i + 1 : Nat) : Int) - 1 = (i : Int) by omega]
    have fin : ∀ v, v = T x y i j → (if (i : Int) < ((rowF x.length (fun a => if j = j ∧ a < i + 1 then 0 else T x y a j)).length : Int) then changeforgeref1_suffixes.l1 m x y ((st x y j (i + 1)).set j ((rowF x.length (fun a => if j = j ∧ a < i + 1 then 0 else T x y a j)).set i v)) (j : Int) ((i : Int) - 1) else none) = some r := by
      intro v hv
      have hs := st_set x y (i := i) (show j ≤ y.length by omega) v hv
      rw [r0] at hs
      rw [if_pos (by rw [rowF_length]; omega), hs]
      exact h
    simp only [changeforgeref1_suffixes.l1]
    rw [wrap64_succ (show i < 9223372036854775807 by omega), wrap64_succ (show j < 9223372036854775807 by omega), show wrap64 ((i : Int) - 1) = (i : Int) - 1 from wrap64_id (by omega) (by omega)]
    rw [if_pos (by omega), if_pos (by omega), if_pos (by omega), if_pos (by omega), r1, r0, if_pos (by rw [rowF_length]; omega), if_pos (by omega), if_pos (by omega), if_pos (by omega), if_pos (by rw [rowF_length]; omega), a1, a2, a3, rdOf_nat hil, rdOf_nat hj, wrap64_id (x := T x y (i + 1) (j + 1) + 1) (by omega) (by omega), Int.toNat_natCast, Int.toNat_natCast]
    by_cases he : x[i] = y[j]
    · rw [if_pos he] at hT
      by_cases hg : T x y (i + 1) j > T x y i (j + 1)
      · rw [if_pos hg, if_pos (by omega), if_pos (by omega), if_pos ((bytes_eq _ _).2 he), if_pos (by rw [rowF_length]; omega)]
        by_cases hg2 : T x y (i + 1) (j + 1) + 1 > T x y (i + 1) j
        · rw [if_pos hg2]
          exact fin _ (by omega)
        · rw [if_neg hg2]
          exact fin _ (by omega)
      · rw [if_neg hg, if_pos (by omega), if_pos (by omega), if_pos ((bytes_eq _ _).2 he), if_pos (by rw [rowF_length]; omega)]
        by_cases hg2 : T x y (i + 1) (j + 1) + 1 > T x y i (j + 1)
        · rw [if_pos hg2]
          exact fin _ (by omega)
        · rw [if_neg hg2]
          exact fin _ (by omega)
    · rw [if_neg he] at hT
      by_cases hg : T x y (i + 1) j > T x y i (j + 1)
      · rw [if_pos hg, if_pos (by omega), if_pos (by omega), if_neg (fun h => he ((bytes_eq _ _).1 h))]
        exact fin _ (by omega)
      · rw [if_neg hg, if_pos (by omega), if_pos (by omega), if_neg (fun h => he ((bytes_eq _ _).1 h))]
        exact fin _ (by omega)
theorem suff_l0 : ∀ j, j ≤ y.length → Ev (fun k => changeforgeref1_suffixes.l0 k x y (st x y j 0) ((j : Int) - 1)) (st x y 0 0) := by
  intro j
  induction j with
  | zero =>
    intro _
    refine ⟨1, fun k hk => ?_⟩
    obtain ⟨m, rfl⟩ : ∃ m, k = m + 1 := ⟨k - 1, by omega⟩
    simp only [changeforgeref1_suffixes.l0]
    rw [if_neg (by omega)]
  | succ j ih =>
    intro hj
    obtain ⟨K, h1⟩ := suff_l1 x y hx hy (st x y 0 0) j (by omega) (ih (by omega)) x.length (Nat.le_refl _)
    refine ⟨K + 1, fun k hk => ?_⟩
    obtain ⟨m, rfl⟩ : ∃ m, k = m + 1 := ⟨k - 1, by omega⟩
    have h := h1 m (by omega)
    dsimp only at h ⊢
    rw [show ((j + 1 : Nat) : Int) - 1 = (j : Int) by omega]
    simp only [changeforgeref1_suffixes.l0]
    rw [wrap64_succ (show x.length < 9223372036854775807 by omega), if_pos (by omega), if_pos (by omega), if_pos (by omega), if_pos (by omega), if_pos (by rw [st_length]; omega), Option.bind_some, if_neg (by omega), Int.toNat_natCast, Int.toNat_natCast, st_zero x y (by omega), show wrap64 ((x.length : Int) - 1) = (x.length : Int) - 1 from wrap64_id (by omega) (by omega)]
    exact h
theorem suffixes_ev : Ev (fun k => changeforgeref1_suffixes.f k x y) (st x y 0 0) := by
  obtain ⟨K, h1⟩ := suff_l0 x y hx hy y.length (Nat.le_refl _)
  refine ⟨K + 1, fun k hk => ?_⟩
  obtain ⟨m, rfl⟩ : ∃ m, k = m + 1 := ⟨k - 1, by omega⟩
  have h := h1 m (by omega)
  unfold changeforgeref1_suffixes.f
  dsimp only at h ⊢
  rw [wrap64_succ (show y.length < 9223372036854775807 by omega), if_pos (by omega), if_pos (by omega), Int.toNat_natCast]
  simp only [changeforgeref1_suffixes.l0]
  rw [wrap64_succ (show x.length < 9223372036854775807 by omega), if_pos (by omega), if_pos (by omega), if_pos (by omega), if_pos (by omega), if_pos (by simp; omega), Option.bind_some, if_pos (by trivial), Int.toNat_natCast, Int.toNat_natCast, st_top, show wrap64 ((y.length : Int) - 1) = (y.length : Int) - 1 from wrap64_id (by omega) (by omega)]
  exact h
omit hx hy in
theorem st_at {i j : Nat} (hi : i ≤ x.length) (hj : j ≤ y.length) : rd (rd_L4 (st x y 0 0) (j : Int)) (i : Int) = T x y i j := by
  rw [st_row x y hj (by omega), rowF_at hi, if_neg (by omega)]
omit hx hy in
theorem st_len {j : Nat} (hj : j ≤ y.length) : (rd_L4 (st x y 0 0) (j : Int)).length = x.length + 1 := by
  rw [st_row x y hj (by omega), rowF_length]

abbrev Stp := S51
omit hx hy in
def stp (p : Int × ByteArray) : Stp := ⟨p.1, p.2⟩
theorem Align_l0 (acc0 : Nat) (hacc0 : acc0 ≤ 2000000) : ∀ (d i j : Nat), x.length - i + (y.length - j) = d → i ≤ x.length → j ≤ y.length → ∀ acc : List Stp, acc.length + d ≤ acc0 →
    Ev (fun k => changeforgeref1_Align.l0 k x y (st x y 0 0) acc (i : Int) (j : Int)) (acc ++ (walk (x.drop i) (y.drop j)).map stp) := by
  intro d
  induction d using Nat.strongRecOn with
  | _ d ih =>
  intro i j hd hi hj acc hacc
  by_cases hiN : i = x.length
  · subst hiN
    rw [List.drop_length]
    by_cases hjN : j = y.length
    · subst hjN
      rw [List.drop_length, walk]
      refine ⟨2, fun k hk => ?_⟩
      obtain ⟨m, rfl⟩ : ∃ m, k = m + 2 := ⟨k - 2, by omega⟩
      simp only [changeforgeref1_Align.l0, changeforgeref1_Align.j1]
      rw [if_neg (by omega), if_neg (by simp)]
      simp
    · have hjl : j < y.length := by omega
      obtain ⟨K, h1⟩ := ih (x.length - x.length + (y.length - (j + 1))) (by omega) x.length (j + 1) rfl hi (by omega) (acc ++ [stp (2, y[j])]) (by simp; omega)
      refine ⟨K + 3, fun k hk => ?_⟩
      obtain ⟨m, rfl⟩ : ∃ m, k = m + 3 := ⟨k - 3, by omega⟩
      have h := h1 m (by omega)
      simp only [changeforgeref1_Align.l0, changeforgeref1_Align.j1, changeforgeref1_Align.j2]
      rw [if_neg (by omega), if_pos (by simp; omega), if_neg (by omega), if_neg (by simp), if_neg (by omega), if_neg (by omega), if_pos (by omega), if_pos (by omega), if_pos (by omega), rdOf_nat hjl, wrap64_succ (by omega)]
      rw [List.drop_eq_getElem_cons hjl, walk]
      rw [List.drop_length] at h
      simpa [stp] using h
  · have hil : i < x.length := by omega
    have e1 := List.drop_eq_getElem_cons hil
    have goB : walk (x.drop i) (y.drop j) = (1, x[i]) :: walk (x.drop (i + 1)) (y.drop j) →
        Ev (fun k => changeforgeref1_Align.l0 k x y (st x y 0 0) (acc ++ [stp (1, x[i])]) ((i + 1 : Nat) : Int) (j : Int)) (acc ++ (walk (x.drop i) (y.drop j)).map stp) := by
      intro e
      have := ih (x.length - (i + 1) + (y.length - j)) (by omega) (i + 1) j rfl (by omega) hj (acc ++ [stp (1, x[i])]) (by simp; omega)
      rw [e]
      simpa using this
    by_cases hjN : j = y.length
    · subst hjN
      obtain ⟨K, h1⟩ := goB (by rw [List.drop_length, e1, walk])
      refine ⟨K + 3, fun k hk => ?_⟩
      obtain ⟨m, rfl⟩ : ∃ m, k = m + 3 := ⟨k - 3, by omega⟩
      have h := h1 m (by omega)
      simp only [changeforgeref1_Align.l0, changeforgeref1_Align.j1, changeforgeref1_Align.j2]
      rw [if_pos (by omega), if_pos (by trivial), if_pos (by omega), if_neg (by omega), if_neg (by simp), if_pos (by trivial), if_pos (by omega), if_pos (by omega), if_pos (by omega), rdOf_nat hil, wrap64_succ (by omega)]
      exact h
    · have hjl : j < y.length := by omega
      have e2 := List.drop_eq_getElem_cons hjl
      by_cases he : x[i] = y[j]
      · obtain ⟨K, h1⟩ := ih (x.length - (i + 1) + (y.length - (j + 1))) (by omega) (i + 1) (j + 1) rfl (by omega) (by omega) (acc ++ [stp (0, x[i])]) (by simp; omega)
        refine ⟨K + 3, fun k hk => ?_⟩
        obtain ⟨m, rfl⟩ : ∃ m, k = m + 3 := ⟨k - 3, by omega⟩
        have h := h1 m (by omega)
        simp only [changeforgeref1_Align.l0, changeforgeref1_Align.j1, changeforgeref1_Align.j2]
        rw [if_pos (by omega), if_pos (by trivial), if_pos (by omega), if_pos (by omega), if_pos (by omega), if_pos (by omega), rdOf_nat hil, rdOf_nat hjl, if_pos (by rw [he]; simp), if_pos (by omega), if_pos (by omega), if_pos (by omega), wrap64_succ (by omega), wrap64_succ (by omega)]
        rw [e1, e2, walk, if_pos he]
        simpa [stp] using h
      · have hne : ¬ ((x[i].toList == y[j].toList) = true) := by
          simp only [beq_iff_eq, bytes_eq]
          exact he
        have hT : (T x y (i + 1) j ≥ T x y i (j + 1)) ↔ lcs (x.drop (i + 1)) (y.drop j) ≥ lcs (x.drop i) (y.drop (j + 1)) := by unfold T; omega
        by_cases hge : lcs (x.drop (i + 1)) (y.drop j) ≥ lcs (x.drop i) (y.drop (j + 1))
        · obtain ⟨K, h1⟩ := goB (by rw [e1, e2, walk, if_neg he, if_pos (by rw [← e1, ← e2]; exact hge)])
          refine ⟨K + 3, fun k hk => ?_⟩
          obtain ⟨m, rfl⟩ : ∃ m, k = m + 3 := ⟨k - 3, by omega⟩
          have h := h1 m (by omega)
          simp only [changeforgeref1_Align.l0, changeforgeref1_Align.j1, changeforgeref1_Align.j2]
          rw [if_pos (by omega), if_pos (by trivial), if_pos (by omega), if_pos (by omega), if_pos (by omega), if_pos (by omega), rdOf_nat hil, rdOf_nat hjl, if_neg hne, if_neg (by omega), if_pos (by omega), if_pos (by omega), if_pos (by rw [st_length]; omega), wrap64_succ (show i < 9223372036854775807 by omega), wrap64_succ (show j < 9223372036854775807 by omega), if_pos (by omega), if_pos (by rw [st_len x y hj]; omega), if_pos (by omega), if_pos (by rw [st_length]; omega), if_pos (by omega), if_pos (by rw [st_len x y (by omega)]; omega), st_at x y (by omega) hj, st_at x y (by omega) (by omega), if_pos (hT.2 hge), if_pos (by omega)]
          exact h
        · obtain ⟨K, h1⟩ := ih (x.length - i + (y.length - (j + 1))) (by omega) i (j + 1) rfl hi (by omega) (acc ++ [stp (2, y[j])]) (by simp; omega)
          refine ⟨K + 3, fun k hk => ?_⟩
          obtain ⟨m, rfl⟩ : ∃ m, k = m + 3 := ⟨k - 3, by omega⟩
          have h := h1 m (by omega)
          simp only [changeforgeref1_Align.l0, changeforgeref1_Align.j1, changeforgeref1_Align.j2]
          rw [if_pos (by omega), if_pos (by trivial), if_pos (by omega), if_pos (by omega), if_pos (by omega), if_pos (by omega), rdOf_nat hil, rdOf_nat hjl, if_neg hne, if_neg (by omega), if_pos (by omega), if_pos (by omega), if_pos (by rw [st_length]; omega), wrap64_succ (show i < 9223372036854775807 by omega), wrap64_succ (show j < 9223372036854775807 by omega), if_pos (by omega), if_pos (by rw [st_len x y hj]; omega), if_pos (by omega), if_pos (by rw [st_length]; omega), if_pos (by omega), if_pos (by rw [st_len x y (by omega)]; omega), st_at x y (by omega) hj, st_at x y (by omega) (by omega), if_neg (fun h => hge (hT.1 h)), if_pos (by omega), if_pos (by omega)]
          rw [show walk (x.drop i) (y.drop j) = (2, y[j]) :: walk (x.drop i) (y.drop (j + 1)) by
            rw [e2, e1, walk, if_neg he, if_neg (by rw [← e1, ← e2]; exact hge)]]
          simpa [stp] using h
theorem Align_ev : Ev (fun k => changeforgeref1_Align.f k x y) ((walk x y).map stp) := by
  obtain ⟨K1, h1⟩ := suffixes_ev x y hx hy
  obtain ⟨K2, h2⟩ := Align_l0 x y hx hy (x.length + y.length) (by omega) (x.length - 0 + (y.length - 0)) 0 0 rfl (by omega) (by omega) [] (by simp)
  refine ⟨max K1 K2, fun k hk => ?_⟩
  have a1 := h1 k (by omega)
  have a2 := h2 k (by omega)
  dsimp only at a1 a2
  unfold changeforgeref1_Align.f
  dsimp only
  rw [a1, Option.bind_some]
  simpa using a2
end
end Go.Proofs.Ytidnkaopndmigaa.PL
