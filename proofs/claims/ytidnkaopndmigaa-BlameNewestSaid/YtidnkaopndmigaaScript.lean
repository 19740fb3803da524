/- What diff.Script comes to: the hunks of the walk along both texts. -/
import Derived.Test.YtidnkaopndmigaaWalk
import Derived.Test.YtidnkaopndmigaaLines
import Derived.Test.YtidnkaopndmigaaMeasure
import Derived.Test.YtidnkaopndmigaaPx5
namespace Go.Proofs.Ytidnkaopndmigaa.PL
open Go.RowKit Go.Proofs.YtidnkaopndmigaaW.PrintWords Go.Proofs.YtidnkaopndmigaaW.PrintMore Go.Proofs.Ytidnkaopndmigaa.P

abbrev Hk := S42
/-- The hunks, from line i on. -/
def hs (i : Nat) (x y : List ByteArray) : List Hk :=
  if h : 0 < (run x y).1.length + (run x y).2.length then
    (⟨(i : Int), (run x y).1, (run x y).2⟩ : Hk) :: hs (i + (run x y).1.length) (x.drop (run x y).1.length) (y.drop (run x y).2.length)
  else match x, y with
    | _ :: x, _ :: y => hs (i + 1) x y
    | _, _ => []
termination_by x.length + y.length
decreasing_by
  · have := run_length x y
    simp only [List.length_drop]
    omega
  · simp only [List.length_cons]
    omega

theorem hs_run {i : Nat} {x y : List ByteArray} (h : 0 < (run x y).1.length + (run x y).2.length) :
    hs i x y = (⟨(i : Int), (run x y).1, (run x y).2⟩ : Hk) :: hs (i + (run x y).1.length) (x.drop (run x y).1.length) (y.drop (run x y).2.length) := by
  rw [hs, dif_pos h]
theorem hs_same (i : Nat) (a : ByteArray) (x y : List ByteArray) : hs i (a :: x) (a :: y) = hs (i + 1) x y := by
  rw [hs, dif_neg (by rw [run_same]; simp)]
theorem hs_nil (i : Nat) : hs i [] [] = [] := by
  rw [hs, dif_neg (by rw [run_nil]; simp)]

section
variable (x y : List ByteArray) (hx : x.length ≤ 120) (hy : y.length ≤ 120)
/-- Where a run ends: the hunk is put on, or the common line passed by. -/
def tgt (acc : List Hk) (i j : Nat) (at_ : Int) (old new : List ByteArray) (k : Nat) : Option (List Hk × Int × Int) :=
  if wrap64 ((old.length : Int) + (new.length : Int)) > 0 then (if acc.length < 2513169434916 then diff_Script.l0 k x y (tab x.length y.length (T x y)) (i : Int) (j : Int) (acc ++ [(⟨at_, old, new⟩ : Hk)]) else none)
  else diff_Script.l0 k x y (tab x.length y.length (T x y)) (wrap64 ((i : Int) + 1)) (wrap64 ((j : Int) + 1)) acc
include hx hy in
theorem run_l1 (acc : List Hk) (at_ : Int) (v : List Hk × Int × Int) : ∀ (d i j : Nat), x.length - i + (y.length - j) = d → i ≤ x.length → j ≤ y.length → ∀ (old new : List ByteArray), old.length + new.length + d ≤ 240 →
    Ev (fun k => tgt x y acc (i + (run (x.drop i) (y.drop j)).1.length) (j + (run (x.drop i) (y.drop j)).2.length) at_ (old ++ (run (x.drop i) (y.drop j)).1) (new ++ (run (x.drop i) (y.drop j)).2) k) v →
    Ev (fun k => diff_Script.l1 k x y (tab x.length y.length (T x y)) (i : Int) (j : Int) acc at_ old new) v := by
  intro d
  induction d with
  | zero =>
    intro i j hd hi hj old new hb ⟨K, hK⟩
    obtain rfl : i = x.length := by omega
    obtain rfl : j = y.length := by omega
    refine ⟨K + 3, fun k hk => ?_⟩
    obtain ⟨m, rfl⟩ : ∃ m, k = m + 2 := ⟨k - 2, by omega⟩
    have h1 := hK m (by omega)
    rw [List.drop_length, List.drop_length, run_nil] at h1
    simp only [List.length_nil, Nat.add_zero, List.append_nil] at h1
    simp only [diff_Script.l1, diff_Script.j3]
    rw [if_neg (by omega), if_neg (by omega)]
    rw [if_neg (by simp)]
    exact h1
  | succ d ih =>
    intro i j hd hi hj old new hb hE
    by_cases hiN : i = x.length
    · -- only lines to put in
      subst hiN
      have hjl : j < y.length := by omega
      rw [List.drop_length, run_nil] at hE
      simp only [List.length_nil, Nat.add_zero, List.append_nil] at hE
      have e2 : y.drop j = y[j] :: y.drop (j + 1) := List.drop_eq_getElem_cons hjl
      obtain ⟨K, hK⟩ := ih x.length (j + 1) (by omega) hi (by omega) old (new ++ [y[j]]) (by simp; omega) (by
        rw [List.drop_length, run_nil]
        simp only [List.length_nil, Nat.add_zero, List.append_nil]
        rw [show j + 1 + (y.drop (j + 1)).length = j + (y.drop j).length by rw [e2]; simp; omega, List.append_assoc, List.singleton_append, ← e2]
        exact hE)
      refine ⟨K + 3, fun k hk => ?_⟩
      obtain ⟨m, rfl⟩ : ∃ m, k = m + 3 := ⟨k - 3, by omega⟩
      have h1 := hK m (by omega)
      simp only [diff_Script.l1, diff_Script.j3, diff_Script.j4]
      rw [if_neg (by omega), if_pos (by omega), if_pos (by trivial), if_pos (by trivial), if_neg (by omega), if_neg (by omega), if_neg (by simp), if_pos (by omega), if_pos (by omega), if_pos (by omega), rdOf_nat hjl, wrap64_succ (by omega)]
      exact h1
    · have hil : i < x.length := by omega
      have e1 : x.drop i = x[i] :: x.drop (i + 1) := List.drop_eq_getElem_cons hil
      -- a line taken away
      have stepB : (run (x.drop i) (y.drop j) = (x[i] :: (run (x.drop (i + 1)) (y.drop j)).1, (run (x.drop (i + 1)) (y.drop j)).2)) →
          Ev (fun k => diff_Script.l1 k x y (tab x.length y.length (T x y)) ((i + 1 : Nat) : Int) (j : Int) acc at_ (old ++ [x[i]]) new) v := by
        intro er
        refine ih (i + 1) j (by omega) (by omega) hj (old ++ [x[i]]) new (by simp; omega) ?_
        rw [er] at hE
        simp only [List.length_cons] at hE
        rw [show i + 1 + (run (x.drop (i + 1)) (y.drop j)).1.length = i + ((run (x.drop (i + 1)) (y.drop j)).1.length + 1) by omega, List.append_assoc, List.singleton_append]
        exact hE
      by_cases hjN : j = y.length
      · subst hjN
        obtain ⟨K, hK⟩ := stepB (by rw [List.drop_length, e1, run_nil2, run_nil2])
        refine ⟨K + 3, fun k hk => ?_⟩
        obtain ⟨m, rfl⟩ : ∃ m, k = m + 3 := ⟨k - 3, by omega⟩
        have h1 := hK m (by omega)
        simp only [diff_Script.l1, diff_Script.j3, diff_Script.j4]
        rw [if_pos (by omega), if_neg (by omega), if_pos (by trivial), if_pos (by trivial), if_pos (by trivial), if_pos (by trivial), if_pos (by omega), if_pos (by omega), if_pos (by omega), rdOf_nat hil, wrap64_succ (by omega)]
        exact h1
      · have hjl : j < y.length := by omega
        have e2 : y.drop j = y[j] :: y.drop (j + 1) := List.drop_eq_getElem_cons hjl
        by_cases heq : x[i] = y[j]
        · -- the same line: the run is at its end
          rw [e1, e2, heq, run_same] at hE
          simp only [List.length_nil, Nat.add_zero, List.append_nil] at hE
          obtain ⟨K, hK⟩ := hE
          refine ⟨K + 2, fun k hk => ?_⟩
          obtain ⟨m, rfl⟩ : ∃ m, k = m + 2 := ⟨k - 2, by omega⟩
          have h1 := hK m (by omega)
          simp only [diff_Script.l1, diff_Script.j3]
          rw [if_pos (by omega), if_neg (by omega), if_neg (by omega), if_pos (by omega), if_pos (by omega), if_pos (by omega), rdOf_nat hil, rdOf_nat hjl, if_neg (by rw [heq]; simp)]
          exact h1
        · have hne : ((x[i].toList != y[j].toList) = true) := by
            simp only [bne_iff_ne, ne_eq, bytes_eq]
            exact heq
          have hb1 := tab_row_length (n := x.length) (m := y.length) (f := T x y) (i := i) hi
          have hb2 := tab_row_length (n := x.length) (m := y.length) (f := T x y) (i := i + 1) (by omega)
          have hT : (T x y (i + 1) j ≥ T x y i (j + 1)) ↔ lcs (x.drop (i + 1)) (y.drop j) ≥ lcs (x.drop i) (y.drop (j + 1)) := by unfold T; omega
          by_cases hge : lcs (x.drop (i + 1)) (y.drop j) ≥ lcs (x.drop i) (y.drop (j + 1))
          · obtain ⟨K, hK⟩ := stepB (by
              rw [e1, e2, run, if_neg heq, if_pos (by rw [← e1, ← e2]; exact hge)])
            refine ⟨K + 3, fun k hk => ?_⟩
            obtain ⟨m, rfl⟩ : ∃ m, k = m + 3 := ⟨k - 3, by omega⟩
            have h1 := hK m (by omega)
            simp only [diff_Script.l1, diff_Script.j3, diff_Script.j4]
            rw [if_pos (by omega), if_neg (by omega), if_neg (by omega), if_pos (by omega), if_pos (by omega), if_pos (by omega), rdOf_nat hil, rdOf_nat hjl, if_pos hne, if_neg (by omega), if_pos (by omega), wrap64_succ (show i < 9223372036854775807 by omega), wrap64_succ (show j < 9223372036854775807 by omega), if_pos (by omega), tab_length, if_pos (by omega), if_pos (by omega), if_pos (by rw [hb2]; omega), if_pos (by omega), if_pos (by omega), if_pos (by omega), if_pos (by rw [hb1]; omega), tab_at (by omega) (by omega), tab_at (by omega) (by omega), if_pos (by simpa using hT.2 hge), if_pos (by omega), if_pos (by omega), if_pos (by omega)]
            exact h1
          · have er : run (x.drop i) (y.drop j) = ((run (x.drop i) (y.drop (j + 1))).1, y[j] :: (run (x.drop i) (y.drop (j + 1))).2) := by
              rw [e2, e1, run, if_neg heq, if_neg (by rw [← e1, ← e2]; exact hge)]
            obtain ⟨K, hK⟩ := ih i (j + 1) (by omega) hi (by omega) old (new ++ [y[j]]) (by simp; omega) (by
              rw [er] at hE
              simp only [List.length_cons] at hE
              rw [show j + 1 + (run (x.drop i) (y.drop (j + 1))).2.length = j + ((run (x.drop i) (y.drop (j + 1))).2.length + 1) by omega, List.append_assoc, List.singleton_append]
              exact hE)
            refine ⟨K + 3, fun k hk => ?_⟩
            obtain ⟨m, rfl⟩ : ∃ m, k = m + 3 := ⟨k - 3, by omega⟩
            have h1 := hK m (by omega)
            simp only [diff_Script.l1, diff_Script.j3, diff_Script.j4]
            rw [if_pos (by omega), if_neg (by omega), if_neg (by omega), if_pos (by omega), if_pos (by omega), if_pos (by omega), rdOf_nat hil, rdOf_nat hjl, if_pos hne, if_neg (by omega), if_pos (by omega), wrap64_succ (show i < 9223372036854775807 by omega), wrap64_succ (show j < 9223372036854775807 by omega), if_pos (by omega), tab_length, if_pos (by omega), if_pos (by omega), if_pos (by rw [hb2]; omega), if_pos (by omega), if_pos (by omega), if_pos (by omega), if_pos (by rw [hb1]; omega), tab_at (by omega) (by omega), tab_at (by omega) (by omega), if_neg (by simpa using fun h => hge (hT.1 h)), if_pos (by omega), if_pos (by omega), if_pos (by omega)]
            exact h1
include hx hy in
theorem Script_l0 : ∀ (d i j : Nat), x.length - i + (y.length - j) = d → i ≤ x.length → j ≤ y.length → ∀ acc : List Hk, acc.length ≤ i + j →
    Ev (fun k => diff_Script.l0 k x y (tab x.length y.length (T x y)) (i : Int) (j : Int) acc) (acc ++ hs i (x.drop i) (y.drop j), 0, 0) := by
  intro d
  induction d using Nat.strongRecOn with
  | _ d ih =>
  intro i j hd hi hj acc hacc
  by_cases h0 : i = x.length ∧ j = y.length
  · obtain ⟨rfl, rfl⟩ := h0
    refine ⟨2, fun k hk => ?_⟩
    obtain ⟨m, rfl⟩ : ∃ m, k = m + 2 := ⟨k - 2, by omega⟩
    simp only [diff_Script.l0, diff_Script.j1]
    rw [if_neg (by omega), if_neg (by simp), List.drop_length, List.drop_length, hs_nil, List.append_nil]
  · have hl := run_length (x.drop i) (y.drop j)
    simp only [List.length_drop] at hl
    have key : Ev (fun k => diff_Script.l1 k x y (tab x.length y.length (T x y)) (i : Int) (j : Int) acc (i : Int) [] []) (acc ++ hs i (x.drop i) (y.drop j), 0, 0) := by
      refine run_l1 x y hx hy acc (i : Int) _ d i j hd hi hj [] [] (by simp; omega) ?_
      simp only [List.nil_append]
      by_cases hr : 0 < (run (x.drop i) (y.drop j)).1.length + (run (x.drop i) (y.drop j)).2.length
      · obtain ⟨K, hK⟩ := ih (x.length - (i + (run (x.drop i) (y.drop j)).1.length) + (y.length - (j + (run (x.drop i) (y.drop j)).2.length))) (by omega) (i + (run (x.drop i) (y.drop j)).1.length) (j + (run (x.drop i) (y.drop j)).2.length) rfl (by omega) (by omega) (acc ++ [⟨(i : Int), (run (x.drop i) (y.drop j)).1, (run (x.drop i) (y.drop j)).2⟩]) (by simp; omega)
        refine ⟨K, fun k hk => ?_⟩
        have h1 := hK k hk
        dsimp only at h1 ⊢
        unfold tgt
        rw [wrap64_add (by omega), if_pos (by omega), if_pos (by omega), h1, hs_run hr, List.drop_drop, List.drop_drop, List.append_assoc]
        rfl
      · have e1 : (run (x.drop i) (y.drop j)).1 = [] := List.length_eq_zero_iff.1 (by omega)
        have e2 : (run (x.drop i) (y.drop j)).2 = [] := List.length_eq_zero_iff.1 (by omega)
        rcases run_end (x.drop i) (y.drop j) with ⟨h1, h2⟩ | ⟨a, x', y', h1, h2⟩
        · rw [e1] at h1
          rw [e2] at h2
          simp only [List.length_nil, List.drop_zero, List.drop_eq_nil_iff] at h1 h2
          omega
        · rw [e1] at h1
          rw [e2] at h2
          simp only [List.length_nil, List.drop_zero] at h1 h2
          have hil : i < x.length := by
            have := congrArg List.length h1
            simp only [List.length_drop, List.length_cons] at this
            omega
          have hjl : j < y.length := by
            have := congrArg List.length h2
            simp only [List.length_drop, List.length_cons] at this
            omega
          have hx' : x' = x.drop (i + 1) := by
            rw [List.drop_eq_getElem_cons hil] at h1
            exact ((List.cons.inj h1).2).symm
          have hy' : y' = y.drop (j + 1) := by
            rw [List.drop_eq_getElem_cons hjl] at h2
            exact ((List.cons.inj h2).2).symm
          obtain ⟨K, hK⟩ := ih (x.length - (i + 1) + (y.length - (j + 1))) (by omega) (i + 1) (j + 1) rfl (by omega) (by omega) acc (by omega)
          refine ⟨K, fun k hk => ?_⟩
          have h3 := hK k hk
          dsimp only at h3 ⊢
          unfold tgt
          rw [e1, e2, h1, h2, hs_same, hx', hy']
          simp only [List.length_nil, Nat.add_zero]
          rw [if_neg (by unfold wrap64; omega), wrap64_succ (by omega), wrap64_succ (by omega)]
          exact h3
    obtain ⟨K, hK⟩ := key
    refine ⟨K + 2, fun k hk => ?_⟩
    obtain ⟨m, rfl⟩ : ∃ m, k = m + 2 := ⟨k - 2, by omega⟩
    have h1 := hK m (by omega)
    simp only [diff_Script.l0, diff_Script.j1]
    by_cases hil : i < x.length
    · rw [if_pos (by omega), if_pos (by trivial)]
      exact h1
    · rw [if_neg (by omega), if_pos (by simp; omega)]
      exact h1
end
/-- THE SCRIPT. -/
def scrF (x y : List ByteArray) : List Hk × Int × Int := if (vTwo x y).1 = 0 then (hs 0 x y, 0, 0) else ([], vTwo x y)
theorem Script_ev (x y : List ByteArray) : Ev (fun k => diff_Script.f k x y) (scrF x y) := by
  obtain ⟨K1, h1⟩ := lines_Two_ev x y
  unfold scrF
  by_cases h : (vTwo x y).1 = 0
  · rw [if_pos h]
    obtain ⟨ox, oy⟩ := vTwo_zero.1 h
    have e0 := vTwo_ok ox oy
    obtain ⟨K2, h2⟩ := measure_ev x y (by have := ox.1; omega) (by have := oy.1; omega)
    obtain ⟨K3, h3⟩ := Script_l0 x y ox.1 oy.1 (x.length - 0 + (y.length - 0)) 0 0 rfl (by omega) (by omega) [] (by simp)
    refine ⟨max K1 (max K2 K3), fun k hk => ?_⟩
    unfold diff_Script.f
    dsimp only
    rw [show lines_Two.f k x y = some (vTwo x y) from h1 k (by omega), Option.bind_some, e0, if_neg (by simp), show diff_measure.f k x y = some _ from h2 k (by omega), Option.bind_some]
    have := h3 k (by omega)
    simpa using this
  · rw [if_neg h]
    refine ⟨K1, fun k hk => ?_⟩
    unfold diff_Script.f
    dsimp only
    rw [show lines_Two.f k x y = some (vTwo x y) from h1 k (by omega), Option.bind_some, if_pos (by
      simp only [Bool.or_eq_true, Bool.not_eq_true', beq_eq_false_iff_ne, ne_eq]
      exact Or.inl h)]
end Go.Proofs.Ytidnkaopndmigaa.PL
