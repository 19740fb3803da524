/- A single line follows a text just if it occurs in it. -/
import Derived.Test.YtidnkaopndmigaaPL
import Derived.Test.YtidnkaopndmigaaPx12
namespace Go.Proofs.Ytidnkaopndmigaa.PL
open Go.RowKit Go.Proofs.YtidnkaopndmigaaW.PrintWords Go.Proofs.YtidnkaopndmigaaW.PrintMore Go.Proofs.Ytidnkaopndmigaa.P
/-- Whether a line occurs. -/
def hasL (s : ByteArray) (y : List ByteArray) : Bool := y.any fun a => decide (a = s)
theorem hasL_iff (s : ByteArray) (y : List ByteArray) : hasL s y = true ↔ s ∈ y := by
  simp [hasL]
theorem hasL_cons (s a : ByteArray) (y : List ByteArray) : hasL s (a :: y) = (decide (a = s) || hasL s y) := rfl
theorem follows_done (s : ByteArray) (y : List ByteArray) (j : Int) (r : Bool) (hr : r = true) : Ev (fun k => changeforgelaw2_follows.l0 k [s] y 1 j) r := by
  subst hr
  refine ⟨2, fun k hk => ?_⟩
  obtain ⟨m, rfl⟩ : ∃ m, k = m + 2 := ⟨k - 2, by omega⟩
  simp only [changeforgelaw2_follows.l0, changeforgelaw2_follows.j1]
  by_cases h : j < (y.length : Int)
  · rw [if_pos h, if_neg (by simp)]
    simp
  · rw [if_neg h, if_neg (by simp)]
    simp
theorem follows_l0 (s : ByteArray) (y : List ByteArray) (hy : y.length ≤ 1000000000) : ∀ (d i : Nat), y.length = i + d → Ev (fun k => changeforgelaw2_follows.l0 k [s] y 0 (i : Int)) (hasL s (y.drop i)) := by
  intro d
  induction d with
  | zero =>
    intro i hi
    refine ⟨2, fun k hk => ?_⟩
    obtain ⟨m, rfl⟩ : ∃ m, k = m + 2 := ⟨k - 2, by omega⟩
    simp only [changeforgelaw2_follows.l0, changeforgelaw2_follows.j1]
    rw [if_neg (by omega), if_neg (by simp), List.drop_eq_nil_of_le (by omega)]
    rfl
  | succ d ih =>
    intro i hi
    have hil : i < y.length := by omega
    have e := List.drop_eq_getElem_cons hil
    have hrd : rdOf ByteArray.empty [s] 0 = s := rfl
    by_cases h : y[i] = s
    · obtain ⟨K, hK⟩ := follows_done s y ((i + 1 : Nat) : Int) true rfl
      refine ⟨K + 2, fun k hk => ?_⟩
      obtain ⟨m, rfl⟩ : ∃ m, k = m + 2 := ⟨k - 2, by omega⟩
      have a := hK m (by omega)
      simp only [changeforgelaw2_follows.l0, changeforgelaw2_follows.j1]
      rw [if_pos (by omega), if_pos (by simp), if_pos (by omega), if_pos (by omega), if_pos (by omega), if_pos (by simp), rdOf_nat hil, hrd, if_pos (by rw [h]), wrap64_succ (by omega), show wrap64 (0 + 1) = 1 from wrap64_id (by omega) (by omega), e, hasL_cons, decide_eq_true h, Bool.true_or]
      exact a
    · obtain ⟨K, hK⟩ := ih (i + 1) (by omega)
      refine ⟨K + 2, fun k hk => ?_⟩
      obtain ⟨m, rfl⟩ : ∃ m, k = m + 2 := ⟨k - 2, by omega⟩
      have a := hK m (by omega)
      dsimp only at a
      simp only [changeforgelaw2_follows.l0, changeforgelaw2_follows.j1]
      rw [if_pos (by omega), if_pos (by simp), if_pos (by omega), if_pos (by omega), if_pos (by omega), if_pos (by simp), rdOf_nat hil, hrd, if_neg (fun h2 => h ((bytes_eq _ _).1 h2)), wrap64_succ (by omega), a, e]
      rw [hasL_cons, decide_eq_false h, Bool.false_or]
theorem follows_one (s : ByteArray) (y : List ByteArray) (hy : y.length ≤ 1000000000) : Ev (fun k => changeforgelaw2_follows.f k [s] y) (hasL s y) := by
  obtain ⟨K, hK⟩ := follows_l0 s y hy y.length 0 (by omega)
  refine ⟨K, fun k hk => ?_⟩
  have := hK k hk
  unfold changeforgelaw2_follows.f
  simpa using this
theorem slice_one {l : List ByteArray} {i : Nat} (h : i < l.length) : (l.take (i + 1)).drop i = [l[i]] := by
  rw [List.take_add_one, List.getElem?_eq_getElem h, List.drop_append_of_le_length (by simp; omega), List.drop_eq_nil_of_le (by simp; omega)]
  rfl
end Go.Proofs.Ytidnkaopndmigaa.PL
