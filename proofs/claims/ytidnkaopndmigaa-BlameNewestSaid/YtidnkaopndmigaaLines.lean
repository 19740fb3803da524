/- What the validation of lists of lines comes to. -/
import Derived.Test.YtidnkaopndmigaaPL
import Derived.Test.YtidnkaopndmigaaPx2
import Derived.Test.YtidnkaopndmigaaPx2
namespace Go.Proofs.Ytidnkaopndmigaa.PL
open Go.RowKit Go.Proofs.YtidnkaopndmigaaW.PrintWords Go.Proofs.YtidnkaopndmigaaW.PrintMore Go.Proofs.Ytidnkaopndmigaa.P

def nl (s : ByteArray) : Bool := decide (0 ≤ Go.Lib.indexByte s.data.toList 10)
def vfrom : List ByteArray → Int → Int × Int
  | [], _ => (0, 0)
  | s :: r, i => if s.size > 80 then (2, i) else if nl s = true then (5, i) else vfrom r (i + 1)
def vF (l : List ByteArray) : Int × Int := if l.length > 120 then (2, -1) else vfrom l 0
/-- A valid list of lines. -/
def okL (l : List ByteArray) : Prop := l.length ≤ 120 ∧ ∀ s ∈ l, s.size ≤ 80 ∧ nl s = false

theorem vfrom_zero (l : List ByteArray) (i : Int) : (vfrom l i).1 = 0 ↔ ∀ s ∈ l, s.size ≤ 80 ∧ nl s = false := by
  induction l generalizing i with
  | nil => simp [vfrom]
  | cons s r ih =>
    unfold vfrom
    by_cases h1 : s.size > 80
    · rw [if_pos h1]
      simp
      intro h
      omega
    · rw [if_neg h1]
      by_cases h2 : nl s = true
      · rw [if_pos h2]
        simp [h2]
      · rw [if_neg h2, ih]
        simp only [List.mem_cons, forall_eq_or_imp]
        simp only [Bool.not_eq_true] at h2
        simp [h2]
        omega
theorem vfrom_ok {l : List ByteArray} {i : Int} (h : ∀ s ∈ l, s.size ≤ 80 ∧ nl s = false) : vfrom l i = (0, 0) := by
  induction l generalizing i with
  | nil => rfl
  | cons s r ih =>
    have h1 := h s (by simp)
    unfold vfrom
    rw [if_neg (by omega), if_neg (by simp [h1.2])]
    exact ih (fun s hs => h s (by simp [hs]))
theorem vF_zero (l : List ByteArray) : (vF l).1 = 0 ↔ okL l := by
  unfold vF okL
  by_cases h : l.length > 120
  · rw [if_pos h]
    simp
    intro h2
    omega
  · rw [if_neg h, vfrom_zero]
    constructor
    · intro h2
      exact ⟨by omega, h2⟩
    · intro h2
      exact h2.2
theorem vF_ok {l : List ByteArray} (h : okL l) : vF l = (0, 0) := by
  unfold vF
  rw [if_neg (by have := h.1; omega)]
  exact vfrom_ok h.2
theorem vF_snd_zero {l : List ByteArray} (h : (vF l).1 = 0) : vF l = (0, 0) := vF_ok ((vF_zero l).1 h)

theorem lines_Validate_l0 (l : List ByteArray) (hl : l.length ≤ 120) : ∀ i, i ≤ l.length → Ev (fun k => lines_Validate.l0 k l (l.length : Int) (i : Int)) (vfrom (l.drop i) (i : Int)) := by
  refine Ev_up l.length (fun k i => lines_Validate.l0 k l (l.length : Int) (i : Int)) (fun i => vfrom (l.drop i) (i : Int)) ?_ ?_
  · refine ⟨1, fun k hk => ?_⟩
    obtain ⟨m, rfl⟩ : ∃ m, k = m + 1 := ⟨k - 1, by omega⟩
    simp only [lines_Validate.l0]
    rw [if_neg (by omega), List.drop_length]
    rfl
  · rintro i hi ⟨K, hK⟩
    refine ⟨K + 1, fun k hk => ?_⟩
    obtain ⟨m, rfl⟩ : ∃ m, k = m + 1 := ⟨k - 1, by omega⟩
    have h1 := hK m (by omega)
    simp only [lines_Validate.l0]
    rw [if_pos (by omega), if_pos (by omega), if_pos (by omega), rdOf_nat hi, wrap64_succ (by omega), List.drop_eq_getElem_cons hi]
    simp only [vfrom]
    by_cases h2 : l[i].size > 80
    · rw [if_pos (by omega), if_pos h2]
    · rw [if_neg (by omega), if_neg h2]
      have e : strings_ContainsRune.f l[i] 10 = some (nl l[i]) := by
        unfold strings_ContainsRune.f
        rw [if_pos (by decide)]
        rfl
      rw [e, Option.bind_some]
      by_cases h3 : nl l[i] = true
      · rw [if_pos h3, if_pos h3]
      · rw [if_neg h3, if_neg h3]
        exact h1
theorem lines_Validate_ev (l : List ByteArray) : Ev (fun k => lines_Validate.f k l) (vF l) := by
  unfold lines_Validate.f vF
  by_cases h : l.length > 120
  · rw [if_pos h]
    refine ⟨0, fun k _ => ?_⟩
    dsimp only
    rw [if_pos (by omega)]
  · rw [if_neg h]
    obtain ⟨K, hK⟩ := lines_Validate_l0 l (by omega) 0 (by omega)
    refine ⟨K, fun k hk => ?_⟩
    dsimp only
    rw [if_neg (by omega)]
    have := hK k hk
    simpa using this
theorem lines_Code_ev (l : List ByteArray) : Ev (fun k => lines_Code.f k l) (vF l).1 := by
  obtain ⟨K, hK⟩ := lines_Validate_ev l
  refine ⟨K, fun k hk => ?_⟩
  unfold lines_Code.f
  dsimp only
  rw [show lines_Validate.f k l = some (vF l) from hK k hk]
  rfl
def vTwo (a b : List ByteArray) : Int × Int := if (vF a).1 ≠ 0 then vF a else if (vF b).1 = 0 then (0, 0) else ((vF b).1, -2)
theorem vTwo_ok {a b : List ByteArray} (ha : okL a) (hb : okL b) : vTwo a b = (0, 0) := by
  unfold vTwo
  rw [vF_ok ha, vF_ok hb]
  rfl
theorem vTwo_zero {a b : List ByteArray} : (vTwo a b).1 = 0 ↔ okL a ∧ okL b := by
  unfold vTwo
  rw [← vF_zero, ← vF_zero]
  by_cases h : (vF a).1 = 0
  · simp only [h, ne_eq, not_true_eq_false, if_false, true_and]
    by_cases h2 : (vF b).1 = 0 <;> simp [h2]
  · simp [h]
theorem lines_Two_ev (a b : List ByteArray) : Ev (fun k => lines_Two.f k a b) (vTwo a b) := by
  obtain ⟨K1, h1⟩ := lines_Validate_ev a
  obtain ⟨K2, h2⟩ := lines_Code_ev b
  refine ⟨max K1 K2, fun k hk => ?_⟩
  unfold lines_Two.f
  dsimp only
  rw [show lines_Validate.f k a = some (vF a) from h1 k (by omega), Option.bind_some]
  unfold vTwo
  by_cases h : (vF a).1 = 0
  · have e := vF_snd_zero h
    rw [e, show lines_Code.f k b = some (vF b).1 from h2 k (by omega), Option.bind_some]
    simp
    split <;> rfl
  · rw [if_pos (by simp [h]), if_pos h]
end Go.Proofs.Ytidnkaopndmigaa.PL
