/- The plain law of RenameSimilarityBounds: the similarity of texts is symmetric, from 0 to 100, and 100 just for equal texts. -/
import Derived.Test.YthnfnccdehohjaaQRenameSimilarityBounds
import Derived.Test.YthnfnccdehohjaaDist
import Derived.Test.YthnfnccdehohjaaEqStr
namespace Go.Proofs.Ythnfnccdehohjaa.Pure
open Go.RowKit Go.Proofs.YthnfnccdehohjaaW.PrintWords Go.Proofs.YthnfnccdehohjaaW.PrintLast Go.Proofs.YthnfnccdehohjaaW.PrintMore Go.Proofs.Ythnfnccdehohjaa.P Go.Proofs.Ythnfnccdehohjaa.Opens Go.Proofs.Ythnfnccdehohjaa.PL

def simil (a b : List ByteArray) : Int := if a.length + b.length = 0 then 100 else Int.tdiv (100 * ((a.length : Int) + b.length - dist a b)) ((a.length : Int) + b.length)
def sF (a b : List ByteArray) : Int × Int × Int := if (vTwo a b).1 = 0 then (simil a b, 0, 0) else (0, vTwo a b)
theorem Similarity_ev (a b : List ByteArray) : Ev (fun k => rename_Similarity.f k a b) (sF a b) := by
  obtain ⟨K1, h1⟩ := Distance_ev a b
  refine ⟨K1, fun k hk => ?_⟩
  have e1 := h1 k hk
  dsimp only at e1
  unfold rename_Similarity.f sF
  dsimp only
  rw [e1, Option.bind_some]
  unfold dF
  by_cases h : (vTwo a b).1 = 0
  · rw [if_pos h, if_pos h]
    have hv := vTwo_pair h
    obtain ⟨oa, ob⟩ := vTwo_zero.1 h
    have la := oa.1
    have lb := ob.1
    have hle := lcs_le a b
    rw [if_neg (by simp), wrap64_add (by omega)]
    unfold simil
    by_cases h0 : a.length + b.length = 0
    · rw [if_pos (by omega), if_pos h0]
    · rw [if_neg (by omega), if_neg h0]
      have hd : 0 ≤ dist a b ∧ dist a b ≤ 240 := by unfold dist; omega
      have e2 : ((a.length + b.length : Nat) : Int) = (a.length : Int) + b.length := by omega
      have hb : ((a.length + b.length : Nat) : Int) ≤ 240 := by omega
      have hp : 0 < ((a.length + b.length : Nat) : Int) := by omega
      rw [← e2]
      generalize ((a.length + b.length : Nat) : Int) = s at *
      have hs : 0 ≤ s - dist a b := by unfold dist; omega
      rw [wrap64_id (x := s - dist a b) (by omega) (by omega), wrap64_id (x := 100 * (s - dist a b)) (by omega) (by omega)]
      have hq : 0 ≤ Int.tdiv (100 * (s - dist a b)) s := Int.tdiv_nonneg (by omega) (by omega)
      have hq2 : Int.tdiv (100 * (s - dist a b)) s ≤ 100 * (s - dist a b) := by
        rw [Int.tdiv_eq_ediv_of_nonneg (by omega)]
        exact Int.ediv_le_self _ (by omega)
      rw [wrap64_id (by omega) (by omega)]
  · rw [if_neg h, if_neg h]
    dsimp only
    rw [if_pos ((not_zero _).2 (fun e => h (by rw [e])))]
theorem dist_comm (a b : List ByteArray) : dist a b = dist b a := by
  unfold dist
  rw [lcs_comm a b]
  omega
theorem simil_comm (a b : List ByteArray) : simil a b = simil b a := by
  unfold simil
  rw [dist_comm a b, Nat.add_comm a.length, Int.add_comm (a.length : Int)]
theorem simil_bounds (a b : List ByteArray) : 0 ≤ simil a b ∧ simil a b ≤ 100 ∧ (simil a b = 100 ↔ a = b) := by
  unfold simil
  have hle := lcs_le a b
  by_cases h0 : a.length + b.length = 0
  · rw [if_pos h0]
    have ea : a = [] := List.length_eq_zero_iff.1 (by omega)
    have eb : b = [] := List.length_eq_zero_iff.1 (by omega)
    rw [ea, eb]
    simp
  · rw [if_neg h0]
    have hd : (a.length : Int) + b.length - dist a b = 2 * (lcs a b : Int) := by unfold dist; omega
    rw [hd, Int.tdiv_eq_ediv_of_nonneg (by omega)]
    have hp : 0 < (a.length : Int) + b.length := by omega
    refine ⟨Int.ediv_nonneg (by omega) (by omega), ?_, ?_⟩
    · have := Int.ediv_le_ediv hp (show 100 * (2 * (lcs a b : Int)) ≤ 100 * ((a.length : Int) + b.length) by omega)
      rwa [Int.mul_ediv_cancel _ (by omega)] at this
    · constructor
      · intro h
        have h2 := Int.mul_ediv_self_le (x := 100 * (2 * (lcs a b : Int))) (k := (a.length : Int) + b.length) (by omega)
        rw [h] at h2
        exact lcs_full a b (by omega) (by omega)
      · rintro rfl
        rw [lcs_self, show 100 * (2 * (a.length : Int)) = 100 * ((a.length : Int) + a.length) by omega, Int.mul_ediv_cancel _ (by omega)]
theorem half_ev : Ev (fun k => changeforgelaw2_half.f k) true := by
  obtain ⟨K, h⟩ := Similarity_ev [(⟨#[120]⟩ : ByteArray), ⟨#[121]⟩] [(⟨#[121]⟩ : ByteArray), ⟨#[122]⟩]
  refine ⟨K, fun k hk => ?_⟩
  have e := h k hk
  dsimp only at e
  unfold changeforgelaw2_half.f
  dsimp only
  rw [e, Option.bind_some]
  decide +kernel

theorem RenameSimilarityBounds : RenameSimilarityBounds.Pure := by
  intro a b ha hb
  refine Ev.rounds (r := true) ?_
  obtain ⟨K1, h1⟩ := Similarity_ev a b
  obtain ⟨K2, h2⟩ := Similarity_ev b a
  obtain ⟨K3, h3⟩ := half_ev
  by_cases h : okL a ∧ okL b
  · obtain ⟨K4, h4⟩ := Strings_ev a b (by have := h.1.1; omega)
    refine ⟨max (max K1 K2) (max K3 K4) + 1, fun k hk => ?_⟩
    obtain ⟨m, rfl⟩ : ∃ m, k = m + 1 := ⟨k - 1, by omega⟩
    have e1 := h1 (m + 1) (by omega)
    have e2 := h2 (m + 1) (by omega)
    have e3 := h3 m (by omega)
    have e4 := h4 m (by omega)
    dsimp only at e1 e2 e3 e4 ⊢
    have v1 := vTwo_ok h.1 h.2
    have v2 := vTwo_ok h.2 h.1
    have s1 : sF a b = (simil a b, 0, 0) := by unfold sF; rw [v1]; rfl
    have s2 : sF b a = (simil a b, 0, 0) := by unfold sF; rw [v2, simil_comm]; rfl
    unfold changeforgelaw2_RenameSimilarityBounds.f
    rw [e1, e2, s1, s2]
    simp only [Option.bind_some, if_true]
    simp only [changeforgelaw2_RenameSimilarityBounds.j0]
    obtain ⟨b1, b2, b3⟩ := simil_bounds a b
    rw [if_neg (by simp), if_pos trivial, if_pos b1, if_pos b2, e4, e3]
    simp only [Option.bind_some]
    rw [if_pos]
    by_cases e : a = b
    · rw [b3.2 e]
      simp [e]
    · have : ¬ simil a b = 100 := fun h => e (b3.1 h)
      simp [e, this]
  · refine ⟨max (max K1 K2) K3 + 1, fun k hk => ?_⟩
    obtain ⟨m, rfl⟩ : ∃ m, k = m + 1 := ⟨k - 1, by omega⟩
    have e1 := h1 (m + 1) (by omega)
    have e2 := h2 (m + 1) (by omega)
    have e3 := h3 m (by omega)
    dsimp only at e1 e2 e3 ⊢
    have v1 : ¬ (vTwo a b).1 = 0 := fun h' => h (vTwo_zero.1 h')
    have s1 : sF a b = (0, vTwo a b) := by unfold sF; rw [if_neg v1]
    unfold changeforgelaw2_RenameSimilarityBounds.f
    rw [e1, e2, s1]
    simp only [Option.bind_some]
    rw [if_neg v1]
    simp only [changeforgelaw2_RenameSimilarityBounds.j0]
    rw [if_pos trivial, e3]
    rfl
end Go.Proofs.Ythnfnccdehohjaa.Pure
