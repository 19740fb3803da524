/- What diff's distance comes to. -/
import Derived.Test.YthnfnccdehohjaaLines
import Derived.Test.YthnfnccdehohjaaMeasure
import Derived.Test.YthnfnccdehohjaaPx4
namespace Go.Proofs.Ythnfnccdehohjaa.PL
open Go.RowKit Go.Proofs.YthnfnccdehohjaaW.PrintWords Go.Proofs.YthnfnccdehohjaaW.PrintMore Go.Proofs.Ythnfnccdehohjaa.P

def dist (a b : List ByteArray) : Int := (a.length : Int) + b.length - 2 * (lcs a b : Int)
def dF (a b : List ByteArray) : Int × Int × Int := if (vTwo a b).1 = 0 then (dist a b, 0, 0) else (0, vTwo a b)
theorem vTwo_pair {a b : List ByteArray} (h : (vTwo a b).1 = 0) : vTwo a b = (0, 0) := by
  have := vTwo_zero.1 h
  exact vTwo_ok this.1 this.2
theorem not_zero (p : Int × Int) : ((!(p.1 == 0) || (!(p.2 == 0))) = true) ↔ p ≠ (0, 0) := by
  obtain ⟨a, b⟩ := p
  simp only [Bool.or_eq_true, Bool.not_eq_true', beq_eq_false_iff_ne, ne_eq, Prod.mk.injEq]
  constructor
  · rintro h ⟨h1, h2⟩
    subst h1
    subst h2
    simp at h
  · intro h
    by_cases h1 : a = 0
    · exact .inr (fun h2 => h ⟨h1, h2⟩)
    · exact .inl h1
theorem Distance_ev (a b : List ByteArray) : Ev (fun k => diff_Distance.f k a b) (dF a b) := by
  obtain ⟨K1, h1⟩ := lines_Two_ev a b
  by_cases h : (vTwo a b).1 = 0
  · have hv := vTwo_pair h
    obtain ⟨oa, ob⟩ := vTwo_zero.1 h
    obtain ⟨K2, h2⟩ := measure_ev a b (by have := oa.1; omega) (by have := ob.1; omega)
    refine ⟨max K1 K2, fun k hk => ?_⟩
    have e1 := h1 k (by omega)
    have e2 := h2 k (by omega)
    dsimp only at e1 e2
    have la := oa.1
    have lb := ob.1
    have hle := (lcs_le a b).1
    unfold diff_Distance.f
    dsimp only
    rw [e1, hv, Option.bind_some, if_neg (by simp), e2, Option.bind_some, tab_length, if_pos (by omega)]
    have r0 := tab_row_length (m := b.length) (f := T a b) (show 0 ≤ a.length by omega)
    have t0 := tab_at (f := T a b) (show 0 ≤ a.length by omega) (show 0 ≤ b.length by omega)
    rw [show ((0 : Nat) : Int) = 0 from rfl] at r0 t0
    rw [r0, if_pos (by omega), t0]
    have eT : T a b 0 0 = (lcs a b : Int) := by simp [T]
    rw [eT, wrap64_add (by omega), wrap64_id (x := 2 * (lcs a b : Int)) (by omega) (by omega), wrap64_id (by omega) (by omega)]
    unfold dF dist
    rw [if_pos h]
    simp
  · refine ⟨K1, fun k hk => ?_⟩
    have e1 := h1 k hk
    dsimp only at e1
    unfold diff_Distance.f dF
    dsimp only
    rw [e1, Option.bind_some, if_pos ((not_zero _).2 (fun e => h (by rw [e]))), if_neg h]
end Go.Proofs.Ythnfnccdehohjaa.PL
