/- The plain law of BlameMatchesSpec: the origins are the specified ones; a list of versions that isn't valid is refused as specified. -/
import Derived.Test.YtidnkaopndmigaaQBlameMatchesSpec
import Derived.Test.YtidnkaopndmigaaRefAnnot
import Derived.Test.YtidnkaopndmigaaRefLines
import Derived.Test.YtidnkaopndmigaaAdded
namespace Go.Proofs.Ytidnkaopndmigaa.Pure
open Go.RowKit Go.Proofs.YtidnkaopndmigaaW.PrintWords Go.Proofs.YtidnkaopndmigaaW.PrintLast Go.Proofs.YtidnkaopndmigaaW.PrintMore Go.Proofs.Ytidnkaopndmigaa.P Go.Proofs.Ytidnkaopndmigaa.Opens Go.Proofs.Ytidnkaopndmigaa.PL
theorem annL_len (l : List (List ByteArray)) (hv : ∀ w ∈ l, okL w) : ∀ (v : Int) (o : List Int) (t : List ByteArray), o.length ≤ 120 → (annL v o t l).length ≤ 120 := by
  induction l with
  | nil => intro v o t h; exact h
  | cons w r ih =>
    intro v o t h
    simp only [annL]
    refine ih (fun x hx => hv x (by simp [hx])) _ _ _ ?_
    rw [ann_length]
    exact (hv w (by simp)).1
theorem BlameMatchesSpec_l0 (l : List (List ByteArray)) (hl : l.length ≤ 16) : ∀ (d i : Nat), l.length = i + d → badV l 0 = badV (l.drop i) (i : Int) →
    Ev (fun k => changeforgelaw2_BlameMatchesSpec.l0 k l (aF l).1 (i : Int) (aF l).2.1 (aF l).2.2) true := by
  obtain ⟨KA, hA⟩ := added_ev
  intro d
  induction d with
  | zero =>
    intro i hi hb
    obtain rfl : i = l.length := by omega
    rw [List.drop_length] at hb
    have hb : badV l 0 = none := hb
    have hv := badV_none.1 hb
    have ea : aF l = (annL 0 [] [] l, 0, 0) := by
      unfold aF
      rw [if_neg (by omega), hb]
    obtain ⟨K1, h1⟩ := Annotated_ev l hl hv
    obtain ⟨K2, h2⟩ := Ints_ev (annL 0 [] [] l) (annL 0 [] [] l) (by
      have := annL_len l hv 0 [] [] (by simp)
      omega)
    refine ⟨max KA (max K1 K2) + 1, fun k hk => ?_⟩
    obtain ⟨m, rfl⟩ : ∃ m, k = m + 1 := ⟨k - 1, by omega⟩
    have a0 := hA m (by omega)
    have a1 := h1 m (by omega)
    have a2 := h2 m (by omega)
    dsimp only at a0 a1 a2
    simp only [changeforgelaw2_BlameMatchesSpec.l0]
    rw [if_neg (by omega), ea]
    dsimp only
    rw [if_pos (by trivial), a1, Option.bind_some, a2, Option.bind_some, if_pos (by simp), a0, Option.bind_some]
  | succ d ih =>
    intro i hi hb
    have hil : i < l.length := by omega
    have e := List.drop_eq_getElem_cons hil
    obtain ⟨K1, h1⟩ := LinesCode_ev l[i]
    rw [e, show badV (l[i] :: l.drop (i + 1)) (i : Int) = if (vF l[i]).1 = 0 then badV (l.drop (i + 1)) ((i : Int) + 1) else some ((vF l[i]).1, (i : Int)) from rfl] at hb
    by_cases h : (vF l[i]).1 = 0
    · rw [if_pos h] at hb
      obtain ⟨K2, h2⟩ := ih (i + 1) (by omega) (by rw [hb]; norm_cast)
      refine ⟨max K1 K2 + 1, fun k hk => ?_⟩
      obtain ⟨m, rfl⟩ : ∃ m, k = m + 1 := ⟨k - 1, by omega⟩
      have a1 := h1 m (by omega)
      have a2 := h2 m (by omega)
      dsimp only at a1 a2
      simp only [changeforgelaw2_BlameMatchesSpec.l0]
      rw [if_pos (by omega), if_pos (by omega), rdL_nat hil, a1, Option.bind_some, if_pos h, wrap64_succ (by omega)]
      exact a2
    · rw [if_neg h] at hb
      have ea : aF l = ([], (vF l[i]).1, (i : Int)) := by
        unfold aF
        rw [if_neg (by omega), hb]
      refine ⟨max KA K1 + 1, fun k hk => ?_⟩
      obtain ⟨m, rfl⟩ : ∃ m, k = m + 1 := ⟨k - 1, by omega⟩
      have a0 := hA m (by omega)
      have a1 := h1 m (by omega)
      dsimp only at a0 a1
      simp only [changeforgelaw2_BlameMatchesSpec.l0, changeforgeref1_At.f]
      rw [if_pos (by omega), if_pos (by omega), rdL_nat hil, a1, Option.bind_some, if_neg h, Option.bind_some, ea, if_pos (by simp), if_pos (by simp), a0, Option.bind_some]
theorem BlameMatchesSpec : BlameMatchesSpec.Pure := by
  intro l hw
  refine Ev.rounds (r := true) ?_
  obtain ⟨K1, h1⟩ := Annotate_ev l
  obtain ⟨KA, hA⟩ := added_ev
  by_cases h : l.length > 16
  · have ea : aF l = ([], 2, -1) := by
      unfold aF
      rw [if_pos h]
    refine ⟨max K1 KA, fun k hk => ?_⟩
    have a0 := hA k (by omega)
    have a1 := h1 k (by omega)
    dsimp only at a0 a1
    unfold changeforgelaw2_BlameMatchesSpec.f changeforgeref1_At.f
    dsimp only
    rw [a1, Option.bind_some, if_pos (by omega), Option.bind_some, ea, if_pos (by simp), if_pos (by simp), a0, Option.bind_some]
  · obtain ⟨K2, h2⟩ := BlameMatchesSpec_l0 l (by omega) l.length 0 (by omega) (by simp)
    refine ⟨max K1 K2, fun k hk => ?_⟩
    have a1 := h1 k (by omega)
    have a2 := h2 k (by omega)
    dsimp only at a1 a2
    unfold changeforgelaw2_BlameMatchesSpec.f
    dsimp only
    rw [a1, Option.bind_some, if_neg (by omega)]
    exact a2
end Go.Proofs.Ytidnkaopndmigaa.Pure
