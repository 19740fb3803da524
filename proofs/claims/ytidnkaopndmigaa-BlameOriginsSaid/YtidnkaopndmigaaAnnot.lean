/- What blame.Annotate comes to. -/
import Derived.Test.YtidnkaopndmigaaFollow
import Derived.Test.YtidnkaopndmigaaPx6
namespace Go.Proofs.Ytidnkaopndmigaa.PL
open Go.RowKit Go.Proofs.YtidnkaopndmigaaW.PrintWords Go.Proofs.YtidnkaopndmigaaW.PrintMore Go.Proofs.Ytidnkaopndmigaa.P

/-- The origins along versions; the first has the number v. -/
def annL : Int → List Int → List ByteArray → List (List ByteArray) → List Int
  | _, o, _, [] => o
  | v, o, t, w :: r => annL (v + 1) (ann v t w o) w r
/-- The first version that is not valid, from number i on. -/
def badV : List (List ByteArray) → Int → Option (Int × Int)
  | [], _ => none
  | w :: r, i => if (vF w).1 = 0 then badV r (i + 1) else some ((vF w).1, i)
theorem badV_none {l : List (List ByteArray)} {i : Int} : badV l i = none ↔ ∀ w ∈ l, okL w := by
  induction l generalizing i with
  | nil => simp [badV]
  | cons w r ih =>
    unfold badV
    by_cases h : (vF w).1 = 0
    · rw [if_pos h, ih]
      simp [(vF_zero w).1 h]
    · rw [if_neg h]
      simp only [List.mem_cons, forall_eq_or_imp, reduceCtorEq, false_iff, not_and]
      exact fun h2 => absurd ((vF_zero w).2 h2) h
/-- What Annotate returns. -/
def aF (l : List (List ByteArray)) : List Int × Int × Int :=
  if l.length > 16 then ([], 2, -1) else match badV l 0 with
    | some p => ([], p)
    | none => (annL 0 [] [] l, 0, 0)

theorem rdL_nat {l : List (List ByteArray)} {i : Nat} (h : i < l.length) : rd_L5 l (i : Int) = l[i] := by
  unfold rd_L5
  rw [Int.toNat_natCast, List.getD_eq_getElem?_getD, List.getElem?_eq_getElem h]
  rfl
theorem okL_nil : okL [] := ⟨by simp, by simp⟩
theorem hs_len (i : Nat) (x y : List ByteArray) : (hs i x y).length ≤ x.length + y.length := by
  fun_induction hs i x y with
  | case1 i x y h ih =>
    have := run_length x y
    simp only [List.length_cons, List.length_drop] at ih ⊢
    omega
  | case2 i a x b y h ih =>
    simp only [List.length_cons]
    omega
  | case3 i x y h => simp

theorem Annotate_l1 (l : List (List ByteArray)) (hl : l.length ≤ 16) (hv : ∀ w ∈ l, okL w) : ∀ (i : Nat), i ≤ l.length → ∀ (o : List Int) (t : List ByteArray), okL t → o.length = t.length →
    Ev (fun k => blame_Annotate.l1 k o t l (l.length : Int) (i : Int)) (annL (i : Int) o t (l.drop i), 0, 0) := by
  intro i hi
  obtain ⟨d, hd⟩ : ∃ d, l.length = i + d := ⟨l.length - i, by omega⟩
  induction d generalizing i with
  | zero =>
    obtain rfl : i = l.length := by omega
    intro o t _ _
    refine ⟨1, fun k hk => ?_⟩
    obtain ⟨m, rfl⟩ : ∃ m, k = m + 1 := ⟨k - 1, by omega⟩
    simp only [blame_Annotate.l1]
    rw [if_neg (by omega), List.drop_length]
    rfl
  | succ d ih =>
    intro o t ht ho
    have hil : i < l.length := by omega
    have e := List.drop_eq_getElem_cons hil
    have hw : okL l[i] := hv _ (List.getElem_mem hil)
    obtain ⟨K1, h1⟩ := Script_ev t l[i]
    have es : scrF t l[i] = (hs 0 t l[i], 0, 0) := by
      unfold scrF
      rw [if_pos (vTwo_zero.2 ⟨ht, hw⟩)]
    have h120 := ht.1
    have h121 := hw.1
    have hln := hs_len 0 t l[i]
    obtain ⟨K2, h2⟩ := Follow_ev (i : Int) o (hs 0 t l[i]) (by omega) (by omega) (by
      rw [ho]
      exact hs_ok t.length 0 t l[i] (by omega) (by omega) 0 (Nat.le_refl _))
    have ef : fol (i : Int) o 0 (hs 0 t l[i]) = ann (i : Int) t l[i] o := by
      rw [fol_hs (i : Int) o 0 t l[i] (by omega) 0 (Nat.le_refl _)]
      simp
    rw [ef] at h2
    obtain ⟨K3, h3⟩ := ih (i + 1) (by omega) (by omega) (ann (i : Int) t l[i] o) l[i] hw (ann_length _ _ _ _)
    refine ⟨max K1 (max K2 K3) + 1, fun k hk => ?_⟩
    obtain ⟨m, rfl⟩ : ∃ m, k = m + 1 := ⟨k - 1, by omega⟩
    have a1 := h1 m (by omega)
    have a2 := h2 m (by omega)
    have a3 := h3 m (by omega)
    dsimp only at a1 a2 a3
    simp only [blame_Annotate.l1]
    rw [if_pos (by omega), if_pos (by omega), if_pos (by omega), rdL_nat hil, a1, Option.bind_some, es]
    dsimp only
    rw [a2, Option.bind_some, wrap64_succ (by omega), a3, e]
    rfl
theorem Annotate_l0 (l : List (List ByteArray)) (hl : l.length ≤ 16) (r : List Int × Int × Int) (h0 : badV l 0 = none → Ev (fun k => blame_Annotate.l1 k [] [] l (l.length : Int) 0) r) (h1 : ∀ p, badV l 0 = some p → r = ([], p)) :
    ∀ (i : Nat), i ≤ l.length → badV l 0 = badV (l.drop i) (i : Int) → Ev (fun k => blame_Annotate.l0 k l l (l.length : Int) (i : Int)) r := by
  intro i hi
  obtain ⟨d, hd⟩ : ∃ d, l.length = i + d := ⟨l.length - i, by omega⟩
  induction d generalizing i with
  | zero =>
    obtain rfl : i = l.length := by omega
    intro hb
    rw [List.drop_length] at hb
    obtain ⟨K, hK⟩ := h0 hb
    refine ⟨K + 1, fun k hk => ?_⟩
    obtain ⟨m, rfl⟩ : ∃ m, k = m + 1 := ⟨k - 1, by omega⟩
    simp only [blame_Annotate.l0]
    rw [if_neg (by omega)]
    exact hK m (by omega)
  | succ d ih =>
    intro hb
    have hil : i < l.length := by omega
    have e := List.drop_eq_getElem_cons hil
    obtain ⟨K1, a1⟩ := lines_Code_ev l[i]
    rw [e, show badV (l[i] :: l.drop (i + 1)) (i : Int) = if (vF l[i]).1 = 0 then badV (l.drop (i + 1)) ((i : Int) + 1) else some ((vF l[i]).1, (i : Int)) from rfl] at hb
    by_cases h : (vF l[i]).1 = 0
    · rw [if_pos h] at hb
      obtain ⟨K, hK⟩ := ih (i + 1) (by omega) (by omega) (by rw [hb]; norm_cast)
      refine ⟨max K1 K + 1, fun k hk => ?_⟩
      obtain ⟨m, rfl⟩ : ∃ m, k = m + 1 := ⟨k - 1, by omega⟩
      have b1 := a1 m (by omega)
      have b2 := hK m (by omega)
      dsimp only at b1 b2
      simp only [blame_Annotate.l0]
      rw [if_pos (by omega), if_pos (by omega), if_pos (by omega), rdL_nat hil, b1, Option.bind_some, if_pos h, wrap64_succ (by omega)]
      exact b2
    · rw [if_neg h] at hb
      have er := h1 _ hb
      refine ⟨K1 + 1, fun k hk => ?_⟩
      obtain ⟨m, rfl⟩ : ∃ m, k = m + 1 := ⟨k - 1, by omega⟩
      have b1 := a1 m (by omega)
      dsimp only at b1
      simp only [blame_Annotate.l0]
      rw [if_pos (by omega), if_pos (by omega), if_pos (by omega), rdL_nat hil, b1, Option.bind_some, if_neg h, er]
theorem Annotate_ev (l : List (List ByteArray)) : Ev (fun k => blame_Annotate.f k l) (aF l) := by
  unfold blame_Annotate.f aF
  by_cases h : l.length > 16
  · rw [if_pos h]
    refine ⟨0, fun k _ => ?_⟩
    dsimp only
    rw [if_pos (by omega)]
  · rw [if_neg h]
    have := Annotate_l0 l (by omega) (match badV l 0 with
      | some p => ([], p)
      | none => (annL 0 [] [] l, 0, 0)) (fun hn => by
        rw [hn]
        have := Annotate_l1 l (by omega) (badV_none.1 hn) 0 (by omega) [] [] okL_nil rfl
        simpa using this) (fun p hp => by rw [hp]) 0 (by omega) (by simp)
    obtain ⟨K, hK⟩ := this
    refine ⟨K, fun k hk => ?_⟩
    dsimp only
    rw [if_neg (by omega)]
    exact hK k hk
end Go.Proofs.Ytidnkaopndmigaa.PL
