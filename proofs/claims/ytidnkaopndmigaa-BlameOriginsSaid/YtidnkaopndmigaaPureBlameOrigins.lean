/- The plain law of BlameOrigins: every line occurs in the version from which it comes and in all later ones. -/
import Derived.Test.YtidnkaopndmigaaQBlameOrigins
import Derived.Test.YtidnkaopndmigaaAnnMore
import Derived.Test.YtidnkaopndmigaaAdded
import Derived.Test.YtidnkaopndmigaaFollows
namespace Go.Proofs.Ytidnkaopndmigaa.Pure
open Go.RowKit Go.Proofs.YtidnkaopndmigaaW.PrintWords Go.Proofs.YtidnkaopndmigaaW.PrintLast Go.Proofs.YtidnkaopndmigaaW.PrintMore Go.Proofs.Ytidnkaopndmigaa.P Go.Proofs.Ytidnkaopndmigaa.Opens Go.Proofs.Ytidnkaopndmigaa.PL
theorem orig_rel (l : List (List ByteArray)) : ∀ (r : List (List ByteArray)) (v : Nat) (o : List Int) (t : List ByteArray), l.drop v = r → o.length = t.length →
    (∀ p ∈ t.zip o, ∀ u : Nat, p.2 ≤ (u : Int) → u < v → p.1 ∈ l.getD u []) → ∀ p ∈ (r.getLastD t).zip (annL (v : Int) o t r), ∀ u : Nat, p.2 ≤ (u : Int) → u < v + r.length → p.1 ∈ l.getD u [] := by
  intro r
  induction r with
  | nil =>
    intro v o t hr hl h
    simpa [annL] using h
  | cons w r ih =>
    intro v o t hr hl h
    have hv : v < l.length := by
      have := congrArg List.length hr
      simp only [List.length_drop, List.length_cons] at this
      omega
    have hw : l.getD v [] = w := by
      rw [List.drop_eq_getElem_cons hv] at hr
      rw [List.getD_eq_getElem?_getD, List.getElem?_eq_getElem hv]
      exact (List.cons.inj hr).1
    have hr2 : l.drop (v + 1) = r := by
      rw [List.drop_eq_getElem_cons hv] at hr
      exact (List.cons.inj hr).2
    have key := ih (v + 1) (ann (v : Int) t w o) w hr2 (ann_length _ _ _ _) (by
      refine ann_rel (v : Int) (fun a j => ∀ u : Nat, j ≤ (u : Int) → u < v → a ∈ l.getD u []) (fun a j => ∀ u : Nat, j ≤ (u : Int) → u < v + 1 → a ∈ l.getD u []) t w o hl h ?_ ?_
      · intro a j ha hP u hu huv
        by_cases e : u = v
        · subst e
          rw [hw]
          exact ha
        · exact hP u hu (by omega)
      · intro b hb u hu huv
        obtain rfl : u = v := by omega
        rw [hw]
        exact hb)
    simp only [annL, List.getLastD_cons, List.length_cons]
    intro p hp u hu huv
    exact key p hp u hu (by omega)
section
variable (l : List (List ByteArray)) (hl : l.length ≤ 16) (hv : ∀ w ∈ l, okL w) (o : List Int) (t : List ByteArray) (ht : okL t) (hot : o.length = t.length)
    (hb : ∀ p ∈ o, 0 ≤ p ∧ p < (l.length : Int)) (ho : ∀ p ∈ t.zip o, ∀ u : Nat, p.2 ≤ (u : Int) → u < l.length → p.1 ∈ l.getD u [])
include hl hv ht hot hb ho
omit hb in
theorem BlameOrigins_l1 (i : Nat) (hi : i < o.length) (r : Bool) (hr : Ev (fun k => changeforgelaw2_BlameOrigins.l0 k l o t ((i + 1 : Nat) : Int)) r) : ∀ (d u : Nat), l.length = u + d → o[i] ≤ (u : Int) →
    Ev (fun k => changeforgelaw2_BlameOrigins.l1 k l o t (i : Int) (u : Int)) r := by
  have h120 := ht.1
  intro d
  induction d with
  | zero =>
    intro u hu hou
    obtain ⟨K, hK⟩ := hr
    refine ⟨K + 1, fun k hk => ?_⟩
    obtain ⟨m, rfl⟩ : ∃ m, k = m + 1 := ⟨k - 1, by omega⟩
    simp only [changeforgelaw2_BlameOrigins.l1]
    rw [if_neg (by omega), wrap64_succ (by omega)]
    exact hK m (by omega)
  | succ d ih =>
    intro u hu hou
    have hul : u < l.length := by omega
    have hit : i < t.length := by omega
    have hw := (hv _ (List.getElem_mem hul)).1
    have hmem : t[i] ∈ l[u] := by
      have hz : (t[i], o[i]) ∈ t.zip o := by
        have := List.getElem_mem (l := t.zip o) (n := i) (by rw [List.length_zip]; omega)
        rwa [List.getElem_zip] at this
      have := ho _ hz u hou hul
      rwa [List.getD_eq_getElem?_getD, List.getElem?_eq_getElem hul] at this
    obtain ⟨K1, h1⟩ := follows_one t[i] l[u] (by omega)
    rw [(hasL_iff _ _).2 hmem] at h1
    obtain ⟨K2, h2⟩ := ih (u + 1) (by omega) (by omega)
    refine ⟨max K1 K2 + 1, fun k hk => ?_⟩
    obtain ⟨m, rfl⟩ : ∃ m, k = m + 1 := ⟨k - 1, by omega⟩
    have a1 := h1 m (by omega)
    have a2 := h2 m (by omega)
    dsimp only at a1 a2
    simp only [changeforgelaw2_BlameOrigins.l1]
    rw [wrap64_succ (show i < 9223372036854775807 by omega), wrap64_succ (show u < 9223372036854775807 by omega), if_pos (by omega), if_pos (by omega), if_pos (by omega), if_pos (by omega), if_pos (by omega), Int.toNat_natCast, Int.toNat_natCast, slice_one hit, rdL_nat hul, a1, Option.bind_some, if_pos (by trivial)]
    exact a2
theorem BlameOrigins_l0 : ∀ (d i : Nat), o.length = i + d → Ev (fun k => changeforgelaw2_BlameOrigins.l0 k l o t (i : Int)) true := by
  obtain ⟨KA, hA⟩ := added_ev
  have h120 := ht.1
  intro d
  induction d with
  | zero =>
    intro i hi
    refine ⟨KA + 1, fun k hk => ?_⟩
    obtain ⟨m, rfl⟩ : ∃ m, k = m + 1 := ⟨k - 1, by omega⟩
    have a0 := hA m (by omega)
    dsimp only at a0
    simp only [changeforgelaw2_BlameOrigins.l0]
    rw [if_neg (by omega), a0, Option.bind_some]
  | succ d ih =>
    intro i hi
    have hil : i < o.length := by omega
    have hbi := hb _ (List.getElem_mem hil)
    obtain ⟨u, hu⟩ : ∃ u : Nat, o[i] = (u : Int) := ⟨o[i].toNat, by omega⟩
    obtain ⟨K, hK⟩ := BlameOrigins_l1 l hl hv o t ht hot ho i hil true (ih (i + 1) (by omega)) (l.length - u) u (by omega) (by omega)
    refine ⟨K + 2, fun k hk => ?_⟩
    obtain ⟨m, rfl⟩ : ∃ m, k = m + 2 := ⟨k - 2, by omega⟩
    have a := hK m (by omega)
    simp only [changeforgelaw2_BlameOrigins.l0, changeforgelaw2_BlameOrigins.j2]
    rw [if_pos (by omega), if_pos (by omega), rd_nat hil, if_neg (by omega), if_neg (by simp; omega), if_pos (by omega), if_pos (by omega), hu]
    exact a
end
theorem BlameOrigins : BlameOrigins.Pure := by
  intro l hw
  refine Ev.rounds (r := true) ?_
  obtain ⟨K1, h1⟩ := Annotate_ev l
  obtain ⟨KA, hA⟩ := added_ev
  by_cases hc : (aF l).2.1 = 0
  · obtain ⟨hl, hv, ea⟩ := aF_zero hc
    by_cases h2 : l.length = 0
    · refine ⟨max K1 KA + 1, fun k hk => ?_⟩
      obtain ⟨m, rfl⟩ : ∃ m, k = m + 1 := ⟨k - 1, by omega⟩
      have a0 := hA m (by omega)
      have a1 := h1 (m + 1) (by omega)
      dsimp only at a0 a1
      unfold changeforgelaw2_BlameOrigins.f
      dsimp only
      rw [a1, Option.bind_some, if_pos hc, show ((l.length : Int) == 0) = true by simp [h2]]
      simp only [changeforgelaw2_BlameOrigins.j0]
      rw [if_pos (by trivial), a0, Option.bind_some]
    · obtain ⟨n, hn⟩ : ∃ n, l.length = n + 1 := ⟨l.length - 1, by omega⟩
      have hnl : n < l.length := by omega
      have ht : okL l[n] := hv _ (List.getElem_mem hnl)
      have eL : l.getLastD [] = l[n] := by
        rw [List.getLastD_eq_getLast?, List.getLast?_eq_getElem?, show l.length - 1 = n by omega, List.getElem?_eq_getElem hnl]
        rfl
      have hot : (annL 0 [] [] l).length = l[n].length := by rw [annL_length _ _ _ _ rfl, eL]
      have hb := annL_bound l 0 [] [] (by omega) rfl (by simp)
      have ho := orig_rel l l 0 [] [] rfl rfl (by simp)
      rw [eL] at ho
      obtain ⟨K2, h2'⟩ := BlameOrigins_l0 l hl hv (annL 0 [] [] l) l[n] ht hot (fun p hp => by have := hb p hp; omega) (fun p hp u hu hul => ho p hp u hu (by omega)) (annL 0 [] [] l).length 0 (by omega)
      refine ⟨max K1 K2 + 1, fun k hk => ?_⟩
      obtain ⟨m, rfl⟩ : ∃ m, k = m + 1 := ⟨k - 1, by omega⟩
      have a1 := h1 (m + 1) (by omega)
      have a2 := h2' m (by omega)
      dsimp only at a1 a2
      unfold changeforgelaw2_BlameOrigins.f
      dsimp only
      rw [a1, Option.bind_some, if_pos hc, show ((l.length : Int) == 0) = false from beq_eq_false_iff_ne.2 (by omega)]
      simp only [changeforgelaw2_BlameOrigins.j0]
      rw [if_neg (by simp), wrap64_id (x := (l.length : Int) - 1) (by omega) (by omega), if_pos (by omega), if_pos (by omega), show (l.length : Int) - 1 = ((n : Nat) : Int) by omega, rdL_nat hnl, ea]
      dsimp only
      rw [if_pos (by omega)]
      exact a2
  · refine ⟨max K1 KA + 1, fun k hk => ?_⟩
    obtain ⟨m, rfl⟩ : ∃ m, k = m + 1 := ⟨k - 1, by omega⟩
    have a0 := hA m (by omega)
    have a1 := h1 (m + 1) (by omega)
    dsimp only at a0 a1
    unfold changeforgelaw2_BlameOrigins.f
    dsimp only
    rw [a1, Option.bind_some, if_neg hc]
    simp only [changeforgelaw2_BlameOrigins.j0]
    rw [if_pos (by trivial), a0, Option.bind_some]
end Go.Proofs.Ytidnkaopndmigaa.Pure
