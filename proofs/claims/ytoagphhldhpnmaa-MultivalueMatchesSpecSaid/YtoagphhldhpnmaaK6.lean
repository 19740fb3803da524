/- Texts of ours, put together: PN, PO. -/
import Derived.Test.YtoagphhldhpnmaaK5
section
set_option linter.unusedSimpArgs false
set_option linter.unusedVariables false
/- What merging computes, to the fault. -/
namespace Go.Proofs.Ytoagphhldhpnmaa.F
open Go Go.Proofs.Ytoagphhldhpnmaa.V

open Classical in
noncomputable def mrgE (a b : List Vv) : List Vv × Fault × Unit := match b.findIdx? (conf a) with
  | some k => ([], (19, (k : Int), ()), ())
  | none => if (keepA a b ++ keepB a b).length > 16 then ([], (10, -1, ()), ()) else (mrgF a b, (0, 0, ()), ())
open Classical in
noncomputable def mergeF (a b : List Vv) : List Vv × Fault × Unit :=
  if ¬ (valF a).1 = 0 then ([], valF a, ())
  else if ¬ (valF b).1 = 0 then ([], ((valF b).1, -2, ()), ())
  else mrgE a b
theorem findIdx_none {a : List Vv} {p : Vv → Bool} (h : a.any p = false) : a.findIdx? p = none := by
  rw [List.findIdx?_eq_none_iff]
  intro x hx
  have := List.any_eq_false.1 h x hx
  simpa using this
theorem findIdx_at {a : List Vv} {p : Vv → Bool} {k : Nat} {u : Vv} (hk : a[k]? = some u) (hp : p u = true) (h : (a.take k).any p = false) : a.findIdx? p = some k := by
  obtain ⟨hlt, rfl⟩ := List.getElem?_eq_some_iff.1 hk
  rw [List.findIdx?_eq_some_iff_getElem]
  refine ⟨hlt, hp, fun j hj => ?_⟩
  have := List.any_eq_false.1 h (a[j]) (List.mem_of_getElem? (i := j) (by rw [List.getElem?_take, if_pos hj]; exact List.getElem?_eq_getElem _))
  simpa using this
open Classical in
theorem Merge_good (a b : List Vv) (ha : okR a) (hb : okR b) (hf : multivalue_Validate_13 (a, ()) = some ((0, 0, ()), ())) (hg : multivalue_Validate_13 (b, ()) = some ((0, 0, ()), ())) : multivalue_Merge_11 (a, b, ()) = some (mrgE a b) := by
  have va := okR_vec ha
  have vb := okR_vec hb
  have la := ha.1
  have lb := hb.1
  have hl := keep_len a b ha hb
  have hok := keep_ok ha hb (by omega)
  unfold multivalue_Merge_11
  simp only [hf, hg, Option.bind_some, BEq.rfl, Bool.and_self, Bool.not_true, Bool.false_eq_true, if_false]
  suffices key : ∃ r : List Vv × Fault × Unit, _ = some r ∧ r = mrgE a b from by
    obtain ⟨r, h, hq⟩ := key; rw [← hq]; exact h
  refine loop_inv (fun s => ∃ i : Nat, s.2.1 = (i : Int) ∧ i ≤ a.length ∧ s.1 = (a.take i).filter fun v => !b.any (p20 v.2.1)) (fun s => a.length - s.2.1.toNat) _ ?_ (s := ([], 0, ())) ⟨0, rfl, by omega, rfl⟩
  rintro ⟨out, a2, ⟨⟩⟩ ⟨i, g1, hi, g2⟩
  simp only at g1 g2
  subst g1
  have hol : out.length ≤ i := by rw [g2]; exact Nat.le_trans (List.length_filter_le _ _) (by rw [List.length_take]; omega)
  by_cases hlt : i < a.length
  · left
    have q2 : ((i : Int) < (a.length : Int)) := by omega
    have hg : a[i]? = some a[i] := List.getElem?_eq_getElem hlt
    have hu := va _ (List.getElem_mem hlt)
    have ht : a.take (i + 1) = a.take i ++ [a[i]] := by rw [List.take_add_one, hg]; rfl
    generalize a[i] = u at hg hu ht
    obtain ⟨ux, uv, ⟨⟩⟩ := u
    simp only at hu
    refine ⟨((a.take (i + 1)).filter fun v => !b.any (p20 v.2.1), ((i + 1 : Nat) : Int), ()), ?_, ⟨i + 1, rfl, hlt, rfl⟩, by simp; omega⟩
    rw [ht, filter_snoc, ← g2]
    simp only [q2, decide_true, if_true, atC_val hg, c20_eq b ux uv (by omega) (fun x hx => (vb x hx).1) hu.1, Option.bind_some]
    cases hany : b.any (p20 uv) with
    | true => simp only [Bool.not_true, Bool.false_eq_true, if_false, List.append_nil, wrap_i64 (n := (i : Int) + 1) (by omega) (by omega)]; rfl
    | false =>
      simp only [Bool.not_false, if_true, Clone_eq uv (by rw [hu.1]; omega), Option.bind_some, List.length_cons, List.length_nil]
      rw [if_pos ⟨by omega, by simp [maxLen]; omega⟩, wrap_i64 (n := (i : Int) + 1) (by omega) (by omega)]
      rfl
  · right
    have q2 : ¬ ((i : Int) < (a.length : Int)) := by omega
    rw [List.take_of_length_le (by omega)] at g2
    have g2 : out = keepA a b := g2
    subst g2
    simp only [q2, decide_false, Bool.false_eq_true, if_false]
    suffices key : ∃ r : List Vv × Fault × Unit, _ = some r ∧ r = mrgE a b from by
      obtain ⟨r, h, hq⟩ := key
      refine ⟨r, ?_, hq⟩
      have e := congrArg (Option.map (Sum.inr (α := List Vv × Int × Unit))) h
      exact e
    refine loop_inv (fun s => ∃ k : Nat, s.2.1 = (k : Int) ∧ k ≤ b.length ∧ s.1 = keepA a b ++ (b.take k).filter (fun v => !a.any (p26 v.2.1)) ∧ (b.take k).any (conf a) = false) (fun s => b.length - s.2.1.toNat) _ ?_ (s := (keepA a b, 0, ())) ⟨0, rfl, by omega, by simp, rfl⟩
    rintro ⟨out, a2, ⟨⟩⟩ ⟨k, g1, hk, g2, g3⟩
    simp only at g1 g2
    subst g1
    have hol2 : out.length ≤ 16 + k := by
      rw [g2, List.length_append]
      have h1 : (keepA a b).length ≤ a.length := List.length_filter_le _ _
      have h2 : ((b.take k).filter (fun v => !a.any (p26 v.2.1))).length ≤ k := Nat.le_trans (List.length_filter_le _ _) (by rw [List.length_take]; omega)
      omega
    by_cases hlt' : k < b.length
    · have q3 : ((k : Int) < (b.length : Int)) := by omega
      have hg : b[k]? = some b[k] := List.getElem?_eq_getElem hlt'
      have hmem := List.getElem_mem hlt'
      have hu := vb _ hmem
      have ht : b.take (k + 1) = b.take k ++ [b[k]] := by rw [List.take_add_one, hg]; rfl
      generalize b[k] = u at hg hu ht hmem
      obtain ⟨ux, uv, ⟨⟩⟩ := u
      simp only at hu
      have hi25 := i25_eq a ux uv (by omega) fun x hx => (va x hx).1
      simp only [q3, decide_true, if_true, atC_val hg, hi25, Option.bind_some, c26_eq a ux uv (by omega) (fun x hx => (va x hx).1) hu.1]
      have hcf : conf a (ux, uv, ()) = if idxF (p25 uv) a ≥ 0 then (match a[(idxF (p25 uv) a).toNat]? with | some u => u.1 != ux | none => false) else false := by
        unfold conf idxF
        cases a.findIdx? (p25 uv) with
        | none => rfl
        | some j => simp only [Int.toNat_natCast, show ((j : Int) ≥ 0) from by simp, if_true]; try (cases a[j]? <;> rfl)
      by_cases hcc : conf a (ux, uv, ()) = true
      · right
        have hfi := findIdx_at hg hcc g3
        rw [hcf] at hcc
        split at hcc
        · rename_i hge
          obtain ⟨j, hj⟩ := Int.eq_ofNat_of_zero_le hge
          rw [hj] at hcc
          simp only [Int.toNat_natCast] at hcc
          split at hcc
          · rename_i w hw
            obtain ⟨w1, w2, ⟨⟩⟩ := w
            simp only at hcc
            simp only [hj, show ((j : Int) ≥ 0) = True from by simp, decide_true, if_true, atC_val hw, hcc]
            refine ⟨_, rfl, ?_⟩
            unfold mrgE
            rw [hfi]
          · cases hcc
        · cases hcc
      · left
        have hcc' : conf a (ux, uv, ()) = false := by simpa using hcc
        have hstep : ∀ (o : Option ((List Vv × Int × Unit) ⊕ (List Vv × Fault × Unit))), True := fun _ => trivial
        refine ⟨(keepA a b ++ (b.take (k + 1)).filter (fun v => !a.any (p26 v.2.1)), ((k + 1 : Nat) : Int), ()), ?_, ⟨k + 1, rfl, hlt', rfl, by rw [ht, List.any_append, g3]; simp [hcc']⟩, by simp; omega⟩
        rw [ht, filter_snoc, ← List.append_assoc, ← g2]
        have fin : (if (!(a.any (p26 uv))) = true then
            Option.bind (slices_Clone___int_int__23 (uv, ())) fun r36 => if (out.length + [((ux, r36.1, ()) : Vv)].length) * 32 ≤ 140737488355328 ∧ out.length + [((ux, r36.1, ()) : Vv)].length ≤ maxLen then (some (Sum.inl (out ++ [((ux, r36.1, ()) : Vv)], IntKind.wrap .i64 ((k : Int) + 1), ())) : Option ((List Vv × Int × Unit) ⊕ (List Vv × Fault × Unit))) else none
            else some (.inl (out, IntKind.wrap .i64 ((k : Int) + 1), ()))) = some (.inl (out ++ (if (!a.any (p26 uv)) = true then [((ux, uv, ()) : Vv)] else []), ((k + 1 : Nat) : Int), ())) := by
          rw [wrap_i64 (n := (k : Int) + 1) (by omega) (by omega)]
          cases hany : a.any (p26 uv) with
          | true => simp
          | false =>
            simp only [Bool.not_false, if_true, Clone_eq uv (by rw [hu.1]; omega), Option.bind_some, List.length_cons, List.length_nil]
            rw [if_pos ⟨by omega, by simp [maxLen]; omega⟩]
            rfl
        by_cases hge : idxF (p25 uv) a ≥ 0
        · rw [hcf, if_pos hge] at hcc'
          have hidx : ∃ j : Nat, idxF (p25 uv) a = (j : Int) ∧ ∃ w, a[j]? = some w := by
            unfold idxF at hge ⊢
            cases hfi : a.findIdx? (p25 uv) with
            | none => rw [hfi] at hge; simp at hge
            | some j =>
              obtain ⟨hj, _⟩ := List.findIdx?_eq_some_iff_getElem.1 hfi
              exact ⟨j, rfl, _, List.getElem?_eq_getElem hj⟩
          obtain ⟨j, hj, ⟨w1, w2, ⟨⟩⟩, hw⟩ := hidx
          rw [hj] at hcc'
          simp only [Int.toNat_natCast, hw] at hcc'
          simp only [hj, show ((j : Int) ≥ 0) = True from by simp, decide_true, if_true, atC_val hw, hcc', Bool.false_eq_true, if_false]
          exact fin
        · simp only [hge, decide_false, Bool.false_eq_true, if_false]
          exact fin
    · right
      have q3 : ¬ ((k : Int) < (b.length : Int)) := by omega
      rw [List.take_of_length_le (by omega)] at g2 g3
      have g2 : out = keepA a b ++ keepB a b := g2
      subst g2
      simp only [q3, decide_false, Bool.false_eq_true, if_false]
      by_cases h16 : (keepA a b ++ keepB a b).length > 16
      · have h16' : (((keepA a b ++ keepB a b).length : Nat) : Int) > 16 := by omega
        simp only [h16', decide_true, if_true]
        refine ⟨_, rfl, ?_⟩
        unfold mrgE
        rw [findIdx_none g3]
        simp only [h16, if_true]
      · have h16' : ¬ (((keepA a b ++ keepB a b).length : Nat) : Int) > 16 := by omega
        simp only [h16', decide_false, Bool.false_eq_true, if_false, sortOk_eq hok, Option.bind_some]
        refine ⟨_, rfl, ?_⟩
        unfold mrgE
        rw [findIdx_none g3]
        simp only [h16, if_false]
        rfl
open Classical in
theorem Merge_exact (a b : List Vv) : multivalue_Merge_11 (a, b, ()) = some (mergeF a b) := by
  have hf := Validate_exact a
  have hg := Validate_exact b
  have hcase := valF_cases a
  have hcase' := valF_cases b
  unfold mergeF
  generalize valF a = f at hf hcase
  generalize valF b = g at hg hcase'
  rcases hcase with ⟨rfl, ha⟩ | ⟨hne, _⟩
  · rcases hcase' with ⟨rfl, hb⟩ | ⟨hne, _⟩
    · simp only [not_true, if_false]
      exact Merge_good a b ha hb hf hg
    · have h0 := fz g hne
      unfold multivalue_Merge_11
      simp only [hf, hg, Option.bind_some, BEq.rfl, Bool.and_self, Bool.not_true, Bool.false_eq_true, if_false, h0, Bool.not_false, if_true, not_true, hne, not_false_eq_true]
  · have h0 := fz f hne
    unfold multivalue_Merge_11
    simp only [hf, Option.bind_some, h0, Bool.not_false, if_true, hne, not_false_eq_true]
end Go.Proofs.Ytoagphhldhpnmaa.F
end
section
set_option linter.unusedSimpArgs false
set_option linter.unusedVariables false
/- What the reference's merging computes, to the fault. -/
namespace Go.Proofs.Ytoagphhldhpnmaa.F
open Go Go.Proofs.Ytoagphhldhpnmaa.V

theorem set_mid {α : Type} (y z : α) (ys : List α) : ∀ xs : List α, (xs ++ y :: ys).set xs.length z = xs ++ z :: ys
  | [] => rfl
  | x :: xs => by simp [set_mid y z ys xs]
theorem get_mid {α : Type} (y : α) (ys xs : List α) : (xs ++ y :: ys)[xs.length]? = some y := by simp
/-- Where an element is put into a row in order. -/
theorem ins_sorted {s : List Vv} {w : Vv} {p : Nat} (hp : p ≤ s.length) (hs : s.Pairwise fun a b => leV a b = true) (h1 : ∀ u, 0 < p → s[p - 1]? = some u → 0 ≤ cmpL w.2.1 u.2.1) (h2 : ∀ u ∈ s.drop p, cmpL w.2.1 u.2.1 < 0) :
    (s.take p ++ w :: s.drop p).Pairwise (fun a b => leV a b = true) ∧ (s.take p ++ w :: s.drop p).Perm (s ++ [w]) := by
  have hs' := hs
  rw [← List.take_append_drop p s, List.pairwise_append] at hs'
  obtain ⟨q1, q2, q3⟩ := hs'
  refine ⟨?_, ?_⟩
  · rw [List.pairwise_append, List.pairwise_cons]
    refine ⟨q1, ⟨fun u hu => ?_, q2⟩, fun x hx y hy => ?_⟩
    · have := h2 u hu
      simp only [leV, decide_eq_true_eq]; omega
    · rcases List.mem_cons.1 hy with rfl | hy
      · obtain ⟨i, hi⟩ := List.mem_iff_getElem?.1 hx
        rw [List.getElem?_take] at hi
        split at hi
        · rename_i hip
          have hu : s[p - 1]? = some s[p - 1] := List.getElem?_eq_getElem (by omega)
          have hle := h1 _ (by omega) hu
          have hn := cmpL_neg y.2.1 (s[p - 1]).2.1
          have hle' : leV s[p - 1] y = true := by simp only [leV, decide_eq_true_eq]; omega
          by_cases e : i = p - 1
          · subst e; rw [hu] at hi; injection hi with hi; rw [← hi]; exact hle'
          · obtain ⟨hi', rfl⟩ := List.getElem?_eq_some_iff.1 hi
            exact leV_trans _ _ _ (List.pairwise_iff_getElem.1 hs i (p - 1) hi' (by omega) (by omega)) hle'
        · cases hi
      · exact q3 x hx y hy
  · refine List.perm_middle.trans ?_
    rw [List.take_append_drop]
    exact (List.perm_append_singleton w s).symm
def pA (b : List Vv) (v : Vv) : Bool := !b.any (p20 v.2.1)
def pB (a : List Vv) (v : Vv) : Bool := !a.any (p26 v.2.1)
def kp (a b : List Vv) (j : Nat) : List Vv := (a.take j).filter (pA b) ++ (b.take (j - a.length)).filter (pB a)
def stayB (a b : List Vv) (j : Nat) (w : Vv) : Bool := if j < a.length then pA b w else pB a w
def confB (a : List Vv) (j : Nat) (w : Vv) : Bool := decide (a.length ≤ j) && conf a w
theorem kp_all (a b : List Vv) : kp a b (a ++ b).length = keepA a b ++ keepB a b := by
  unfold kp
  rw [List.take_of_length_le (by simp), List.take_of_length_le (by simp)]
  rfl
theorem app_at {a b : List Vv} {j : Nat} {w : Vv} (h : (a ++ b)[j]? = some w) : (j < a.length ∧ a[j]? = some w) ∨ (a.length ≤ j ∧ b[j - a.length]? = some w) := by
  by_cases hj : j < a.length
  · rw [List.getElem?_append_left hj] at h; exact .inl ⟨hj, h⟩
  · rw [List.getElem?_append_right (by omega)] at h; exact .inr ⟨by omega, h⟩
theorem kp_succ {a b : List Vv} {j : Nat} {w : Vv} (h : (a ++ b)[j]? = some w) : kp a b (j + 1) = kp a b j ++ (if stayB a b j w = true then [w] else []) := by
  unfold kp stayB
  rcases app_at h with ⟨hj, hw⟩ | ⟨hj, hw⟩
  · rw [if_pos hj, List.take_add_one, hw, show j + 1 - a.length = 0 by omega, show j - a.length = 0 by omega]
    show ((a.take j) ++ [w]).filter _ ++ _ = _
    rw [filter_snoc]; simp
  · rw [if_neg (show ¬ j < a.length by omega), show j + 1 - a.length = (j - a.length) + 1 by omega, List.take_add_one (l := b), hw, List.take_of_length_le (l := a) (i := j + 1) (by omega), List.take_of_length_le (l := a) (i := j) hj]
    show _ ++ ((b.take (j - a.length)) ++ [w]).filter _ = _
    rw [filter_snoc, List.append_assoc]
theorem sortOk_sub {l m : List Vv} (h : sortOk m) (hs : l.Sublist m) : sortOk l := ⟨Nat.le_trans hs.length_le h.1, fun u hu => h.2.1 u (hs.subset hu), h.2.2.sublist hs⟩
theorem kp_ok {a b : List Vv} (ha : okR a) (hb : okR b) (j : Nat) : sortOk (kp a b j) :=
  sortOk_sub (keep_ok ha hb (by have := keep_len a b ha hb; omega)) (List.Sublist.append ((List.take_sublist _ _).filter _) ((List.take_sublist _ _).filter _))
theorem confB_iff {a b : List Vv} (ha : okR a) (hb : okR b) {j : Nat} {w : Vv} (h : (a ++ b)[j]? = some w) : confB a j w = true ↔ ∃ k u, k < j ∧ (a ++ b)[k]? = some u ∧ Cov u.2.1 w.2.1 ∧ Cov w.2.1 u.2.1 ∧ u.1 ≠ w.1 := by
  unfold confB
  rw [Bool.and_eq_true, decide_eq_true_eq, conf_iff ha]
  constructor
  · rintro ⟨hj, u, hu, e, hne⟩
    obtain ⟨k, hk⟩ := List.mem_iff_getElem?.1 hu
    have hlt := (List.getElem?_eq_some_iff.1 hk).1
    exact ⟨k, u, by omega, by rw [List.getElem?_append_left hlt]; exact hk, by rw [e]; exact Cov.refl _, by rw [e]; exact Cov.refl _, hne⟩
  · rintro ⟨k, u, hkj, hu, c1, c2, hne⟩
    rcases app_at h with ⟨hj, hw⟩ | ⟨hj, hw⟩
    · rw [List.getElem?_append_left (by omega)] at hu
      exact absurd c1 (okR_apart ha hu hw hkj).1
    · refine ⟨hj, ?_⟩
      rcases app_at hu with ⟨hk, hu⟩ | ⟨hk, hu⟩
      · have hm := List.mem_of_getElem? hu
        exact ⟨u, hm, Cov.eq (okR_vec ha u hm).1 (okR_vec hb w (List.mem_of_getElem? hw)).1 c1 c2, hne⟩
      · exact absurd c1 (okR_apart hb hu hw (by omega)).1
theorem stayB_iff {a b : List Vv} (ha : okR a) (hb : okR b) {j : Nat} {w : Vv} (h : (a ++ b)[j]? = some w) : stayB a b j w = true ↔ ∀ k u, (a ++ b)[k]? = some u → ¬ (Cov u.2.1 w.2.1 ∧ (¬ Cov w.2.1 u.2.1 ∨ k < j)) := by
  unfold stayB pA pB
  rcases app_at h with ⟨hj, hw⟩ | ⟨hj, hw⟩
  · have hwm := List.mem_of_getElem? hw
    have hw6 := (okR_vec ha w hwm).1
    rw [if_pos hj]
    simp only [Bool.not_eq_true', List.any_eq_false, p20, Bool.and_eq_true, decide_eq_true_eq, decide_eq_false_iff_not, not_and, Decidable.not_not]
    constructor
    · intro hall k u hu c1 c2
      rcases app_at hu with ⟨hk, hu⟩ | ⟨hk, hu⟩
      · have e := okR_cov ha (List.mem_of_getElem? hu) hwm c1
        subst e
        rcases c2 with c2 | c2
        · exact c2 (Cov.refl _)
        · exact (okR_apart ha hu hw c2).1 (Cov.refl _)
      · have e := hall u (List.mem_of_getElem? hu) c1
        rcases c2 with c2 | c2
        · exact c2 (by rw [e]; exact Cov.refl _)
        · omega
    · intro hall u hu c1
      obtain ⟨k, hk⟩ := List.mem_iff_getElem?.1 hu
      have h' := hall (a.length + k) u (by rw [List.getElem?_append_right (by omega), show a.length + k - a.length = k by omega]; exact hk)
      have c2 : Cov w.2.1 u.2.1 := Classical.byContradiction fun c2 => h' c1 (.inl c2)
      exact Cov.eq (okR_vec hb u hu).1 hw6 c1 c2
  · have hwm := List.mem_of_getElem? hw
    rw [if_neg (by omega)]
    simp only [Bool.not_eq_true', List.any_eq_false, p26, decide_eq_true_eq]
    constructor
    · intro hall k u hu ⟨c1, c2⟩
      rcases app_at hu with ⟨hk, hu⟩ | ⟨hk, hu⟩
      · exact hall u (List.mem_of_getElem? hu) c1
      · have e := okR_cov hb (List.mem_of_getElem? hu) hwm c1
        subst e
        rcases c2 with c2 | c2
        · exact c2 (Cov.refl _)
        · exact (okR_apart hb hu hw (by omega)).1 (Cov.refl _)
    · intro hall u hu c1
      obtain ⟨k, hk⟩ := List.mem_iff_getElem?.1 hu
      have hlt := (List.getElem?_eq_some_iff.1 hk).1
      exact hall k u (by rw [List.getElem?_append_left hlt]; exact hk) ⟨c1, .inr (by omega)⟩
theorem Merged_good (a b : List Vv) (ha : okR a) (hb : okR b) (hf : changeforgeref2_ValuesFault_14 (a, ()) = some ((0, 0, ()), ())) (hg : changeforgeref2_ValuesFault_14 (b, ()) = some ((0, 0, ()), ())) : changeforgeref2_MergedValues_12 (a, b, ()) = some (mrgE a b) := by
  have la := ha.1
  have lb := hb.1
  unfold changeforgeref2_MergedValues_12
  simp only [hf, hg, Option.bind_some, bne_self_eq_false, Bool.false_eq_true, if_false, List.length_nil, Nat.zero_add, List.nil_append, AtV_eq]
  rw [if_pos ⟨by omega, by simp [maxLen]; omega⟩, if_pos ⟨by omega, by simp [maxLen]; omega⟩]
  have hLl : (a ++ b).length = a.length + b.length := by simp
  have hL6 : ∀ u ∈ a ++ b, u.2.1.length = 6 := fun u hu => (List.mem_append.1 hu).elim (fun h => (okR_vec ha u h).1) fun h => (okR_vec hb u h).1
  have hcB := fun {j : Nat} {w : Vv} (h : (a ++ b)[j]? = some w) => confB_iff ha hb h
  have hsB := fun {j : Nat} {w : Vv} (h : (a ++ b)[j]? = some w) => stayB_iff ha hb h
  have hks := fun {j : Nat} {w : Vv} (h : (a ++ b)[j]? = some w) => kp_succ h
  have hap := fun {j : Nat} {w : Vv} (h : (a ++ b)[j]? = some w) => app_at h
  have hall := kp_all a b
  suffices key : ∃ r : List Vv × Fault × Unit, _ = some r ∧ r = mrgE a b from by
    obtain ⟨r, h, hq⟩ := key; rw [← hq]; exact h
  refine loop_inv (fun s => ∃ j : Nat, s.2.1 = (j : Int) ∧ j ≤ (a ++ b).length ∧ s.1 = sortF (kp a b j) ∧ (b.take (j - a.length)).any (conf a) = false) (fun s => (a ++ b).length - s.2.1.toNat) _ ?_ (s := ([], 0, ())) ⟨0, rfl, by omega, by simp [kp, sortF], by simp⟩
  rintro ⟨kept, a2, ⟨⟩⟩ ⟨j, g1, hj, g2, g3⟩
  simp only at g1 g2
  subst g1
  have hkl : kept.length ≤ 32 := by
    rw [g2, (sortF_perm _).length_eq]
    have h1 : ((a.take j).filter (pA b)).length ≤ a.length := Nat.le_trans (List.length_filter_le _ _) (by rw [List.length_take]; omega)
    have h2 : ((b.take (j - a.length)).filter (pB a)).length ≤ b.length := Nat.le_trans (List.length_filter_le _ _) (by rw [List.length_take]; omega)
    unfold kp; rw [List.length_append]; omega
  by_cases hlt : j < (a ++ b).length
  · have q2 : ((j : Int) < ((a ++ b).length : Int)) := by omega
    obtain ⟨w, hw⟩ : ∃ w, (a ++ b)[j]? = some w := ⟨_, List.getElem?_eq_getElem hlt⟩
    have hw6 := hL6 w (List.mem_of_getElem? hw)
    simp only [q2, decide_true, if_true]
    -- one element
    have hone : ∀ (o : Option ((List Vv × Int × Unit) ⊕ (List Vv × Fault × Unit))), o = some (if confB a j w = true then .inr ([], (19, ((j - a.length : Nat) : Int), ()), ()) else .inl (sortF (kp a b (j + 1)), ((j + 1 : Nat) : Int), ())) →
        (∃ s' : List Vv × Int × Unit, o = some (.inl s') ∧ (∃ j : Nat, s'.2.1 = (j : Int) ∧ j ≤ (a ++ b).length ∧ s'.1 = sortF (kp a b j) ∧ (b.take (j - a.length)).any (conf a) = false) ∧ (a ++ b).length - s'.2.1.toNat < (a ++ b).length - j) ∨ ∃ r, o = some (.inr r) ∧ r = mrgE a b := by
      intro o ho
      subst ho
      cases hc : confB a j w with
      | true =>
        right
        simp only [if_true]
        refine ⟨_, rfl, ?_⟩
        unfold confB at hc
        rw [Bool.and_eq_true, decide_eq_true_eq] at hc
        rcases hap hw with ⟨h1, _⟩ | ⟨_, hwb⟩
        · omega
        · unfold mrgE
          rw [findIdx_at hwb hc.2 g3]
      | false =>
        left
        simp only [Bool.false_eq_true, if_false]
        refine ⟨_, rfl, ⟨j + 1, rfl, hlt, rfl, ?_⟩, by simp only [Int.toNat_natCast]; omega⟩
        rcases hap hw with ⟨h1, _⟩ | ⟨h1, hwb⟩
        · rw [show j + 1 - a.length = 0 by omega]; simp
        · rw [show j + 1 - a.length = (j - a.length) + 1 by omega, List.take_add_one, hwb]
          show ((b.take (j - a.length)) ++ [w]).any (conf a) = false
          unfold confB at hc
          rw [List.any_append, g3]
          simp [h1] at hc
          simp [hc]
    simp only [Int.toNat_natCast]
    apply hone
    clear hone
    refine (loop_val (fun s => s.1 = kept ∧ s.2.1 = (j : Int) ∧ ∃ k : Nat, s.2.2.2.1 = (k : Int) ∧ k ≤ (a ++ b).length ∧ (s.2.2.1 = true ↔ ∀ m u, m < k → (a ++ b)[m]? = some u → ¬ (Cov u.2.1 w.2.1 ∧ (¬ Cov w.2.1 u.2.1 ∨ m < j))) ∧ ∀ m u, m < k → m < j → (a ++ b)[m]? = some u → Cov u.2.1 w.2.1 → Cov w.2.1 u.2.1 → u.1 = w.1) (fun s => (a ++ b).length - s.2.2.2.1.toNat) (fun _ => if confB a j w = true then Sum.inr ([], (19, ((j - a.length : Nat) : Int), ()), ()) else Sum.inl (sortF (kp a b (j + 1)), ((j + 1 : Nat) : Int), ())) ?_ (s := (kept, (j : Int), true, 0, ())) ⟨rfl, rfl, 0, rfl, by omega, by simp, fun m u h => by omega⟩)
    rintro ⟨c1, c2, st, c4, ⟨⟩⟩ ⟨e1, e2, k, e4, hk, e5, e6⟩
    simp only at e1 e2 e4 e5
    subst e1 e2 e4
    by_cases hkL : k < (a ++ b).length
    · have q3 : ((k : Int) < ((a ++ b).length : Int)) := by omega
      obtain ⟨u, hu⟩ : ∃ u, (a ++ b)[k]? = some u := ⟨_, List.getElem?_eq_getElem hkL⟩
      have hu6 := hL6 u (List.mem_of_getElem? hu)
      simp only [q3, decide_true, if_true, atC_val hu, atC_val hw, Relation_eq u.2.1 w.2.1 (by omega) (by omega), Option.bind_some, decide_eq_true_eq]
      have hnew : ∀ st', (st' = true ↔ st = true ∧ ¬ (Cov u.2.1 w.2.1 ∧ (¬ Cov w.2.1 u.2.1 ∨ k < j))) → (st' = true ↔ ∀ m u, m < k + 1 → (a ++ b)[m]? = some u → ¬ (Cov u.2.1 w.2.1 ∧ (¬ Cov w.2.1 u.2.1 ∨ m < j))) := by
        intro st' h
        rw [h, e5]
        constructor
        · rintro ⟨h1, h2⟩ m x hm hx
          by_cases e : m = k
          · subst e; rw [hu] at hx; injection hx with hx; subst hx; exact h2
          · exact h1 m x (by omega) hx
        · intro h1
          exact ⟨fun m x hm hx => h1 m x (by omega) hx, h1 k u (by omega) hu⟩
      have hnoc : (k < j → Cov u.2.1 w.2.1 → Cov w.2.1 u.2.1 → u.1 = w.1) → ∀ m x, m < k + 1 → m < j → (a ++ b)[m]? = some x → Cov x.2.1 w.2.1 → Cov w.2.1 x.2.1 → x.1 = w.1 := by
        intro h m x hm hmj hx
        by_cases e : m = k
        · subst e; rw [hu] at hx; injection hx with hx; subst hx; exact h hmj
        · exact e6 m x (by omega) hmj hx
      have hwr := wrap_i64 (n := (k : Int) + 1) (by omega) (by omega)
      by_cases d1 : Cov u.2.1 w.2.1
      · by_cases d2 : Cov w.2.1 u.2.1
        · by_cases d3 : k < j
          · have q4 : ((k : Int) < (j : Int)) := by omega
            by_cases d4 : u.1 = w.1
            · left
              refine ⟨(c1, (j : Int), false, ((k + 1 : Nat) : Int), ()), ?_, ⟨rfl, rfl, k + 1, rfl, hkL, hnew _ (by simp [d1, d3]), hnoc fun _ _ _ => d4⟩, trivial, by simp; omega⟩
              simp [d1, d2, d3, d4, hwr]
            · right
              have hc : confB a j w = true := (hcB hw).2 ⟨k, u, d3, hu, d1, d2, d4⟩
              have hjl : a.length ≤ j := by
                unfold confB at hc; rw [Bool.and_eq_true, decide_eq_true_eq] at hc; exact hc.1
              have hwr2 : IntKind.wrap .i64 ((j : Int) - (a.length : Int)) = ((j - a.length : Nat) : Int) := by rw [wrap_i64 (by omega) (by omega)]; omega
              simp [d1, d2, d3, d4, hc, hwr2]
          · left
            have q4 : ¬ ((k : Int) < (j : Int)) := by omega
            refine ⟨(c1, (j : Int), st, ((k + 1 : Nat) : Int), ()), ?_, ⟨rfl, rfl, k + 1, rfl, hkL, hnew _ (by simp [d2, d3]), hnoc fun h => absurd h d3⟩, trivial, by simp; omega⟩
            simp [d1, d2, d3, hwr]
        · left
          refine ⟨(c1, (j : Int), false, ((k + 1 : Nat) : Int), ()), ?_, ⟨rfl, rfl, k + 1, rfl, hkL, hnew _ (by simp [d1, d2]), hnoc fun _ _ h => absurd h d2⟩, trivial, by simp; omega⟩
          simp [d1, d2, hwr]
      · left
        refine ⟨(c1, (j : Int), st, ((k + 1 : Nat) : Int), ()), ?_, ⟨rfl, rfl, k + 1, rfl, hkL, hnew _ (by simp [d1]), hnoc fun _ h => absurd h d1⟩, trivial, by simp; omega⟩
        simp [d1, hwr]
    · right
      have q3 : ¬ ((k : Int) < ((a ++ b).length : Int)) := by omega
      have hlt' : ∀ m u, (a ++ b)[m]? = some u → m < k := fun m u h => by have := (List.getElem?_eq_some_iff.1 h).1; omega
      have hc : confB a j w = false := by
        cases hc : confB a j w with
        | false => rfl
        | true =>
          obtain ⟨m, u, hm, hu, x1, x2, hne⟩ := (hcB hw).1 hc
          exact absurd (e6 m u (hlt' m u hu) hm hu x1 x2) hne
      have hst : st = stayB a b j w := by
        rw [Bool.eq_iff_iff, hsB hw, e5]
        exact ⟨fun h m u hu => h m u (hlt' m u hu) hu, fun h m u _ hu => h m u hu⟩
      subst hst
      rw [hks hw]
      have hwr := wrap_i64 (n := (j : Int) + 1) (by omega) (by omega)
      simp only [q3, decide_false, Bool.false_eq_true, if_false, hc]
      suffices key : _ = some (Sum.inl (sortF (kp a b j ++ if stayB a b j w = true then [w] else []), ((j + 1 : Nat) : Int), ())) from congrArg (Option.map Sum.inr) key
      cases hsw : stayB a b j w with
      | false =>
        simp only [Bool.not_false, if_true, Bool.false_eq_true, if_false, List.append_nil, hwr, ← g2]
        rfl
      | true =>
        have hok1 : sortOk (kp a b j ++ [w]) := by
          have := kp_ok ha hb (j + 1)
          rw [hks hw, hsw] at this
          exact this
        have hsorted := sortF_sorted (kp a b j)
        have hperm := sortF_perm (kp a b j)
        rw [← g2] at hsorted hperm
        have hk6 : ∀ u ∈ c1, u.2.1.length = 6 := fun u hu => (kp_ok ha hb j).2.1 u (hperm.mem_iff.1 hu)
        simp only [Bool.not_true, Bool.false_eq_true, if_false, if_true, atC_val hw, List.length_cons, List.length_nil]
        rw [if_pos ⟨by omega, by simp [maxLen]; omega⟩]
        have hfin : ∀ p, p ≤ c1.length → (∀ u, 0 < p → c1[p - 1]? = some u → 0 ≤ cmpL w.2.1 u.2.1) → (∀ u ∈ c1.drop p, cmpL w.2.1 u.2.1 < 0) → sortF (kp a b j ++ [w]) = c1.take p ++ w :: c1.drop p := by
          intro p hp x1 x2
          obtain ⟨y1, y2⟩ := ins_sorted hp hsorted x1 x2
          exact sortF_of hok1 (y2.trans (hperm.append_right [w])) y1
        obtain ⟨w1, w2, ⟨⟩⟩ := w
        simp only at hw6 hfin
        refine (loop_val (fun s => s.2.1 = (j : Int) ∧ ∃ p y, s.2.2.1 = ((p : Nat) : Int) ∧ p ≤ c1.length ∧ s.1 = c1.take p ++ y :: c1.drop p ∧ ∀ u ∈ c1.drop p, cmpL w2 u.2.1 < 0) (fun s => s.2.2.1.toNat) (fun _ => Sum.inl (sortF (kp a b j ++ [(w1, w2, ())]), ((j + 1 : Nat) : Int), ())) ?_ (s := (c1 ++ [(w1, w2, ())], (j : Int), (c1.length : Int), ())) ⟨rfl, c1.length, (w1, w2, ()), rfl, by omega, by simp, by simp⟩)
        rintro ⟨d1, d2, d3, ⟨⟩⟩ ⟨f1, p, y, f3, hp, f4, f5⟩
        simp only at f1 f3 f4
        subst f1 f3 f4
        have htl : (c1.take p).length = p := by rw [List.length_take]; omega
        have hmid : (c1.take p ++ y :: c1.drop p)[p]? = some y := by have := get_mid y (c1.drop p) (c1.take p); rw [htl] at this; exact this
        have hset : ∀ z, (c1.take p ++ y :: c1.drop p).set p z = c1.take p ++ z :: c1.drop p := fun z => by have := set_mid y z (c1.drop p) (c1.take p); rw [htl] at this; exact this
        have hlen : (c1.take p ++ y :: c1.drop p).length = c1.length + 1 := by simp; omega
        have hin : 0 ≤ (p : Int) ∧ (p : Int) < (((c1.take p ++ y :: c1.drop p).length : Nat) : Int) := by rw [hlen]; omega
        by_cases hp0 : p = 0
        · right
          have q5 : ¬ ((p : Int) > 0) := by omega
          rw [hfin p hp (fun u h => by omega) f5]
          simp only [q5, decide_false, Bool.false_eq_true, if_false, atC_val hw, hin, and_self, if_true, atC_val hmid, Int.toNat_natCast, hset, hwr]
          rfl
        · have q5 : ((p : Int) > 0) := by omega
          have hwr3 : IntKind.wrap .i64 ((p : Int) - 1) = ((p - 1 : Nat) : Int) := by rw [wrap_i64 (by omega) (by omega)]; omega
          obtain ⟨u, hu⟩ : ∃ u, c1[p - 1]? = some u := ⟨_, List.getElem?_eq_getElem (by omega)⟩
          have hu6 := hk6 u (List.mem_of_getElem? hu)
          have hup : (c1.take p ++ y :: c1.drop p)[p - 1]? = some u := by rw [List.getElem?_append_left (by omega), List.getElem?_take, if_pos (by omega)]; exact hu
          have hin' : 0 ≤ ((p - 1 : Nat) : Int) ∧ ((p - 1 : Nat) : Int) < (((c1.take p ++ y :: c1.drop p).length : Nat) : Int) := by rw [hlen]; omega
          simp only [q5, decide_true, if_true, atC_val hw, hwr3, hin', and_self, atC_val hup, less_eq w2 u.2.1 (by omega) (by omega), Option.bind_some]
          by_cases hc5 : cmpL w2 u.2.1 < 0
          · left
            have hd : c1.drop (p - 1) = u :: c1.drop p := by
              obtain ⟨h', rfl⟩ := List.getElem?_eq_some_iff.1 hu
              have := List.drop_eq_getElem_cons h'
              rw [show p - 1 + 1 = p by omega] at this
              exact this
            have ht : c1.take p = c1.take (p - 1) ++ [u] := by
              have := List.take_add_one (l := c1) (i := p - 1)
              rw [hu, show p - 1 + 1 = p by omega] at this
              exact this
            refine ⟨(c1.take (p - 1) ++ u :: c1.drop (p - 1), (j : Int), ((p - 1 : Nat) : Int), ()), ?_, ⟨rfl, p - 1, u, rfl, by omega, rfl, fun x hx => ?_⟩, trivial, by simp; omega⟩
            · simp only [hc5, decide_true, if_true, hin, hin', and_self, atC_val hup, atC_val hmid, Int.toNat_natCast, hset]
              rw [hd]
              conv => lhs; rw [ht]
              simp
            · rw [hd] at hx
              rcases List.mem_cons.1 hx with rfl | hx
              · exact hc5
              · exact f5 x hx
          · right
            rw [hfin p hp (fun x _ hx => by rw [hu] at hx; injection hx with hx; subst hx; omega) f5]
            simp only [hc5, decide_false, Bool.false_eq_true, if_false, hin, and_self, if_true, atC_val hmid, Int.toNat_natCast, hset, hwr]
            rfl
  · right
    have q2 : ¬ ((j : Int) < ((a ++ b).length : Int)) := by omega
    have e : j = (a ++ b).length := by omega
    subst e
    rw [hall] at g2
    rw [List.take_of_length_le (by omega)] at g3
    have hkl2 : kept.length = (keepA a b ++ keepB a b).length := by rw [g2, (sortF_perm _).length_eq]
    simp only [q2, decide_false, Bool.false_eq_true, if_false]
    unfold mrgE
    rw [findIdx_none g3]
    by_cases h16 : (keepA a b ++ keepB a b).length > 16
    · have h16' : ((kept.length : Nat) : Int) > 16 := by omega
      simp only [h16', h16, decide_true, if_true]
      exact ⟨_, rfl, rfl⟩
    · have h16' : ¬ (((kept.length : Nat) : Int) > 16) := by omega
      simp only [h16', h16, decide_false, Bool.false_eq_true, if_false]
      exact ⟨_, rfl, by rw [g2]; rfl⟩
open Classical in
theorem Merged_exact (a b : List Vv) : changeforgeref2_MergedValues_12 (a, b, ()) = some (mergeF a b) := by
  have hf := ValuesFault_eq a
  have hg := ValuesFault_eq b
  have hcase := valF_cases a
  have hcase' := valF_cases b
  unfold mergeF
  generalize valF a = f at hf hcase
  generalize valF b = g at hg hcase'
  rcases hcase with ⟨rfl, ha⟩ | ⟨hne, _⟩
  · rcases hcase' with ⟨rfl, hb⟩ | ⟨hne, _⟩
    · simp only [not_true, if_false]
      exact Merged_good a b ha hb hf hg
    · have h0 : (g.1 != 0) = true := by simpa using hne
      unfold changeforgeref2_MergedValues_12
      simp only [hf, hg, Option.bind_some, bne_self_eq_false, Bool.false_eq_true, if_false, h0, if_true, AtV_eq, not_true, hne, not_false_eq_true]
  · have h0 : (f.1 != 0) = true := by simpa using hne
    unfold changeforgeref2_MergedValues_12
    simp only [hf, Option.bind_some, h0, if_true, hne, not_false_eq_true]
theorem writeF_ok (l : List Vv) (r v : Int) : (writeF l r v).1.length ≤ 1000000 ∧ ∀ u ∈ (writeF l r v).1, u.2.1.length ≤ 1000000 := by
  unfold writeF
  split
  · simp
  · rename_i h0
    have hok : okR l := (valF_cases l).elim (fun h => h.2) fun h => absurd h.1 h0
    have hw := (wF_ok l (okR_vec hok)).1
    split
    · simp
    · split
      · simp
      · split
        · simp
        · refine ⟨by simp, fun u hu => ?_⟩
          rw [List.mem_singleton.1 hu]
          simp only [List.length_set]; rw [hw.1]; omega
theorem mergeF_ok (a b : List Vv) : (mergeF a b).1.length ≤ 1000000 ∧ ∀ u ∈ (mergeF a b).1, u.2.1.length ≤ 1000000 := by
  unfold mergeF
  split
  · simp
  · split
    · simp
    · rename_i h0 h1
      simp only [Decidable.not_not] at h0 h1
      have ha : okR a := (valF_cases a).elim (fun h => h.2) fun h => absurd h0 h.1
      have hb : okR b := (valF_cases b).elim (fun h => h.2) fun h => absurd h1 h.1
      unfold mrgE
      split
      · simp
      · split
        · simp
        · have hl := keep_len a b ha hb
          refine ⟨by unfold mrgF; rw [(sortF_perm _).length_eq]; omega, fun u hu => ?_⟩
          have := (mrgF_mem.1 hu).elim (fun h => (okR_vec ha u (keepA_mem.1 h).1).1) fun h => (okR_vec hb u (keepB_mem.1 h).1).1
          omega
theorem MatchesSpec_eq (a b : List Vv) (r v : Int) : changeforgelaw2_MultivalueMatchesSpec_3 (a, b, r, v, ()) = some (true, ()) := by
  unfold changeforgelaw2_MultivalueMatchesSpec_3
  obtain ⟨w1, w2⟩ := writeF_ok a r v
  obtain ⟨m1, m2⟩ := mergeF_ok a b
  simp only [Write_exact, Written_exact, Merge_exact, Merged_exact, Validate_exact, ValuesFault_eq, Option.bind_some, BEq.rfl, Bool.and_self, if_true, Values_refl _ w1 w2, Values_refl _ m1 m2, first_eq]
end Go.Proofs.Ytoagphhldhpnmaa.F
end
