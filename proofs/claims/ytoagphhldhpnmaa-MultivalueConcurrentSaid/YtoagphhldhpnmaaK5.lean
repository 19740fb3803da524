/- Texts of ours, put together: PA, PB, PC, PD, PE, PF, PG. -/
import Derived.Test.YtoagphhldhpnmaaK4
section
/- What the functions compute, said shortly: vectors. -/
namespace Go.Proofs.Ytoagphhldhpnmaa.F
open Go Go.Proofs.Ytoagphhldhpnmaa.V

abbrev Vv := Int × List Int × Unit
abbrev Fault := Int × Int × Unit
def cmpL : List Int → List Int → Int
  | [], [] => 0
  | [], _ :: _ => -1
  | _ :: _, [] => 1
  | a :: l, b :: m => if a < b then -1 else if b < a then 1 else cmpL l m
theorem cmp_eq (a b : Int) : cmp_Compare_int__35 (a, b, ()) = some (if a < b then -1 else if b < a then 1 else 0, ()) := by
  unfold cmp_Compare_int__35 cmp_isNaN_int__47
  by_cases h : a < b
  · simp [h]
  · by_cases h' : b < a
    · simp [h, h']
    · simp [h, h']
theorem Compare_eq (a b : List Int) (ha : a.length ≤ 1000000) : slices_Compare___int_int__29 (a, b, ()) = some (cmpL a b, ()) := by
  unfold slices_Compare___int_int__29
  simp only []
  refine (loop_val (fun s => ∃ i : Nat, s.1 = (i : Int) ∧ i ≤ a.length ∧ cmpL a b = cmpL (a.drop i) (b.drop i)) (fun s => a.length - s.1.toNat) (fun s => (cmpL a b, ())) ?_ (s := (0, ())) ⟨0, rfl, by omega, rfl⟩)
  rintro ⟨a1, ⟨⟩⟩ ⟨i, h1, hi, hc⟩
  simp only at h1
  subst h1
  by_cases hlt : i < a.length
  · have h2 : ((i : Int) < (a.length : Int)) := by omega
    have hg : a[i]? = some a[i] := List.getElem?_eq_getElem hlt
    have hd : a.drop i = a[i] :: a.drop (i + 1) := List.drop_eq_getElem_cons hlt
    generalize a[i] = x at hg hd
    simp only [h2, decide_true, if_true, atC_val hg]
    by_cases hb : (i : Int) ≥ (b.length : Int)
    · right
      rw [hd, List.drop_eq_nil_of_le (show b.length ≤ i from by omega)] at hc
      simp only [hb, decide_true, if_true, hc, cmpL]
    · have hlt' : i < b.length := by omega
      have hg' : b[i]? = some b[i] := List.getElem?_eq_getElem hlt'
      have hd' : b.drop i = b[i] :: b.drop (i + 1) := List.drop_eq_getElem_cons hlt'
      generalize b[i] = y at hg' hd'
      rw [hd, hd'] at hc
      simp only [cmpL] at hc
      simp only [hb, decide_false, Bool.false_eq_true, if_false, atC_val hg', cmp_eq, Option.bind_some]
      by_cases h3 : x < y
      · right
        simp only [h3, if_true] at hc ⊢
        rw [hc]; rfl
      · by_cases h4 : y < x
        · right
          simp only [h3, h4, if_true, if_false] at hc ⊢
          rw [hc]; rfl
        · left
          simp only [h3, h4, if_false] at hc ⊢
          exact ⟨((i + 1 : Nat), ()), by simp [wrap_i64 (n := (i : Int) + 1) (by omega) (by omega)], ⟨i + 1, rfl, hlt, hc⟩, trivial, by simp; omega⟩
  · right
    have h2 : ¬ ((i : Int) < (a.length : Int)) := by omega
    rw [List.drop_eq_nil_of_le (show a.length ≤ i from by omega)] at hc
    simp only [h2, decide_false, Bool.false_eq_true, if_false]
    by_cases h3 : (a.length : Int) < (b.length : Int)
    · cases hb : b.drop i with
      | nil => have := congrArg List.length hb; simp at this; omega
      | cons y r => rw [hb] at hc; simp only [h3, decide_true, if_true, hc, cmpL]; rfl
    · rw [List.drop_eq_nil_of_le (show b.length ≤ i from by omega)] at hc
      simp only [h3, decide_false, Bool.false_eq_true, if_false, hc, cmpL]; rfl
theorem cmpL_neg : ∀ (a b : List Int), cmpL a b = - cmpL b a
  | [], [] => rfl
  | [], _ :: _ => rfl
  | _ :: _, [] => rfl
  | a :: l, b :: m => by
    simp only [cmpL]
    by_cases h1 : a < b
    · simp [h1, show ¬ b < a from by omega]
    · by_cases h2 : b < a
      · simp [h1, h2]
      · simp [h1, h2, cmpL_neg l m]
theorem cmpL_zero : ∀ (a b : List Int), cmpL a b = 0 → a = b
  | [], [], _ => rfl
  | [], _ :: _, h => by simp [cmpL] at h
  | _ :: _, [], h => by simp [cmpL] at h
  | a :: l, b :: m, h => by
    simp only [cmpL] at h
    split at h
    · simp at h
    · split at h
      · simp at h
      · rw [cmpL_zero l m h, show a = b from by omega]

/-- No entry is less. -/
def Cov (a b : List Int) : Prop := ∀ i, i < a.length → b.getD i 0 ≤ a.getD i 0
instance (a b : List Int) : Decidable (Cov a b) := by unfold Cov; infer_instance
theorem covers_eq (a b : List Int) (h : a.length ≤ b.length) (ha : b.length ≤ 1000000) : multivalue_covers_21 (a, b, ()) = some (decide (Cov a b), ()) := by
  unfold multivalue_covers_21
  simp only []
  refine (loop_val (fun s => ∃ i : Nat, s.1 = (i : Int) ∧ i ≤ a.length ∧ ∀ j, j < i → b.getD j 0 ≤ a.getD j 0) (fun s => a.length - s.1.toNat) (fun s => (decide (Cov a b), ())) ?_ (s := (0, ())) ⟨0, rfl, by omega, fun j hj => by omega⟩)
  rintro ⟨a1, ⟨⟩⟩ ⟨i, h1, hi, hc⟩
  simp only at h1
  subst h1
  by_cases hlt : i < a.length
  · have h2 : ((i : Int) < (a.length : Int)) := by omega
    have hg : a[i]? = some (a.getD i 0) := by rw [List.getD_eq_getElem?_getD, List.getElem?_eq_getElem hlt]; rfl
    have hg' : b[i]? = some (b.getD i 0) := by rw [List.getD_eq_getElem?_getD, List.getElem?_eq_getElem (by omega)]; rfl
    simp only [h2, decide_true, if_true, atC_val hg, atC_val hg']
    by_cases h3 : a.getD i 0 < b.getD i 0
    · right
      have : ¬ Cov a b := fun hC => by have := hC i hlt; omega
      simp only [h3, decide_true, if_true, this, decide_false]
    · left
      refine ⟨((i + 1 : Nat), ()), ?_, ⟨i + 1, rfl, hlt, fun j hj => ?_⟩, trivial, by simp; omega⟩
      · simp only [h3, decide_false, Bool.false_eq_true, if_false, wrap_i64 (n := (i : Int) + 1) (by omega) (by omega)]; rfl
      · by_cases e : j = i
        · subst e; omega
        · exact hc j (by omega)
  · right
    have h2 : ¬ ((i : Int) < (a.length : Int)) := by omega
    have : Cov a b := fun j hj => hc j (by omega)
    simp only [h2, decide_false, Bool.false_eq_true, if_false, this, decide_true]; rfl
theorem Equal_eq (a b : List Int) (ha : a.length ≤ 1000000) : slices_Equal___int_int__22 (a, b, ()) = some (decide (a = b), ()) := by
  unfold slices_Equal___int_int__22
  by_cases hl : a.length = b.length
  · have h0 : (((a.length : Int)) != (b.length : Int)) = false := by simp [hl]
    simp only [h0, Bool.false_eq_true, if_false]
    refine (loop_val (fun s => ∃ i : Nat, s.1 = (i : Int) ∧ i ≤ a.length) (fun s => a.length - s.1.toNat) (fun s => (decide (a.drop s.1.toNat = b.drop s.1.toNat), ())) ?_ (s := (0, ())) ⟨0, rfl, by omega⟩)
    rintro ⟨a1, ⟨⟩⟩ ⟨i, h1, hi⟩
    simp only at h1
    subst h1
    by_cases hlt : i < a.length
    · have h2 : ((i : Int) < (a.length : Int)) := by omega
      have hg : a[i]? = some a[i] := List.getElem?_eq_getElem hlt
      have hg' : b[i]? = some (b[i]'(by omega)) := List.getElem?_eq_getElem (by omega)
      have hd : a.drop i = a[i] :: a.drop (i + 1) := List.drop_eq_getElem_cons hlt
      have hd' : b.drop i = (b[i]'(by omega)) :: b.drop (i + 1) := List.drop_eq_getElem_cons (by omega)
      generalize a[i] = x at hg hd
      generalize b[i]'(by omega) = y at hg' hd'
      simp only [h2, decide_true, if_true, atC_val hg, atC_val hg', Int.toNat_natCast, hd, hd']
      by_cases hxy : x = y
      · subst hxy
        left
        refine ⟨((i + 1 : Nat), ()), ?_, ⟨i + 1, rfl, hlt⟩, by simp, by simp; omega⟩
        simp only [bne_self_eq_false, Bool.false_eq_true, if_false, wrap_i64 (n := (i : Int) + 1) (by omega) (by omega)]
        rfl
      · right
        have : (x != y) = true := by simpa using hxy
        simp [this, hxy]
    · right
      have h2 : ¬ ((i : Int) < (a.length : Int)) := by omega
      simp only [h2, decide_false, Bool.false_eq_true, if_false, Int.toNat_natCast, List.drop_eq_nil_of_le (show a.length ≤ i from by omega), List.drop_eq_nil_of_le (show b.length ≤ i from by omega), decide_true]
      rfl
  · have h0 : (((a.length : Int)) != (b.length : Int)) = true := by simp; omega
    have : ¬ a = b := fun e => hl (by rw [e])
    simp [h0, this]
theorem Clone_eq (l : List Int) (h : l.length ≤ 1000000) : slices_Clone___int_int__23 (l, ()) = some (l, ()) := by
  unfold slices_Clone___int_int__23
  simp only []
  rw [nilC_val]
  · simp [maxLen]; omega
  · rintro rfl; simp [maxLen]
theorem Max_eq (l : List Int) (hl : l ≠ []) (h : l.length ≤ 1000000) (h0 : ∀ x ∈ l, 0 ≤ x) : ∃ m, slices_Max___int_int__36 (l, ()) = some (m, ()) ∧ (m = 0 ↔ ∀ x ∈ l, x = 0) := by
  unfold slices_Max___int_int__36
  have hlen : 0 < l.length := List.length_pos_iff.2 hl
  have h1 : ¬ ((l.length : Int) < 1) := by omega
  have hg0 : l[0]? = some l[0] := List.getElem?_eq_getElem hlen
  simp only [h1, decide_false, Bool.false_eq_true, if_false]
  rw [show ((0 : Int)) = ((0 : Nat) : Int) from rfl, atC_val hg0]
  obtain ⟨r, hr, hq⟩ := loop_inv (step := fun (s1 : Int × Int × Unit) =>
       let x5 := s1.1
       let x6 := s1.2.1
       let x7 : Int := (List.length l : Int)
       let x8 : Bool := decide ((x6 : Int) < x7)
       if x8 = true then
        atC l x6 fun y9 =>
         let x9 : Int := y9
         let x10 : Int := x9
         let x11 : Int := (if (x10 : Int) > x5 then x10 else x5)
         let x12 : Int := IntKind.wrap .i64 (x6 + 1)
         some (.inl (x11, x12, ()))
       else
        Option.map .inr (some (x5, ())))
    (fun s => ∃ i : Nat, s.2.1 = (i : Int) ∧ 1 ≤ i ∧ i ≤ l.length ∧ 0 ≤ s.1 ∧ (s.1 = 0 ↔ ∀ x ∈ l.take i, x = 0)) (fun s => l.length - s.2.1.toNat) (fun r : Int × Unit => r.1 = 0 ↔ ∀ x ∈ l, x = 0) (s := (l[0], 1, ())) (by
      rintro ⟨m, a2, ⟨⟩⟩ ⟨i, h1, hi1, hi, hm, hz⟩
      simp only at h1 hm hz
      subst h1
      by_cases hlt : i < l.length
      · left
        have h2 : ((i : Int) < (l.length : Int)) := by omega
        have hg : l[i]? = some l[i] := List.getElem?_eq_getElem hlt
        have hx := h0 _ (List.getElem_mem hlt)
        have ht : l.take (i + 1) = l.take i ++ [l[i]] := by rw [List.take_add_one, hg]; rfl
        generalize l[i] = x at hg hx ht
        refine ⟨(if x > m then x else m, ((i + 1 : Nat) : Int), ()), ?_, ⟨i + 1, rfl, by omega, hlt, by simp only; split <;> omega, ?_⟩, by simp; omega⟩
        · simp only [h2, decide_true, if_true, atC_val hg, wrap_i64 (n := (i : Int) + 1) (by omega) (by omega)]; rfl
        · rw [ht]
          simp only [List.mem_append, List.mem_singleton]
          constructor
          · intro e y hy
            split at e
            · omega
            · rcases hy with hy | rfl
              · exact hz.1 e y hy
              · omega
          · intro e
            have e1 := hz.2 fun y hy => e y (.inl hy)
            have e2 := e x (.inr rfl)
            split <;> omega
      · right
        have h2 : ¬ ((i : Int) < (l.length : Int)) := by omega
        refine ⟨(m, ()), ?_, ?_⟩
        · simp only [h2, decide_false, Bool.false_eq_true, if_false]; rfl
        · rw [List.take_of_length_le (by omega)] at hz; exact hz) ⟨1, rfl, by omega, by omega, h0 _ (List.getElem_mem hlen), by
          have : l.take 1 = [l[0]] := by rw [List.take_add_one, hg0]; rfl
          rw [this]; simp⟩
  exact ⟨r.1, hr, hq⟩
end Go.Proofs.Ytoagphhldhpnmaa.F
end
section
/- What the functions compute, said shortly: registers that are valid. -/
namespace Go.Proofs.Ytoagphhldhpnmaa.F
open Go Go.Proofs.Ytoagphhldhpnmaa.V

def vecOk (v : List Int) : Prop := v.length = 6 ∧ ∀ x ∈ v, 0 ≤ x ∧ x ≤ 1000000000
def okE (l : List Vv) (i : Nat) (v : Vv) : Prop := 0 ≤ v.1 ∧ v.1 ≤ 1000000000 ∧ vecOk v.2.1 ∧ (¬ ∀ x ∈ v.2.1, x = 0) ∧ (∀ u, 0 < i → l[i - 1]? = some u → cmpL u.2.1 v.2.1 < 0) ∧ ∀ u ∈ l.take i, ¬ Cov u.2.1 v.2.1 ∧ ¬ Cov v.2.1 u.2.1
theorem code_eq (l : List Vv) (i : Nat) (v : Vv) (hv : l[i]? = some v) (hi : i ≤ 1000000) (hl : ∀ u ∈ l.take i, u.2.1.length = 6) : ∃ c, multivalue_code_31 (l, (i : Int), ()) = some (c, ()) ∧ (c = 0 ↔ okE l i v) := by
  obtain ⟨x, vec, ⟨⟩⟩ := v
  have hlt : i < l.length := (List.getElem?_eq_some_iff.1 hv).1
  unfold multivalue_code_31
  simp only [atC_val hv]
  by_cases h1 : x < 0
  · simp only [h1, decide_true, if_true]
    exact ⟨3, rfl, by simp, fun h => by have := h.1; simp only at this; omega⟩
  · by_cases h2 : x > 1000000000
    · simp only [h1, h2, decide_true, decide_false, Bool.false_eq_true, if_false, if_true]
      exact ⟨3, rfl, by simp, fun h => by have := h.2.1; simp only at this; omega⟩
    · by_cases h3 : vec.length = 6
      · have h3' : ((vec.length : Int) != 6) = false := by simp; omega
        simp only [h1, h2, h3', decide_false, Bool.false_eq_true, if_false]
        -- behind the entries
        suffices key : ∃ r : Int × Unit, _ = some r ∧ (r.1 = 0 ↔ okE l i (x, vec, ())) from by
          obtain ⟨⟨c, ⟨⟩⟩, h, hq⟩ := key; exact ⟨c, h, hq⟩
        refine loop_inv (fun s => ∃ k : Nat, s.1 = (k : Int) ∧ k ≤ vec.length ∧ ∀ y ∈ vec.take k, 0 ≤ y ∧ y ≤ 1000000000) (fun s => vec.length - s.1.toNat) (fun r : Int × Unit => r.1 = 0 ↔ okE l i (x, vec, ())) ?_ (s := (0, ())) ⟨0, rfl, by omega, fun y hy => by simp at hy⟩
        rintro ⟨a1, ⟨⟩⟩ ⟨k, g1, hk, hall⟩
        simp only at g1
        subst g1
        by_cases hkl : k < vec.length
        · have g2 : ((k : Int) < (vec.length : Int)) := by omega
          have hg : vec[k]? = some vec[k] := List.getElem?_eq_getElem hkl
          have hmem := List.getElem_mem hkl
          have ht : vec.take (k + 1) = vec.take k ++ [vec[k]] := by rw [List.take_add_one, hg]; rfl
          generalize vec[k] = y at hg hmem ht
          simp only [g2, decide_true, if_true, atC_val hg]
          by_cases h4 : y < 0
          · right
            simp only [h4, decide_true, if_true]
            exact ⟨_, rfl, by simp, fun h => by have := (h.2.2.1.2 y hmem).1; omega⟩
          · by_cases h5 : y > 1000000000
            · right
              simp only [h4, h5, decide_true, decide_false, Bool.false_eq_true, if_false, if_true]
              exact ⟨_, rfl, by simp, fun h => by have := (h.2.2.1.2 y hmem).2; omega⟩
            · left
              refine ⟨((k + 1 : Nat), ()), ?_, ⟨k + 1, rfl, hkl, fun z hz => ?_⟩, by simp; omega⟩
              · simp only [h4, h5, decide_false, Bool.false_eq_true, if_false, wrap_i64 (n := (k : Int) + 1) (by omega) (by omega)]; rfl
              · rw [ht, List.mem_append, List.mem_singleton] at hz
                rcases hz with hz | rfl
                · exact hall z hz
                · omega
        · right
          have g2 : ¬ ((k : Int) < (vec.length : Int)) := by omega
          rw [List.take_of_length_le (by omega)] at hall
          obtain ⟨m, hm, hmz⟩ := Max_eq vec (fun e => by rw [e] at h3; simp at h3) (by omega) fun y hy => (hall y hy).1
          simp only [g2, decide_false, Bool.false_eq_true, if_false, hm, Option.bind_some]
          by_cases h4 : m = 0
          · simp only [h4, BEq.rfl, if_true]
            exact ⟨_, rfl, by simp, fun h => (h.2.2.2.1 (hmz.1 h4)).elim⟩
          · have h4' : (m == 0) = false := by simpa using h4
            simp only [h4', Bool.false_eq_true, if_false]
            have hnz : ¬ ∀ x ∈ vec, x = 0 := fun h => h4 (hmz.2 h)
            -- the row ahead
            have rest : (∀ u, 0 < i → l[i - 1]? = some u → cmpL u.2.1 vec < 0) → ∃ r : Int × Unit, (if 0 ≤ (0 : Int) ∧ (0 : Int) ≤ (i : Int) ∧ (i : Int) ≤ (l.length : Int) then
                loopC (fun (s1 : Int × Unit) => if decide (s1.1 < ((List.drop (Int.toNat (0 : Int)) (List.take (Int.toNat (i : Int)) l)).length : Int)) = true then
                  atC (List.drop (Int.toNat (0 : Int)) (List.take (Int.toNat (i : Int)) l)) s1.1 fun y15 =>
                    Option.bind (multivalue_covers_21 (y15.2.1, vec, ())) fun r19 => if r19.1 = true then (if true = true then some (Sum.inr ((19 : Int), ())) else some (.inl (IntKind.wrap .i64 (s1.1 + 1), ()))) else Option.bind (multivalue_covers_21 (vec, y15.2.1, ())) fun r20 => if r20.1 = true then some (.inr (19, ())) else some (.inl (IntKind.wrap .i64 (s1.1 + 1), ()))
                  else Option.map .inr (some ((0 : Int), ()))) (0, ())
                else none) = some r ∧ (r.1 = 0 ↔ okE l i (x, vec, ())) := by
              intro hprev
              rw [if_pos (by omega)]
              simp only [Int.toNat_natCast, Int.toNat_zero, List.drop_zero]
              have hti : (l.take i).length = i := by rw [List.length_take]; omega
              refine loop_inv (fun s => ∃ k : Nat, s.1 = (k : Int) ∧ k ≤ i ∧ ∀ u ∈ l.take k, ¬ Cov u.2.1 vec ∧ ¬ Cov vec u.2.1) (fun s => i - s.1.toNat) (fun r : Int × Unit => r.1 = 0 ↔ okE l i (x, vec, ())) ?_ (s := (0, ())) ⟨0, rfl, by omega, fun y hy => by simp at hy⟩
              rintro ⟨a1, ⟨⟩⟩ ⟨k, g1, hk, hcov⟩
              simp only at g1
              subst g1
              by_cases hkl : k < i
              · have g2 : ((k : Int) < (((l.take i).length : Nat) : Int)) := by omega
                have hg : (l.take i)[k]? = some l[k] := by rw [List.getElem?_take, if_pos hkl, List.getElem?_eq_getElem]
                have hmem : l[k] ∈ l.take i := List.mem_of_getElem? hg
                have ht : l.take (k + 1) = l.take k ++ [l[k]] := by rw [List.take_add_one, List.getElem?_eq_getElem (by omega)]; rfl
                generalize l[k] = u at hg hmem ht
                have hul := hl u hmem
                simp only [g2, decide_true, if_true, atC_val hg, covers_eq u.2.1 vec (by omega) (by omega), covers_eq vec u.2.1 (by omega) (by omega), Option.bind_some, decide_eq_true_eq]
                by_cases c1 : Cov u.2.1 vec
                · right
                  rw [if_pos c1]
                  exact ⟨_, rfl, by simp, fun h => ((h.2.2.2.2.2 u hmem).1 c1).elim⟩
                · rw [if_neg c1]
                  by_cases c2 : Cov vec u.2.1
                  · right
                    rw [if_pos c2]
                    exact ⟨_, rfl, by simp, fun h => ((h.2.2.2.2.2 u hmem).2 c2).elim⟩
                  · left
                    rw [if_neg c2]
                    refine ⟨((k + 1 : Nat), ()), ?_, ⟨k + 1, rfl, hkl, fun z hz => ?_⟩, by simp; omega⟩
                    · rw [wrap_i64 (n := (k : Int) + 1) (by omega) (by omega)]; rfl
                    · rw [ht, List.mem_append, List.mem_singleton] at hz
                      rcases hz with hz | rfl
                      · exact hcov z hz
                      · exact ⟨c1, c2⟩
              · right
                have g2 : ¬ ((k : Int) < (((l.take i).length : Nat) : Int)) := by omega
                simp only [g2, decide_false, Bool.false_eq_true, if_false]
                refine ⟨_, rfl, fun _ => ⟨by simp only; omega, by simp only; omega, ⟨h3, hall⟩, hnz, hprev, ?_⟩, fun _ => rfl⟩
                rw [show k = i from by omega] at hcov
                exact hcov
            by_cases h5 : (i : Int) > 0
            · have hw : IntKind.wrap .i64 ((i : Int) - 1) = ((i - 1 : Nat) : Int) := by rw [wrap_i64 (by omega) (by omega)]; omega
              obtain ⟨u, hu⟩ : ∃ u, l[i - 1]? = some u := ⟨_, List.getElem?_eq_getElem (by omega)⟩
              have hmem : u ∈ l.take i := List.mem_of_getElem? (i := i - 1) (by rw [List.getElem?_take, if_pos (by omega)]; exact hu)
              simp only [h5, decide_true, if_true, hw, atC_val hu, Compare_eq u.2.1 vec (by have := hl u hmem; omega), Option.bind_some]
              by_cases h6 : cmpL u.2.1 vec ≥ 0
              · simp only [h6, decide_true, if_true]
                exact ⟨_, rfl, by simp, fun h => by have := h.2.2.2.2.1 u (by omega) hu; simp only at this; omega⟩
              · obtain ⟨r, hr, hq⟩ := rest fun u' _ hu' => by rw [hu] at hu'; injection hu' with hu'; subst hu'; omega
                simp only [h6, decide_false, Bool.false_eq_true, if_false]
                refine ⟨r, ?_, hq⟩
                have e := congrArg (Option.map (Sum.inr (α := Int × Unit))) hr
                exact e
            · obtain ⟨r, hr, hq⟩ := rest fun u' h' _ => by omega
              simp only [h5, decide_false, Bool.false_eq_true, if_false]
              refine ⟨r, ?_, hq⟩
              have e := congrArg (Option.map (Sum.inr (α := Int × Unit))) hr
              exact e
      · have h3' : ((vec.length : Int) != 6) = true := by simp; omega
        simp only [h1, h2, h3', decide_false, Bool.false_eq_true, if_false, if_true]
        exact ⟨9, rfl, by simp, fun h => (h3 h.2.2.1.1).elim⟩
def okR (l : List Vv) : Prop := l.length ≤ 16 ∧ ∀ i v, l[i]? = some v → okE l i v
theorem Validate_eq (l : List Vv) : ∃ f, multivalue_Validate_13 (l, ()) = some (f, ()) ∧ ((f = (0, 0, ()) ∧ okR l) ∨ (¬ f.1 = 0 ∧ ¬ okR l)) := by
  unfold multivalue_Validate_13
  by_cases hl : (l.length : Int) > 16
  · simp only [hl, decide_true, if_true]
    exact ⟨_, rfl, .inr ⟨by simp, fun h => by have := h.1; omega⟩⟩
  · simp only [hl, decide_false, Bool.false_eq_true, if_false]
    suffices key : ∃ r : Fault × Unit, _ = some r ∧ ((r.1 = (0, 0, ()) ∧ okR l) ∨ (¬ r.1.1 = 0 ∧ ¬ okR l)) from by
      obtain ⟨⟨c, ⟨⟩⟩, h, hq⟩ := key; exact ⟨c, h, hq⟩
    refine loop_inv (fun s => ∃ k : Nat, s.1 = (k : Int) ∧ k ≤ l.length ∧ ∀ j v, j < k → l[j]? = some v → okE l j v) (fun s => l.length - s.1.toNat) _ ?_ (s := (0, ())) ⟨0, rfl, by omega, fun j v hj => by omega⟩
    rintro ⟨a1, ⟨⟩⟩ ⟨k, g1, hk, hall⟩
    simp only at g1
    subst g1
    by_cases hkl : k < l.length
    · have g2 : ((k : Int) < (l.length : Int)) := by omega
      have hg : l[k]? = some l[k] := List.getElem?_eq_getElem hkl
      generalize l[k] = v at hg
      obtain ⟨c, hc, hq⟩ := code_eq l k v hg (by omega) fun u hu => by
        obtain ⟨j, hj⟩ := List.mem_iff_getElem?.1 hu
        rw [List.getElem?_take] at hj
        split at hj
        · rename_i hjk; exact (hall j u hjk hj).2.2.1.1
        · cases hj
      simp only [g2, decide_true, if_true, hc, Option.bind_some]
      by_cases hz : c = 0
      · left
        have hz' : (c != 0) = false := by simpa using hz
        simp only [hz', Bool.false_eq_true, if_false]
        refine ⟨((k + 1 : Nat), ()), by rw [wrap_i64 (n := (k : Int) + 1) (by omega) (by omega)]; rfl, ⟨k + 1, rfl, hkl, fun j w hj hw => ?_⟩, by simp; omega⟩
        by_cases e : j = k
        · subst e; rw [hg] at hw; injection hw with hw; subst hw; exact hq.1 hz
        · exact hall j w (by omega) hw
      · right
        have hz' : (c != 0) = true := by simpa using hz
        simp only [hz', if_true]
        exact ⟨_, rfl, .inr ⟨hz, fun h => hz (hq.2 (h.2 k v hg))⟩⟩
    · right
      have g2 : ¬ ((k : Int) < (l.length : Int)) := by omega
      simp only [g2, decide_false, Bool.false_eq_true, if_false]
      refine ⟨_, rfl, .inl ⟨rfl, by omega, fun j v hj => hall j v ?_ hj⟩⟩
      have := (List.getElem?_eq_some_iff.1 hj).1
      omega
end Go.Proofs.Ytoagphhldhpnmaa.F
end
section
/- What the functions compute, said shortly: writing. -/
namespace Go.Proofs.Ytoagphhldhpnmaa.F
open Go Go.Proofs.Ytoagphhldhpnmaa.V

def mx2 (a b : Int) : Int := if b > a then b else a
def mx (w v : List Int) : List Int := (List.range 6).map fun j => mx2 (w.getD j 0) (v.getD j 0)
def wF (l : List Vv) : List Int := l.foldl (fun w u => mx w u.2.1) [0, 0, 0, 0, 0, 0]
theorem mx_len (w v : List Int) : (mx w v).length = 6 := by simp [mx]
theorem mx_get (w v : List Int) {j : Nat} (hj : j < 6) : (mx w v).getD j 0 = mx2 (w.getD j 0) (v.getD j 0) := by
  rw [List.getD_eq_getElem?_getD]; simp [mx, hj]
theorem ext6 {a b : List Int} (ha : a.length = 6) (hb : b.length = 6) (h : ∀ j, j < 6 → a.getD j 0 = b.getD j 0) : a = b := by
  apply List.ext_getElem (by omega)
  intro j h1 h2
  have := h j (by omega)
  rw [List.getD_eq_getElem?_getD, List.getD_eq_getElem?_getD, List.getElem?_eq_getElem h1, List.getElem?_eq_getElem h2] at this
  exact this
theorem wF_snoc (l : List Vv) (u : Vv) : wF (l ++ [u]) = mx (wF l) u.2.1 := by simp [wF]
theorem getD_mem {l : List Int} {j : Nat} (h : j < l.length) : l.getD j 0 ∈ l := by
  rw [List.getD_eq_getElem?_getD, List.getElem?_eq_getElem h]; exact List.getElem_mem h
theorem mem_getD {l : List Int} {x : Int} (h : x ∈ l) : ∃ j, j < l.length ∧ l.getD j 0 = x := by
  obtain ⟨j, hj, e⟩ := List.mem_iff_getElem.1 h
  exact ⟨j, hj, by rw [List.getD_eq_getElem?_getD, List.getElem?_eq_getElem hj]; exact e⟩
theorem wF_ok (l : List Vv) (h : ∀ u ∈ l, vecOk u.2.1) : vecOk (wF l) ∧ ∀ u ∈ l, Cov (wF l) u.2.1 := by
  have key : ∀ (l : List Vv) (w : List Int), vecOk w → (∀ u ∈ l, vecOk u.2.1) → vecOk (l.foldl (fun w u => mx w u.2.1) w) ∧ Cov (l.foldl (fun w u => mx w u.2.1) w) w ∧ ∀ u ∈ l, Cov (l.foldl (fun w u => mx w u.2.1) w) u.2.1 := by
    intro l
    induction l with
    | nil => intro w hw _; exact ⟨hw, fun j hj => Int.le_refl _, fun u hu => by cases hu⟩
    | cons u l ih =>
      intro w hw hl
      have hu := hl u (by simp)
      have hm : vecOk (mx w u.2.1) := by
        refine ⟨mx_len _ _, fun x hx => ?_⟩
        obtain ⟨j, hj, rfl⟩ := mem_getD hx
        rw [mx_len] at hj
        rw [mx_get _ _ hj]
        have a := hw.2 _ (getD_mem (l := w) (j := j) (by rw [hw.1]; exact hj))
        have b := hu.2 _ (getD_mem (l := u.2.1) (j := j) (by rw [hu.1]; exact hj))
        unfold mx2; split <;> omega
      obtain ⟨h1, h2, h3⟩ := ih (mx w u.2.1) hm fun x hx => hl x (by simp [hx])
      simp only [List.foldl_cons]
      have hc : ∀ v, (v = w ∨ v = u.2.1) → Cov (l.foldl (fun w u => mx w u.2.1) (mx w u.2.1)) v := by
        intro v hv j hj
        rw [h1.1] at hj
        have := h2 j (by rw [h1.1]; exact hj)
        rw [mx_get _ _ hj] at this
        unfold mx2 at this
        rcases hv with rfl | rfl <;> (split at this <;> omega)
      refine ⟨h1, hc w (.inl rfl), fun x hx => ?_⟩
      rcases List.mem_cons.1 hx with rfl | hx
      · exact hc _ (.inr rfl)
      · exact h3 x hx
  obtain ⟨h1, _, h3⟩ := key l [0, 0, 0, 0, 0, 0] ⟨rfl, fun x hx => by simp at hx; subst hx; decide⟩ h
  exact ⟨h1, h3⟩
theorem okR_vec {l : List Vv} (h : okR l) : ∀ u ∈ l, vecOk u.2.1 := fun u hu => by
  obtain ⟨j, hj⟩ := List.mem_iff_getElem?.1 hu
  exact (h.2 j u hj).2.2.1
theorem fz (f : Fault) (h : ¬ f.1 = 0) : (f.1 == 0 && (f.2.1 == 0 && true)) = false := by
  have : (f.1 == 0) = false := by simpa using h
  rw [this]; rfl
def WOk (l : List Vv) (r v : Int) (y : List Vv) : Prop := okR l ∧ ∃ k : Nat, r = (k : Int) ∧ k < 6 ∧ 0 ≤ v ∧ v ≤ 1000000000 ∧ (wF l).getD k 0 ≠ 1000000000 ∧ y = [(v, (wF l).set k ((wF l).getD k 0 + 1), ())]
theorem Write_eq (l : List Vv) (r v : Int) : ∃ y f, multivalue_Write_9 (l, r, v, ()) = some (y, f, ()) ∧ (¬ f.1 = 0 ∨ (f = (0, 0, ()) ∧ WOk l r v y)) := by
  obtain ⟨f, hf, hcase⟩ := Validate_eq l
  unfold multivalue_Write_9
  simp only [hf, Option.bind_some]
  rcases hcase with ⟨rfl, hok⟩ | ⟨hne, _⟩
  · simp only [BEq.rfl, Bool.and_self, Bool.not_true, Bool.false_eq_true, if_false]
    by_cases h1 : r < 0
    · simp only [h1, decide_true, if_true]
      exact ⟨_, _, rfl, .inl (by simp)⟩
    · by_cases h2 : r ≥ 6
      · simp only [h1, h2, decide_true, decide_false, Bool.false_eq_true, if_false, if_true]
        exact ⟨_, _, rfl, .inl (by simp)⟩
      · by_cases h3 : v < 0
        · simp only [h1, h2, h3, decide_true, decide_false, Bool.false_eq_true, if_false, if_true]
          exact ⟨_, _, rfl, .inl (by simp)⟩
        · by_cases h4 : v > 1000000000
          · simp only [h1, h2, h3, h4, decide_true, decide_false, Bool.false_eq_true, if_false, if_true]
            exact ⟨_, _, rfl, .inl (by simp)⟩
          · simp only [h1, h2, h3, h4, decide_false, Bool.false_eq_true, if_false]
            rw [if_pos (by omega)]
            have hrep : List.replicate (Int.toNat 6) (0 : Int) = wF [] := rfl
            rw [hrep]
            obtain ⟨k, rfl⟩ := Int.eq_ofNat_of_zero_le (show 0 ≤ r from by omega)
            have hall := okR_vec hok
            obtain ⟨hwok, _⟩ := wF_ok l hall
            suffices key : ∃ r : List Vv × Fault × Unit, _ = some r ∧ (¬ r.2.1.1 = 0 ∨ (r.2.1 = (0, 0, ()) ∧ WOk l k v r.1)) from by
              obtain ⟨⟨y, f, ⟨⟩⟩, h, hq⟩ := key; exact ⟨y, f, h, hq⟩
            refine loop_inv (fun s => ∃ i : Nat, s.2.1 = (i : Int) ∧ i ≤ l.length ∧ s.1 = wF (l.take i)) (fun s => l.length - s.2.1.toNat) _ ?_ (s := (wF [], 0, ())) ⟨0, rfl, by omega, rfl⟩
            rintro ⟨w, a2, ⟨⟩⟩ ⟨i, g1, hi, g2⟩
            simp only at g1 g2
            subst g1 g2
            have hl16 := hok.1
            by_cases hlt : i < l.length
            · left
              have q2 : ((i : Int) < (l.length : Int)) := by omega
              have hg : l[i]? = some l[i] := List.getElem?_eq_getElem hlt
              have hu := hall _ (List.getElem_mem hlt)
              have ht : l.take (i + 1) = l.take i ++ [l[i]] := by rw [List.take_add_one, hg]; rfl
              generalize l[i] = u at hg hu ht
              obtain ⟨ux, uv, ⟨⟩⟩ := u
              simp only at hu
              have hwi := (wF_ok (l.take i) fun x hx => hall x (List.mem_of_mem_take hx)).1
              refine ⟨(wF (l.take (i + 1)), ((i + 1 : Nat) : Int), ()), ?_, ⟨i + 1, rfl, hlt, rfl⟩, by simp; omega⟩
              simp only [q2, decide_true, if_true, atC_val hg]
              rw [ht, wF_snoc]
              generalize wF (l.take i) = w0 at hwi
              have hres : ∀ w', w'.length = 6 → (∀ j, j < 6 → w'.getD j 0 = mx2 (w0.getD j 0) (uv.getD j 0)) → w' = mx w0 uv := fun w' h h' => ext6 h (mx_len _ _) fun j hj => by rw [h' j hj, mx_get _ _ hj]
              refine (loop_val (fun s => s.2.1 = (i : Int) ∧ s.2.2.1 = uv ∧ s.2.2.2.1 = (uv.length : Int) ∧ ∃ j : Nat, s.2.2.2.2.1 = (j : Int) ∧ j ≤ 6 ∧ s.1.length = 6 ∧ (∀ m, m < j → s.1.getD m 0 = mx2 (w0.getD m 0) (uv.getD m 0)) ∧ ∀ m, j ≤ m → s.1.getD m 0 = w0.getD m 0) (fun s => 6 - s.2.2.2.2.1.toNat) (fun s => Sum.inl (mx w0 uv, ((i + 1 : Nat) : Int), ())) ?_ (s := (w0, (i : Int), uv, (uv.length : Int), 0, ())) ⟨rfl, rfl, rfl, 0, rfl, by omega, hwi.1, fun m hm => by omega, fun m _ => rfl⟩)
              rintro ⟨c1, c2, c3, c4, c5, ⟨⟩⟩ ⟨e1, e2, e3, j, e4, hj, e5, e6, e7⟩
              simp only at e1 e2 e3 e4 e5 e6 e7
              subst e1 e2 e3 e4
              by_cases hjl : j < 6
              · left
                have q3 : ((j : Int) < (c3.length : Int)) := by rw [hu.1]; omega
                have hg1 : c3[j]? = some (c3.getD j 0) := by rw [List.getD_eq_getElem?_getD, List.getElem?_eq_getElem (by rw [hu.1]; omega)]; rfl
                have hg2 : c1[j]? = some (c1.getD j 0) := by rw [List.getD_eq_getElem?_getD, List.getElem?_eq_getElem (by omega)]; rfl
                have q4 : 0 ≤ (j : Int) ∧ (j : Int) < (c1.length : Int) := by omega
                refine ⟨(c1.set j (mx2 (c1.getD j 0) (c3.getD j 0)), (i : Int), c3, (c3.length : Int), ((j + 1 : Nat) : Int), ()), ?_, ⟨rfl, rfl, rfl, j + 1, rfl, hjl, by simp [e5], fun m hm => ?_, fun m hm => ?_⟩, rfl, by simp; omega⟩
                · simp only [q3, decide_true, if_true, atC_val hg1, q4, and_self, atC_val hg2, Int.toNat_natCast, wrap_i64 (n := (j : Int) + 1) (by omega) (by omega)]
                  rfl
                · rw [List.getD_eq_getElem?_getD]
                  by_cases em : m = j
                  · subst em; rw [List.getElem?_set_self (by omega), e7 m (by omega)]; rfl
                  · rw [List.getElem?_set_ne (fun e => em e.symm), ← List.getD_eq_getElem?_getD]; exact e6 m (by omega)
                · rw [List.getD_eq_getElem?_getD, List.getElem?_set_ne (by omega), ← List.getD_eq_getElem?_getD]; exact e7 m (by omega)
              · right
                have q3 : ¬ ((j : Int) < (c3.length : Int)) := by rw [hu.1]; omega
                rw [hres c1 e5 fun m hm => e6 m (by omega)]
                simp only [q3, decide_false, Bool.false_eq_true, if_false, wrap_i64 (n := (i : Int) + 1) (by omega) (by omega)]
                rfl
            · right
              have q2 : ¬ ((i : Int) < (l.length : Int)) := by omega
              rw [List.take_of_length_le (by omega)]
              have hk6 : k < (wF l).length := by rw [hwok.1]; omega
              have q4 : 0 ≤ (k : Int) ∧ (k : Int) < ((wF l).length : Int) := by omega
              have hg2 : (wF l)[k]? = some ((wF l).getD k 0) := by rw [List.getD_eq_getElem?_getD, List.getElem?_eq_getElem hk6]; rfl
              have hb := hwok.2 _ (getD_mem hk6)
              simp only [q2, decide_false, Bool.false_eq_true, if_false, q4, and_self, if_true, atC_val hg2, Int.toNat_natCast]
              by_cases h5 : (wF l).getD k 0 = 1000000000
              · have h5' : ((wF l).getD k 0 == 1000000000) = true := by simpa using h5
                simp only [h5', if_true]
                exact ⟨_, rfl, .inl (by simp)⟩
              · have h5' : ((wF l).getD k 0 == 1000000000) = false := by simpa using h5
                simp only [h5', Bool.false_eq_true, if_false, wrap_i64 (n := (wF l).getD k 0 + 1) (by omega) (by omega)]
                exact ⟨_, rfl, .inr ⟨rfl, hok, k, rfl, by omega, by omega, by omega, h5, rfl⟩⟩
  · have := fz f hne
    obtain ⟨c, j, ⟨⟩⟩ := f
    simp only at this
    simp only [this, Bool.not_false, if_true]
    exact ⟨_, _, rfl, .inl hne⟩
end Go.Proofs.Ytoagphhldhpnmaa.F
end
section
/- What the functions compute, said shortly: merging. -/
namespace Go.Proofs.Ytoagphhldhpnmaa.F
open Go Go.Proofs.Ytoagphhldhpnmaa.V

def idxF (p : Vv → Bool) (xs : List Vv) : Int := match xs.findIdx? p with | some i => (i : Int) | none => -1
theorem idx_ge (p : Vv → Bool) (xs : List Vv) : decide (idxF p xs ≥ 0) = xs.any p := by
  unfold idxF
  cases h : xs.findIdx? p with
  | none =>
    rw [List.findIdx?_eq_none_iff] at h
    have : xs.any p = false := by rw [List.any_eq_false]; intro x hx; simp [h x hx]
    rw [this]; rfl
  | some i =>
    have h' := List.findIdx?_eq_some_iff_getElem.1 h
    obtain ⟨hi, hp, _⟩ := h'
    have : xs.any p = true := List.any_eq_true.2 ⟨_, List.getElem_mem hi, hp⟩
    rw [this]; simp
theorem idx_loop (p : Vv → Bool) (f : Vv × Int × List Int × Unit → Option (Bool × Int × List Int × Unit)) (xs : List Vv) (val : Int) (vec : List Int) (hl : xs.length ≤ 1000000) (hf : ∀ u ∈ xs, f (u, val, vec, ()) = some (p u, val, vec, ())) :
    loopC (fun (s1 : Int × Int × List Int × Unit) => if decide (s1.1 < (xs.length : Int)) = true then
      atC xs s1.1 fun y8 => Option.bind (f ((y8.1, y8.2.1, ()), s1.2.1, s1.2.2.1, ())) fun r10 => if r10.1 = true then some (.inr (s1.1, r10.2.1, r10.2.2.1, ())) else some (.inl (IntKind.wrap .i64 (s1.1 + 1), r10.2.1, r10.2.2.1, ()))
      else Option.map .inr (some ((-1 : Int), s1.2.1, s1.2.2.1, ()))) (0, val, vec, ()) = some (idxF p xs, val, vec, ()) := by
  refine (loop_val (fun s => ∃ i : Nat, s.1 = (i : Int) ∧ i ≤ xs.length ∧ s.2.1 = val ∧ s.2.2.1 = vec ∧ ∀ u ∈ xs.take i, p u = false) (fun s => xs.length - s.1.toNat) (fun s => (idxF p xs, val, vec, ())) ?_ (s := (0, val, vec, ())) ⟨0, rfl, by omega, rfl, rfl, fun u hu => by simp at hu⟩)
  rintro ⟨a1, v1, w1, ⟨⟩⟩ ⟨i, h1, hi, h2, h3, hp⟩
  simp only at h1 h2 h3
  subst h1 h2 h3
  by_cases hlt : i < xs.length
  · have q2 : ((i : Int) < (xs.length : Int)) := by omega
    have hg : xs[i]? = some xs[i] := List.getElem?_eq_getElem hlt
    have hu := hf _ (List.getElem_mem hlt)
    have ht : xs.take (i + 1) = xs.take i ++ [xs[i]] := by rw [List.take_add_one, hg]; rfl
    generalize hx : xs[i] = u at hg hu ht
    obtain ⟨ux, uv, ⟨⟩⟩ := u
    simp only [q2, decide_true, if_true, atC_val hg, hu, Option.bind_some]
    cases hpu : p (ux, uv, ()) with
    | true =>
      right
      have : idxF p xs = (i : Int) := by
        unfold idxF
        have : xs.findIdx? p = some i := List.findIdx?_eq_some_iff_getElem.2 ⟨hlt, by rw [hx]; exact hpu, fun j hj => by
          have := hp xs[j] (List.mem_of_getElem? (i := j) (by rw [List.getElem?_take, if_pos hj]; exact List.getElem?_eq_getElem (by omega)))
          simp [this]⟩
        rw [this]
      simp only [if_true, this]
    | false =>
      left
      refine ⟨(((i + 1 : Nat) : Int), v1, w1, ()), ?_, ⟨i + 1, rfl, hlt, rfl, rfl, fun x hx => ?_⟩, trivial, by simp; omega⟩
      · simp only [Bool.false_eq_true, if_false, wrap_i64 (n := (i : Int) + 1) (by omega) (by omega)]; rfl
      · rw [ht, List.mem_append, List.mem_singleton] at hx
        rcases hx with hx | rfl
        · exact hp x hx
        · exact hpu
  · right
    have q2 : ¬ ((i : Int) < (xs.length : Int)) := by omega
    rw [List.take_of_length_le (by omega)] at hp
    have : idxF p xs = -1 := by
      unfold idxF
      have : xs.findIdx? p = none := by rw [List.findIdx?_eq_none_iff]; exact hp
      rw [this]
    simp only [q2, decide_false, Bool.false_eq_true, if_false, this]; rfl
def p20 (vec : List Int) (u : Vv) : Bool := decide (Cov u.2.1 vec) && !decide (u.2.1 = vec)
def p25 (vec : List Int) (u : Vv) : Bool := decide (u.2.1 = vec)
def p26 (vec : List Int) (u : Vv) : Bool := decide (Cov u.2.1 vec)
theorem f20_eq (u : Vv) (val : Int) (vec : List Int) (hu : u.2.1.length = 6) (hv : vec.length = 6) : multivalue_Merge_1_20 (u, val, vec, ()) = some (p20 vec u, val, vec, ()) := by
  unfold multivalue_Merge_1_20 p20
  simp only [covers_eq u.2.1 vec (by omega) (by omega), Equal_eq u.2.1 vec (by omega), Option.bind_some]
  by_cases h : Cov u.2.1 vec <;> simp [h]
theorem f25_eq (u : Vv) (val : Int) (vec : List Int) (hu : u.2.1.length = 6) : multivalue_Merge_2_25 (u, val, vec, ()) = some (p25 vec u, val, vec, ()) := by
  unfold multivalue_Merge_2_25 p25
  simp only [Equal_eq u.2.1 vec (by omega), Option.bind_some]
theorem f26_eq (u : Vv) (val : Int) (vec : List Int) (hu : u.2.1.length = 6) (hv : vec.length = 6) : multivalue_Merge_3_26 (u, val, vec, ()) = some (p26 vec u, val, vec, ()) := by
  unfold multivalue_Merge_3_26 p26
  simp only [covers_eq u.2.1 vec (by omega) (by omega), Option.bind_some]
theorem c20_eq (xs : List Vv) (val : Int) (vec : List Int) (hl : xs.length ≤ 1000000) (hx : ∀ u ∈ xs, u.2.1.length = 6) (hv : vec.length = 6) : api_VersionedValue__19_20 (xs, val, vec, ()) = some (xs.any (p20 vec), val, vec, ()) := by
  unfold api_VersionedValue__19_20 api_VersionedValue__24_20
  have := idx_loop (p20 vec) multivalue_Merge_1_20 xs val vec hl fun u hu => f20_eq u val vec (hx u hu) hv
  rw [← idx_ge]
  exact congrArg (fun o => Option.bind o fun (r3 : Int × Int × List Int × Unit) => some (decide (r3.1 ≥ 0), r3.2.1, r3.2.2.1, ())) this
theorem c26_eq (xs : List Vv) (val : Int) (vec : List Int) (hl : xs.length ≤ 1000000) (hx : ∀ u ∈ xs, u.2.1.length = 6) (hv : vec.length = 6) : api_VersionedValue__19_26 (xs, val, vec, ()) = some (xs.any (p26 vec), val, vec, ()) := by
  unfold api_VersionedValue__19_26 api_VersionedValue__24_26
  have := idx_loop (p26 vec) multivalue_Merge_3_26 xs val vec hl fun u hu => f26_eq u val vec (hx u hu) hv
  rw [← idx_ge]
  exact congrArg (fun o => Option.bind o fun (r3 : Int × Int × List Int × Unit) => some (decide (r3.1 ≥ 0), r3.2.1, r3.2.2.1, ())) this
theorem i25_eq (xs : List Vv) (val : Int) (vec : List Int) (hl : xs.length ≤ 1000000) (hx : ∀ u ∈ xs, u.2.1.length = 6) : api_VersionedValue__24_25 (xs, val, vec, ()) = some (idxF (p25 vec) xs, val, vec, ()) := by
  unfold api_VersionedValue__24_25
  exact idx_loop (p25 vec) multivalue_Merge_2_25 xs val vec hl fun u hu => f25_eq u val vec (hx u hu)

def keepA (a b : List Vv) : List Vv := a.filter fun v => !b.any (p20 v.2.1)
def keepB (a b : List Vv) : List Vv := b.filter fun v => !a.any (p26 v.2.1)
/-- Another value under the same vector. -/
def conf (a : List Vv) (v : Vv) : Bool := match a.findIdx? (p25 v.2.1) with | some i => (match a[i]? with | some u => u.1 != v.1 | none => false) | none => false
theorem filter_snoc {α : Type} (p : α → Bool) (l : List α) (x : α) : (l ++ [x]).filter p = l.filter p ++ if p x then [x] else [] := by
  rw [List.filter_append]; cases h : p x <;> simp [h]
theorem Merge_bad (a b : List Vv) (h : ¬ okR a ∨ ¬ okR b) : ∃ y f, multivalue_Merge_11 (a, b, ()) = some (y, f, ()) ∧ ¬ f.1 = 0 := by
  obtain ⟨f, hf, hcase⟩ := Validate_eq a
  obtain ⟨g, hg, hcase'⟩ := Validate_eq b
  unfold multivalue_Merge_11
  simp only [hf, hg, Option.bind_some]
  rcases hcase with ⟨rfl, hok⟩ | ⟨hne, _⟩
  · simp only [BEq.rfl, Bool.and_self, Bool.not_true, Bool.false_eq_true, if_false]
    rcases hcase' with ⟨_, hok'⟩ | ⟨hne', _⟩
    · exact (h.elim (· hok) (· hok')).elim
    · have := fz g hne'
      obtain ⟨c, j, ⟨⟩⟩ := g
      simp only at this
      simp only [this, Bool.not_false, if_true]
      exact ⟨_, _, rfl, hne'⟩
  · have := fz f hne
    obtain ⟨c, j, ⟨⟩⟩ := f
    simp only at this
    simp only [this, Bool.not_false, if_true]
    exact ⟨_, _, rfl, hne⟩
end Go.Proofs.Ytoagphhldhpnmaa.F
end
section
/- What the functions compute, said shortly: merging, whole. -/
namespace Go.Proofs.Ytoagphhldhpnmaa.F
open Go Go.Proofs.Ytoagphhldhpnmaa.V

def mgQ (a b : List Vv) (y : List Vv) (f : Fault) : Prop :=
  if b.any (conf a) = true then f.1 = 19
  else if (keepA a b ++ keepB a b).length > 16 then f.1 = 10
  else f = (0, 0, ()) ∧ ∃ s, api_VersionedValue__27_28 (keepA a b ++ keepB a b, ()) = some s ∧ y = s.1
theorem Merge_eq (a b : List Vv) (ha : okR a) (hb : okR b) (hs : b.any (conf a) = false → (keepA a b ++ keepB a b).length ≤ 16 → ∃ s, api_VersionedValue__27_28 (keepA a b ++ keepB a b, ()) = some s) :
    ∃ y f, multivalue_Merge_11 (a, b, ()) = some (y, f, ()) ∧ mgQ a b y f := by
  have va := okR_vec ha
  have vb := okR_vec hb
  have la := ha.1
  have lb := hb.1
  obtain ⟨f, hf, hcase⟩ := Validate_eq a
  obtain ⟨g, hg, hcase'⟩ := Validate_eq b
  obtain ⟨rfl, _⟩ : f = (0, 0, ()) ∧ okR a := hcase.elim id fun h => (h.2 ha).elim
  obtain ⟨rfl, _⟩ : g = (0, 0, ()) ∧ okR b := hcase'.elim id fun h => (h.2 hb).elim
  unfold multivalue_Merge_11
  simp only [hf, hg, Option.bind_some, BEq.rfl, Bool.and_self, Bool.not_true, Bool.false_eq_true, if_false]
  suffices key : ∃ r : List Vv × Fault × Unit, _ = some r ∧ mgQ a b r.1 r.2.1 from by
    obtain ⟨⟨y, f, ⟨⟩⟩, h, hq⟩ := key; exact ⟨y, f, h, hq⟩
  refine loop_inv (fun s => ∃ i : Nat, s.2.1 = (i : Int) ∧ i ≤ a.length ∧ s.1 = (a.take i).filter fun v => !b.any (p20 v.2.1)) (fun s => a.length - s.2.1.toNat) _ ?_ (s := ([], 0, ())) ⟨0, rfl, by omega, rfl⟩
  rintro ⟨out, a2, ⟨⟩⟩ ⟨i, g1, hi, g2⟩
  simp only at g1 g2
  subst g1
  have hol : out.length ≤ i := by rw [g2]; exact Nat.le_trans (List.length_filter_le _ _) (by rw [List.length_take]; omega)
  by_cases hlt : i < a.length
  · left
    have q2 : ((i : Int) < (a.length : Int)) := by omega
    have hg : a[i]? = some a[i] := List.getElem?_eq_getElem hlt
    have hu := va _ (List.getElem_mem hlt)
    have ht : a.take (i + 1) = a.take i ++ [a[i]] := by rw [List.take_add_one, hg]; rfl
    generalize a[i] = u at hg hu ht
    obtain ⟨ux, uv, ⟨⟩⟩ := u
    simp only at hu
    refine ⟨((a.take (i + 1)).filter fun v => !b.any (p20 v.2.1), ((i + 1 : Nat) : Int), ()), ?_, ⟨i + 1, rfl, hlt, rfl⟩, by simp; omega⟩
    rw [ht, filter_snoc, ← g2]
    simp only [q2, decide_true, if_true, atC_val hg, c20_eq b ux uv (by omega) (fun x hx => (vb x hx).1) hu.1, Option.bind_some]
    cases hany : b.any (p20 uv) with
    | true => simp only [Bool.not_true, Bool.false_eq_true, if_false, List.append_nil, wrap_i64 (n := (i : Int) + 1) (by omega) (by omega)]; rfl
    | false =>
      simp only [Bool.not_false, if_true, Clone_eq uv (by rw [hu.1]; omega), Option.bind_some, List.length_cons, List.length_nil]
      rw [if_pos ⟨by omega, by simp [maxLen]; omega⟩, wrap_i64 (n := (i : Int) + 1) (by omega) (by omega)]
      rfl
  · right
    have q2 : ¬ ((i : Int) < (a.length : Int)) := by omega
    rw [List.take_of_length_le (by omega)] at g2
    have g2 : out = keepA a b := g2
    subst g2
    simp only [q2, decide_false, Bool.false_eq_true, if_false]
    suffices key : ∃ r : List Vv × Fault × Unit, _ = some r ∧ mgQ a b r.1 r.2.1 from by
      obtain ⟨r, h, hq⟩ := key
      refine ⟨r, ?_, hq⟩
      have e := congrArg (Option.map (Sum.inr (α := List Vv × Int × Unit))) h
      exact e
    refine loop_inv (fun s => ∃ k : Nat, s.2.1 = (k : Int) ∧ k ≤ b.length ∧ s.1 = keepA a b ++ (b.take k).filter (fun v => !a.any (p26 v.2.1)) ∧ (b.take k).any (conf a) = false) (fun s => b.length - s.2.1.toNat) _ ?_ (s := (keepA a b, 0, ())) ⟨0, rfl, by omega, by simp, rfl⟩
    rintro ⟨out, a2, ⟨⟩⟩ ⟨k, g1, hk, g2, g3⟩
    simp only at g1 g2
    subst g1
    have hol2 : out.length ≤ 16 + k := by
      rw [g2, List.length_append]
      have h1 : (keepA a b).length ≤ a.length := List.length_filter_le _ _
      have h2 : ((b.take k).filter (fun v => !a.any (p26 v.2.1))).length ≤ k := Nat.le_trans (List.length_filter_le _ _) (by rw [List.length_take]; omega)
      omega
    by_cases hlt' : k < b.length
    · have q3 : ((k : Int) < (b.length : Int)) := by omega
      have hg : b[k]? = some b[k] := List.getElem?_eq_getElem hlt'
      have hmem := List.getElem_mem hlt'
      have hu := vb _ hmem
      have ht : b.take (k + 1) = b.take k ++ [b[k]] := by rw [List.take_add_one, hg]; rfl
      generalize b[k] = u at hg hu ht hmem
      obtain ⟨ux, uv, ⟨⟩⟩ := u
      simp only at hu
      have hi25 := i25_eq a ux uv (by omega) fun x hx => (va x hx).1
      simp only [q3, decide_true, if_true, atC_val hg, hi25, Option.bind_some, c26_eq a ux uv (by omega) (fun x hx => (va x hx).1) hu.1]
      have hcf : conf a (ux, uv, ()) = if idxF (p25 uv) a ≥ 0 then (match a[(idxF (p25 uv) a).toNat]? with | some u => u.1 != ux | none => false) else false := by
        unfold conf idxF
        cases a.findIdx? (p25 uv) with
        | none => rfl
        | some j => simp only [Int.toNat_natCast, show ((j : Int) ≥ 0) from by simp, if_true]; try (cases a[j]? <;> rfl)
      by_cases hcc : conf a (ux, uv, ()) = true
      · right
        have hany : b.any (conf a) = true := List.any_eq_true.2 ⟨_, hmem, hcc⟩
        rw [hcf] at hcc
        split at hcc
        · rename_i hge
          obtain ⟨j, hj⟩ := Int.eq_ofNat_of_zero_le hge
          rw [hj] at hcc
          simp only [Int.toNat_natCast] at hcc
          split at hcc
          · rename_i w hw
            obtain ⟨w1, w2, ⟨⟩⟩ := w
            simp only at hcc
            simp only [hj, show ((j : Int) ≥ 0) = True from by simp, decide_true, if_true, atC_val hw, hcc]
            refine ⟨_, rfl, ?_⟩
            unfold mgQ
            rw [if_pos hany]
          · cases hcc
        · cases hcc
      · left
        have hcc' : conf a (ux, uv, ()) = false := by simpa using hcc
        have hstep : ∀ (o : Option ((List Vv × Int × Unit) ⊕ (List Vv × Fault × Unit))), True := fun _ => trivial
        refine ⟨(keepA a b ++ (b.take (k + 1)).filter (fun v => !a.any (p26 v.2.1)), ((k + 1 : Nat) : Int), ()), ?_, ⟨k + 1, rfl, hlt', rfl, by rw [ht, List.any_append, g3]; simp [hcc']⟩, by simp; omega⟩
        rw [ht, filter_snoc, ← List.append_assoc, ← g2]
        have fin : (if (!(a.any (p26 uv))) = true then
            Option.bind (slices_Clone___int_int__23 (uv, ())) fun r36 => if (out.length + [((ux, r36.1, ()) : Vv)].length) * 32 ≤ 140737488355328 ∧ out.length + [((ux, r36.1, ()) : Vv)].length ≤ maxLen then (some (Sum.inl (out ++ [((ux, r36.1, ()) : Vv)], IntKind.wrap .i64 ((k : Int) + 1), ())) : Option ((List Vv × Int × Unit) ⊕ (List Vv × Fault × Unit))) else none
            else some (.inl (out, IntKind.wrap .i64 ((k : Int) + 1), ()))) = some (.inl (out ++ (if (!a.any (p26 uv)) = true then [((ux, uv, ()) : Vv)] else []), ((k + 1 : Nat) : Int), ())) := by
          rw [wrap_i64 (n := (k : Int) + 1) (by omega) (by omega)]
          cases hany : a.any (p26 uv) with
          | true => simp
          | false =>
            simp only [Bool.not_false, if_true, Clone_eq uv (by rw [hu.1]; omega), Option.bind_some, List.length_cons, List.length_nil]
            rw [if_pos ⟨by omega, by simp [maxLen]; omega⟩]
            rfl
        by_cases hge : idxF (p25 uv) a ≥ 0
        · rw [hcf, if_pos hge] at hcc'
          have hidx : ∃ j : Nat, idxF (p25 uv) a = (j : Int) ∧ ∃ w, a[j]? = some w := by
            unfold idxF at hge ⊢
            cases hfi : a.findIdx? (p25 uv) with
            | none => rw [hfi] at hge; simp at hge
            | some j =>
              obtain ⟨hj, _⟩ := List.findIdx?_eq_some_iff_getElem.1 hfi
              exact ⟨j, rfl, _, List.getElem?_eq_getElem hj⟩
          obtain ⟨j, hj, ⟨w1, w2, ⟨⟩⟩, hw⟩ := hidx
          rw [hj] at hcc'
          simp only [Int.toNat_natCast, hw] at hcc'
          simp only [hj, show ((j : Int) ≥ 0) = True from by simp, decide_true, if_true, atC_val hw, hcc', Bool.false_eq_true, if_false]
          exact fin
        · simp only [hge, decide_false, Bool.false_eq_true, if_false]
          exact fin
    · right
      have q3 : ¬ ((k : Int) < (b.length : Int)) := by omega
      rw [List.take_of_length_le (by omega)] at g2 g3
      have g2 : out = keepA a b ++ keepB a b := g2
      subst g2
      simp only [q3, decide_false, Bool.false_eq_true, if_false]
      by_cases h16 : (keepA a b ++ keepB a b).length > 16
      · have h16' : (((keepA a b ++ keepB a b).length : Nat) : Int) > 16 := by omega
        simp only [h16', decide_true, if_true]
        refine ⟨_, rfl, ?_⟩
        unfold mgQ
        rw [g3, if_neg (by simp), if_pos h16]
      · have h16' : ¬ (((keepA a b ++ keepB a b).length : Nat) : Int) > 16 := by omega
        obtain ⟨s, hsort⟩ := hs g3 (by omega)
        simp only [h16', decide_false, Bool.false_eq_true, if_false, hsort, Option.bind_some]
        refine ⟨(s.1, (0, 0, ()), ()), rfl, ?_⟩
        unfold mgQ
        rw [g3, if_neg (by simp), if_neg h16]
        exact ⟨rfl, s, hsort, rfl⟩
end Go.Proofs.Ytoagphhldhpnmaa.F
end
section
/- The laws on writes. -/
namespace Go.Proofs.Ytoagphhldhpnmaa.F
open Go Go.Proofs.Ytoagphhldhpnmaa.V

theorem sort0 (l : List Vv) : api_VersionedValue__37_28 (l, 0, 1, ()) = some (l, ()) := by
  unfold api_VersionedValue__37_28
  have w1 : IntKind.wrap .i64 (0 + 1) = 1 := by decide
  simp only [w1]
  rw [loopC_eq]
  simp
theorem sort1 (p : Vv) : api_VersionedValue__27_28 ([p], ()) = some ([p], ()) := by
  unfold api_VersionedValue__27_28 bits_Len_34 api_VersionedValue__33_28
  have w1 : IntKind.wrap .u64 1 = 1 := by decide
  have w2 : IntKind.wrap .i64 1 = 1 := by decide
  simp only [List.length_cons, List.length_nil, Nat.zero_add, Int.natCast_one, w1]
  rw [if_pos (by omega)]
  simp only [Option.bind_some]
  rw [loopC_eq]
  simp [w2, sort0]
theorem ins2 (p q : Vv) (hq : q.2.1.length ≤ 1000000) : api_VersionedValue__37_28 ([p, q], 0, 2, ()) = some (if cmpL q.2.1 p.2.1 < 0 then [q, p] else [p, q], ()) := by
  obtain ⟨px, pv, ⟨⟩⟩ := p
  obtain ⟨qx, qv, ⟨⟩⟩ := q
  unfold api_VersionedValue__37_28 multivalue_Merge_4_28
  have w1 : IntKind.wrap .i64 (0 + 1) = 1 := by decide
  have w2 : IntKind.wrap .i64 (1 + 1) = 2 := by decide
  have w3 : IntKind.wrap .i64 0 = 0 := by decide
  have w4 : IntKind.wrap .i64 2 = 2 := by decide
  simp only [w1]
  rw [loopC_eq]
  have hC : slices_Compare___int_int__29 (qv, pv, ()) = some (cmpL qv pv, ()) := Compare_eq qv pv hq
  by_cases h : cmpL qv pv < 0
  · simp [atC, hC, h, w2, w3, w4]
    rw [loopC_eq]
    simp [atC, hC, h, w2, w3, w4]
    rw [loopC_eq]
    simp [atC, hC, h, w2, w3, w4]
    rw [loopC_eq]
    simp
  · simp [atC, hC, h, w2, w3, w4]
    rw [loopC_eq]
    simp [atC, hC, h, w2, w3, w4]
    rw [loopC_eq]
    simp
theorem sort2 (p q : Vv) (hq : q.2.1.length ≤ 1000000) : api_VersionedValue__27_28 ([p, q], ()) = some (if cmpL q.2.1 p.2.1 < 0 then [q, p] else [p, q], ()) := by
  unfold api_VersionedValue__27_28 bits_Len_34 api_VersionedValue__33_28
  have w1 : IntKind.wrap .u64 2 = 2 := by decide
  have w2 : IntKind.wrap .i64 2 = 2 := by decide
  have e : ((([p, q] : List Vv).length : Nat) : Int) = 2 := rfl
  simp only [e, w1]
  rw [if_pos (by omega)]
  simp only [Option.bind_some]
  rw [loopC_eq]
  simp [w2, ins2 p q hq]
  split <;> simp
theorem Ints_refl (l : List Int) (hl : l.length ≤ 1000000) : changeforgeequal_Ints_32 (l, l, ()) = some (true, ()) := by
  unfold changeforgeequal_Ints_32
  simp only [bne_self_eq_false, Bool.false_eq_true, if_false]
  refine (loop_val (fun s => ∃ i : Nat, s.1 = (i : Int) ∧ i ≤ l.length) (fun s => l.length - s.1.toNat) (fun s => (true, ())) ?_ (s := (0, ())) ⟨0, rfl, by omega⟩)
  rintro ⟨a1, ⟨⟩⟩ ⟨i, h1, hi⟩
  simp only at h1
  subst h1
  by_cases hlt : i < l.length
  · left
    have h2 : ((i : Int) < (l.length : Int)) := by omega
    have hg : l[i]? = some l[i] := List.getElem?_eq_getElem hlt
    refine ⟨((i + 1 : Nat), ()), ?_, ⟨i + 1, rfl, hlt⟩, rfl, by simp; omega⟩
    simp only [h2, decide_true, if_true, atC_val hg, bne_self_eq_false, Bool.false_eq_true, if_false, wrap_i64 (n := (i : Int) + 1) (by omega) (by omega)]
    rfl
  · right
    have h2 : ¬ ((i : Int) < (l.length : Int)) := by omega
    simp only [h2, decide_false, Bool.false_eq_true, if_false]
    rfl
theorem Values_refl (l : List Vv) (hl : l.length ≤ 1000000) (hv : ∀ u ∈ l, u.2.1.length ≤ 1000000) : changeforgeequal_Values_15 (l, l, ()) = some (true, ()) := by
  unfold changeforgeequal_Values_15
  simp only [bne_self_eq_false, Bool.false_eq_true, if_false]
  refine (loop_val (fun s => ∃ i : Nat, s.1 = (i : Int) ∧ i ≤ l.length) (fun s => l.length - s.1.toNat) (fun s => (true, ())) ?_ (s := (0, ())) ⟨0, rfl, by omega⟩)
  rintro ⟨a1, ⟨⟩⟩ ⟨i, h1, hi⟩
  simp only at h1
  subst h1
  by_cases hlt : i < l.length
  · left
    have h2 : ((i : Int) < (l.length : Int)) := by omega
    have hg : l[i]? = some l[i] := List.getElem?_eq_getElem hlt
    have hu := hv _ (List.getElem_mem hlt)
    generalize l[i] = u at hg hu
    refine ⟨((i + 1 : Nat), ()), ?_, ⟨i + 1, rfl, hlt⟩, rfl, by simp; omega⟩
    simp only [h2, decide_true, if_true, atC_val hg, bne_self_eq_false, Bool.false_eq_true, if_false, Ints_refl _ hu, Option.bind_some, Bool.not_true, wrap_i64 (n := (i : Int) + 1) (by omega) (by omega)]
    rfl
  · right
    have h2 : ¬ ((i : Int) < (l.length : Int)) := by omega
    simp only [h2, decide_false, Bool.false_eq_true, if_false]
    rfl
theorem okR_nil : okR [] := ⟨by simp, fun i v h => by simp at h⟩
theorem first_eq : changeforgelaw2_first_16 () = some (true, ()) := by
  unfold changeforgelaw2_first_16
  obtain ⟨y, f, h, hq⟩ := Write_eq [] 0 7
  have hw : multivalue_Write_9 ([], 0, 7, ()) = some ([(7, [1, 0, 0, 0, 0, 0], ())], (0, 0, ()), ()) := by
    obtain ⟨f', hf, hcase⟩ := Validate_eq []
    obtain ⟨rfl, _⟩ : f' = (0, 0, ()) ∧ okR [] := hcase.elim id fun h => (h.2 okR_nil).elim
    unfold multivalue_Write_9
    have w1 : IntKind.wrap .i64 1 = 1 := by decide
    simp [hf]
    rw [loopC_eq]
    simp [atC, w1]
  simp only [hw, Option.bind_some, BEq.rfl, if_true]
  rw [Values_refl _ (by simp) (by intro u hu; simp at hu; subst hu; simp)]
  rfl
/-- The register that a write leaves is valid. -/
theorem okR_one {l : List Vv} {r v : Int} {y : List Vv} (h : WOk l r v y) : okR y := by
  obtain ⟨hok, k, rfl, hk, h0, h1, hne, rfl⟩ := h
  obtain ⟨hw, _⟩ := wF_ok l (okR_vec hok)
  refine ⟨by simp, fun i u hu => ?_⟩
  cases i with
  | zero =>
    simp only [List.getElem?_cons_zero, Option.some.injEq] at hu; subst hu
    have hb := hw.2 _ (getD_mem (l := wF l) (j := k) (by rw [hw.1]; exact hk))
    have hset : ((wF l).set k ((wF l).getD k 0 + 1))[k]? = some ((wF l).getD k 0 + 1) := List.getElem?_set_self (by rw [hw.1]; exact hk)
    refine ⟨h0, h1, ⟨by simp [hw.1], fun x hx => ?_⟩, fun hz => ?_, fun u h => by omega, fun u hu => by simp at hu⟩
    · rcases List.mem_or_eq_of_mem_set hx with hx | rfl
      · exact hw.2 x hx
      · omega
    · have := hz _ (List.mem_of_getElem? hset)
      omega
  | succ i => simp at hu
end Go.Proofs.Ytoagphhldhpnmaa.F
end
section
/- The laws MultivalueWriteWins and MultivalueConcurrent over plain values. -/
namespace Go.Proofs.Ytoagphhldhpnmaa.F
open Go Go.Proofs.Ytoagphhldhpnmaa.V

def vecF (l : List Vv) (k : Nat) : List Int := (wF l).set k ((wF l).getD k 0 + 1)
theorem vec_get {l : List Vv} (hw : (wF l).length = 6) {k j : Nat} (hk : k < 6) : (vecF l k).getD j 0 = if j = k then (wF l).getD k 0 + 1 else (wF l).getD j 0 := by
  unfold vecF
  rw [List.getD_eq_getElem?_getD]
  by_cases h : j = k
  · subst h; rw [List.getElem?_set_self (by omega), if_pos rfl]; rfl
  · rw [List.getElem?_set_ne (fun e => h e.symm), if_neg h, ← List.getD_eq_getElem?_getD]
theorem vec_len {l : List Vv} (hw : (wF l).length = 6) (k : Nat) : (vecF l k).length = 6 := by unfold vecF; simp [hw]
theorem WriteWins_eq (l : List Vv) (r v : Int) : changeforgelaw2_MultivalueWriteWins_5 (l, r, v, ()) = some (true, ()) := by
  obtain ⟨y, f, hW, hcase⟩ := Write_eq l r v
  unfold changeforgelaw2_MultivalueWriteWins_5
  simp only [hW, Option.bind_some, first_eq]
  rcases hcase with hne | ⟨rfl, hok⟩
  · have : (f.1 != 0) = true := by simpa using hne
    simp [this]
  · have hy := okR_one hok
    obtain ⟨hl, k, rfl, hk, h0, h1, hne, rfl⟩ := hok
    have hy : okR [(v, vecF l k, ())] := hy
    show (if ((0 : Int) != 0) = true then _ else _) = _
    simp only [bne_self_eq_false, Bool.false_eq_true, if_false]
    obtain ⟨hw, hcov⟩ := wF_ok l (okR_vec hl)
    have hge : ∀ u ∈ l, ∀ j, j < 6 → u.2.1.getD j 0 ≤ (wF l).getD j 0 := fun u hu j hj => hcov u hu j (by rw [hw.1]; exact hj)
    have hA : keepA l [(v, vecF l k, ())] = [] := by
      unfold keepA
      rw [List.filter_eq_nil_iff]
      intro u hu
      have hc : Cov (vecF l k) u.2.1 := fun j hj => by
        rw [vec_len hw.1] at hj
        rw [vec_get hw.1 hk]
        have := hge u hu j hj
        split
        · rename_i e; subst e; omega
        · exact this
      have hn : ¬ vecF l k = u.2.1 := fun e => by
        have h1 := vec_get hw.1 hk (j := k)
        rw [if_pos rfl, e] at h1
        have := hge u hu k hk
        omega
      simp [p20, hc, hn]
    have hnc : ∀ u ∈ l, ¬ Cov u.2.1 (vecF l k) := fun u hu hc => by
      have h1 := hc k (by rw [(okR_vec hl u hu).1]; exact hk)
      rw [vec_get hw.1 hk, if_pos rfl] at h1
      have := hge u hu k hk
      omega
    have hB : keepB l [(v, vecF l k, ())] = [(v, vecF l k, ())] := by
      unfold keepB
      have : l.any (p26 (vecF l k)) = false := by rw [List.any_eq_false]; intro u hu; simp [p26, hnc u hu]
      simp [this]
    have hcf : ([(v, vecF l k, ())] : List Vv).any (conf l) = false := by
      have : conf l (v, vecF l k, ()) = false := by
        unfold conf
        have : l.findIdx? (p25 (vecF l k)) = none := by
          rw [List.findIdx?_eq_none_iff]
          intro u hu
          have : ¬ u.2.1 = vecF l k := fun e => hnc u hu (by rw [e]; exact fun j _ => Int.le_refl _)
          simp [p25, this]
        rw [this]
      simp [this]
    obtain ⟨z, g, hM, hq⟩ := Merge_eq l [(v, vecF l k, ())] hl hy fun _ _ => ⟨_, by rw [hA, hB]; exact sort1 _⟩
    unfold mgQ at hq
    rw [hcf, if_neg (by simp), hA, hB, if_neg (by simp)] at hq
    obtain ⟨rfl, s, hs, rfl⟩ := hq
    rw [List.nil_append, sort1] at hs
    injection hs with hs
    subst hs
    have hV : changeforgeequal_Values_15 ([(v, vecF l k, ())], [(v, vecF l k, ())], ()) = some (true, ()) := Values_refl _ (by simp) fun u hu => by simp at hu; subst hu; simp only; rw [vec_len hw.1]; omega
    have hM : multivalue_Merge_11 (l, [(v, (wF l).set k ((wF l).getD k 0 + 1), ())], ()) = some ([(v, vecF l k, ())], (0, 0, ()), ()) := hM
    have hV : changeforgeequal_Values_15 ([(v, vecF l k, ())], [(v, (wF l).set k ((wF l).getD k 0 + 1), ())], ()) = some (true, ()) := hV
    simp only [hM, hV, Option.bind_some]
    simp [atC]
def elemOk (u : Vv) : Prop := 0 ≤ u.1 ∧ u.1 ≤ 1000000000 ∧ vecOk u.2.1 ∧ ¬ ∀ x ∈ u.2.1, x = 0
theorem okR_two {p q : Vv} (hp : elemOk p) (hq : elemOk q) (h : cmpL p.2.1 q.2.1 < 0) (h1 : ¬ Cov p.2.1 q.2.1) (h2 : ¬ Cov q.2.1 p.2.1) : okR [p, q] := by
  refine ⟨by simp, fun i u hu => ?_⟩
  match i with
  | 0 =>
    simp only [List.getElem?_cons_zero, Option.some.injEq] at hu; subst hu
    exact ⟨hp.1, hp.2.1, hp.2.2.1, hp.2.2.2, fun u h => by omega, fun u hu => by simp at hu⟩
  | 1 =>
    simp only [List.getElem?_cons_succ, List.getElem?_cons_zero, Option.some.injEq] at hu; subst hu
    refine ⟨hq.1, hq.2.1, hq.2.2.1, hq.2.2.2, fun u _ hu => ?_, fun u hu => ?_⟩
    · simp only [Nat.sub_self, List.getElem?_cons_zero, Option.some.injEq] at hu; subst hu; exact h
    · simp at hu; subst hu; exact ⟨h1, h2⟩
  | i + 2 => simp at hu
theorem okR_elem {u : Vv} (h : okR [u]) : elemOk u := by
  have := h.2 0 u rfl
  exact ⟨this.1, this.2.1, this.2.2.1, this.2.2.2.1⟩
theorem Concurrent_eq (l : List Vv) (r m s n : Int) : changeforgelaw2_MultivalueConcurrent_6 (l, r, m, s, n, ()) = some (true, ()) := by
  obtain ⟨y1, f1, hW1, hc1⟩ := Write_eq l r m
  obtain ⟨y2, f2, hW2, hc2⟩ := Write_eq l s n
  unfold changeforgelaw2_MultivalueConcurrent_6
  simp only [hW1, hW2, Option.bind_some, first_eq]
  rcases hc1 with hne | ⟨rfl, ok1⟩
  · have : (f1.1 != 0) = true := by simpa using hne
    simp [this]
  · rcases hc2 with hne | ⟨rfl, ok2⟩
    · have : (f2.1 != 0) = true := by simpa using hne
      simp [this]
    · have hy1 := okR_one ok1
      have hy2 := okR_one ok2
      obtain ⟨hl, k1, rfl, hk1, a0, a1, an, rfl⟩ := ok1
      obtain ⟨_, k2, rfl, hk2, b0, b1, bn, rfl⟩ := ok2
      have hy1 : okR [(m, vecF l k1, ())] := hy1
      have hy2 : okR [(n, vecF l k2, ())] := hy2
      obtain ⟨hw, _⟩ := wF_ok l (okR_vec hl)
      have e1 : ([(m, (wF l).set k1 ((wF l).getD k1 0 + 1), ())] : List Vv) = [(m, vecF l k1, ())] := rfl
      have e2 : ([(n, (wF l).set k2 ((wF l).getD k2 0 + 1), ())] : List Vv) = [(n, vecF l k2, ())] := rfl
      simp only [e1, e2, bne_self_eq_false, Bool.false_eq_true, if_false]
      have refl : ∀ v, Cov v v := fun v j _ => Int.le_refl _
      by_cases hk : k1 = k2
      · subst hk
        have hA : keepA [(m, vecF l k1, ())] [(n, vecF l k1, ())] = [(m, vecF l k1, ())] := by simp [keepA, p20]
        have hB : keepB [(m, vecF l k1, ())] [(n, vecF l k1, ())] = [] := by simp [keepB, p26, refl]
        have hcf : ([(n, vecF l k1, ())] : List Vv).any (conf [(m, vecF l k1, ())]) = (m != n) := by
          simp [conf, p25, List.findIdx?_cons]
        obtain ⟨z, g, hM, hq⟩ := Merge_eq [(m, vecF l k1, ())] [(n, vecF l k1, ())] hy1 hy2 fun _ _ => ⟨_, by rw [hA, hB]; exact sort1 _⟩
        unfold mgQ at hq
        rw [hcf, hA, hB] at hq
        have hV : changeforgeequal_Values_15 ([(m, vecF l k1, ())], [(m, vecF l k1, ())], ()) = some (true, ()) := Values_refl _ (by simp) fun u hu => by simp at hu; subst hu; simp only; rw [vec_len hw.1]; omega
        by_cases hmn : m = n
        · subst hmn
          rw [if_neg (by simp), if_neg (by simp)] at hq
          obtain ⟨rfl, s, hs, rfl⟩ := hq
          rw [List.append_nil, sort1] at hs
          injection hs with hs
          subst hs
          simp [hM, hV]
        · rw [if_pos (by simpa using hmn)] at hq
          obtain ⟨c, j, ⟨⟩⟩ := g
          simp only at hq
          subst hq
          simp [hM, hmn]
      · have hv12 : ¬ Cov (vecF l k2) (vecF l k1) := fun h => by
          have := h k1 (by rw [vec_len hw.1]; exact hk1)
          rw [vec_get hw.1 hk1, vec_get hw.1 hk2, if_pos rfl, if_neg hk] at this
          omega
        have hv21 : ¬ Cov (vecF l k1) (vecF l k2) := fun h => by
          have := h k2 (by rw [vec_len hw.1]; exact hk2)
          rw [vec_get hw.1 hk2, vec_get hw.1 hk1, if_pos rfl, if_neg (fun e => hk e.symm)] at this
          omega
        have hne : ¬ vecF l k1 = vecF l k2 := fun e => hv12 (by rw [e]; exact refl _)
        have hA : keepA [(m, vecF l k1, ())] [(n, vecF l k2, ())] = [(m, vecF l k1, ())] := by simp [keepA, p20, hv12]
        have hB : keepB [(m, vecF l k1, ())] [(n, vecF l k2, ())] = [(n, vecF l k2, ())] := by simp [keepB, p26, hv21]
        have hcf : ([(n, vecF l k2, ())] : List Vv).any (conf [(m, vecF l k1, ())]) = false := by
          simp [conf, p25, List.findIdx?_cons, hne]
        obtain ⟨z, g, hM, hq⟩ := Merge_eq [(m, vecF l k1, ())] [(n, vecF l k2, ())] hy1 hy2 fun _ _ => ⟨_, by rw [hA, hB]; exact sort2 _ _ (by simp only; rw [vec_len hw.1]; omega)⟩
        unfold mgQ at hq
        rw [hcf, hA, hB, if_neg (by simp), if_neg (by simp)] at hq
        obtain ⟨rfl, s, hs, rfl⟩ := hq
        rw [List.singleton_append, sort2 _ _ (by simp only; rw [vec_len hw.1]; omega)] at hs
        injection hs with hs
        subst hs
        have hp := okR_elem hy1
        have hq := okR_elem hy2
        have hz : okR (if cmpL (vecF l k2) (vecF l k1) < 0 then [(n, vecF l k2, ()), (m, vecF l k1, ())] else [(m, vecF l k1, ()), (n, vecF l k2, ())]) := by
          split
          · rename_i h; exact okR_two hq hp h hv12 hv21
          · rename_i h
            have h0 : cmpL (vecF l k2) (vecF l k1) ≠ 0 := fun e => hne (cmpL_zero _ _ e).symm
            have := cmpL_neg (vecF l k1) (vecF l k2)
            exact okR_two hp hq (by simp only; omega) hv21 hv12
        obtain ⟨f, hV, hcase⟩ := Validate_eq (if cmpL (vecF l k2) (vecF l k1) < 0 then [(n, vecF l k2, ()), (m, vecF l k1, ())] else [(m, vecF l k1, ()), (n, vecF l k2, ())])
        obtain ⟨rfl, _⟩ : f = (0, 0, ()) ∧ _ := hcase.elim id fun h => (h.2 hz).elim
        have hlen : (if cmpL (vecF l k2) (vecF l k1) < 0 then [((n, vecF l k2, ()) : Vv), (m, vecF l k1, ())] else [(m, vecF l k1, ()), (n, vecF l k2, ())]).length = 2 := by split <;> rfl
        have hkk : ((k1 : Int) == (k2 : Int)) = false := by simp; omega
        generalize (if cmpL (vecF l k2) (vecF l k1) < 0 then [((n, vecF l k2, ()) : Vv), (m, vecF l k1, ())] else [(m, vecF l k1, ()), (n, vecF l k2, ())]) = zz at hM hV hlen
        simp [hM, hkk, hV, hlen]
end Go.Proofs.Ytoagphhldhpnmaa.F
end
