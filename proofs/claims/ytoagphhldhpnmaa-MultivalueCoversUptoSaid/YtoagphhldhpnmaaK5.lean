/- Texts of ours, put together: PA, SB, SC, SD, Sort, SE, GP0, GP1, GP2, GP3, GP4, PB, PC, PD, PE, PF, PG, PH, PI, PJ, PK, PL, PM, GP5. -/
import Derived.Test.YtoagphhldhpnmaaK4
import Derived.Test.YtoagphhldhpnmaaShelf
import Derived.WalkKit
import Derived.Deep.LoopGhost
import Derived.Sort.Grow
import Derived.Shelf.GgSortFunc.InsertionK
import Derived.Shelf.SlGeneric
import Derived.Shelf.SlLaysF0
import Derived.Ground.SlsfProg
import Derived.Test.YtoagphhldhpnmaaProg
import Derived.Shelf.SlSortCmp.WholeK
import Derived.Shelf.SlSortCmp.NoneTotal
section
set_option linter.unusedSimpArgs false
set_option linter.unusedVariables false
/- What the functions compute, said shortly: vectors. -/
namespace Go.Proofs.Ytoagphhldhpnmaa.F
open Go Go.Proofs.Ytoagphhldhpnmaa.V

abbrev Vv := Int × List Int × Unit
abbrev Fault := Int × Int × Unit
theorem cmp_eq (a b : Int) : cmp_Compare_int__35 (a, b, ()) = some (if a < b then -1 else if b < a then 1 else 0, ()) := by
  unfold cmp_Compare_int__35 cmp_isNaN_int__47
  by_cases h : a < b
  · simp [h]
  · by_cases h' : b < a
    · simp [h, h']
    · simp [h, h']
theorem Compare_eq (a b : List Int) (ha : a.length ≤ 1000000) : slices_Compare___int_int__29 (a, b, ()) = some (cmpL a b, ()) := by
  unfold slices_Compare___int_int__29
  simp only []
  refine (loop_val (fun s => ∃ i : Nat, s.1 = (i : Int) ∧ i ≤ a.length ∧ cmpL a b = cmpL (a.drop i) (b.drop i)) (fun s => a.length - s.1.toNat) (fun s => (cmpL a b, ())) ?_ (s := (0, ())) ⟨0, rfl, by omega, rfl⟩)
  rintro ⟨a1, ⟨⟩⟩ ⟨i, h1, hi, hc⟩
  simp only at h1
  subst h1
  by_cases hlt : i < a.length
  · have h2 : ((i : Int) < (a.length : Int)) := by omega
    have hg : a[i]? = some a[i] := List.getElem?_eq_getElem hlt
    have hd : a.drop i = a[i] :: a.drop (i + 1) := List.drop_eq_getElem_cons hlt
    generalize a[i] = x at hg hd
    simp only [h2, decide_true, if_true, atC_val hg]
    by_cases hb : (i : Int) ≥ (b.length : Int)
    · right
      rw [hd, List.drop_eq_nil_of_le (show b.length ≤ i from by omega)] at hc
      simp only [hb, decide_true, if_true, hc, cmpL]
    · have hlt' : i < b.length := by omega
      have hg' : b[i]? = some b[i] := List.getElem?_eq_getElem hlt'
      have hd' : b.drop i = b[i] :: b.drop (i + 1) := List.drop_eq_getElem_cons hlt'
      generalize b[i] = y at hg' hd'
      rw [hd, hd'] at hc
      simp only [cmpL] at hc
      simp only [hb, decide_false, Bool.false_eq_true, if_false, atC_val hg', cmp_eq, Option.bind_some]
      by_cases h3 : x < y
      · right
        simp only [h3, if_true] at hc ⊢
        rw [hc]; rfl
      · by_cases h4 : y < x
        · right
          simp only [h3, h4, if_true, if_false] at hc ⊢
          rw [hc]; rfl
        · left
          simp only [h3, h4, if_false] at hc ⊢
          exact ⟨((i + 1 : Nat), ()), by simp [wrap_i64 (n := (i : Int) + 1) (by omega) (by omega)], ⟨i + 1, rfl, hlt, hc⟩, trivial, by simp; omega⟩
  · right
    have h2 : ¬ ((i : Int) < (a.length : Int)) := by omega
    rw [List.drop_eq_nil_of_le (show a.length ≤ i from by omega)] at hc
    simp only [h2, decide_false, Bool.false_eq_true, if_false]
    by_cases h3 : (a.length : Int) < (b.length : Int)
    · cases hb : b.drop i with
      | nil => have := congrArg List.length hb; simp at this; omega
      | cons y r => rw [hb] at hc; simp only [h3, decide_true, if_true, hc, cmpL]; rfl
    · rw [List.drop_eq_nil_of_le (show b.length ≤ i from by omega)] at hc
      simp only [h3, decide_false, Bool.false_eq_true, if_false, hc, cmpL]; rfl
theorem cmpL_neg : ∀ (a b : List Int), cmpL a b = - cmpL b a
  | [], [] => rfl
  | [], _ :: _ => rfl
  | _ :: _, [] => rfl
  | a :: l, b :: m => by
    simp only [cmpL]
    by_cases h1 : a < b
    · simp [h1, show ¬ b < a from by omega]
    · by_cases h2 : b < a
      · simp [h1, h2]
      · simp [h1, h2, cmpL_neg l m]
theorem cmpL_zero : ∀ (a b : List Int), cmpL a b = 0 → a = b
  | [], [], _ => rfl
  | [], _ :: _, h => by simp [cmpL] at h
  | _ :: _, [], h => by simp [cmpL] at h
  | a :: l, b :: m, h => by
    simp only [cmpL] at h
    split at h
    · simp at h
    · split at h
      · simp at h
      · rw [cmpL_zero l m h, show a = b from by omega]

/-- No entry is less. -/
def Cov (a b : List Int) : Prop := ∀ i, i < a.length → b.getD i 0 ≤ a.getD i 0
instance (a b : List Int) : Decidable (Cov a b) := by unfold Cov; infer_instance
theorem covers_eq (a b : List Int) (h : a.length ≤ b.length) (ha : b.length ≤ 1000000) : multivalue_covers_21 (a, b, ()) = some (decide (Cov a b), ()) := by
  unfold multivalue_covers_21
  simp only []
  refine (loop_val (fun s => ∃ i : Nat, s.1 = (i : Int) ∧ i ≤ a.length ∧ ∀ j, j < i → b.getD j 0 ≤ a.getD j 0) (fun s => a.length - s.1.toNat) (fun s => (decide (Cov a b), ())) ?_ (s := (0, ())) ⟨0, rfl, by omega, fun j hj => by omega⟩)
  rintro ⟨a1, ⟨⟩⟩ ⟨i, h1, hi, hc⟩
  simp only at h1
  subst h1
  by_cases hlt : i < a.length
  · have h2 : ((i : Int) < (a.length : Int)) := by omega
    have hg : a[i]? = some (a.getD i 0) := by rw [List.getD_eq_getElem?_getD, List.getElem?_eq_getElem hlt]; rfl
    have hg' : b[i]? = some (b.getD i 0) := by rw [List.getD_eq_getElem?_getD, List.getElem?_eq_getElem (by omega)]; rfl
    simp only [h2, decide_true, if_true, atC_val hg, atC_val hg']
    by_cases h3 : a.getD i 0 < b.getD i 0
    · right
      have : ¬ Cov a b := fun hC => by have := hC i hlt; omega
      simp only [h3, decide_true, if_true, this, decide_false]
    · left
      refine ⟨((i + 1 : Nat), ()), ?_, ⟨i + 1, rfl, hlt, fun j hj => ?_⟩, trivial, by simp; omega⟩
      · simp only [h3, decide_false, Bool.false_eq_true, if_false, wrap_i64 (n := (i : Int) + 1) (by omega) (by omega)]; rfl
      · by_cases e : j = i
        · subst e; omega
        · exact hc j (by omega)
  · right
    have h2 : ¬ ((i : Int) < (a.length : Int)) := by omega
    have : Cov a b := fun j hj => hc j (by omega)
    simp only [h2, decide_false, Bool.false_eq_true, if_false, this, decide_true]; rfl
theorem Equal_eq (a b : List Int) (ha : a.length ≤ 1000000) : slices_Equal___int_int__22 (a, b, ()) = some (decide (a = b), ()) := by
  unfold slices_Equal___int_int__22
  by_cases hl : a.length = b.length
  · have h0 : (((a.length : Int)) != (b.length : Int)) = false := by simp [hl]
    simp only [h0, Bool.false_eq_true, if_false]
    refine (loop_val (fun s => ∃ i : Nat, s.1 = (i : Int) ∧ i ≤ a.length) (fun s => a.length - s.1.toNat) (fun s => (decide (a.drop s.1.toNat = b.drop s.1.toNat), ())) ?_ (s := (0, ())) ⟨0, rfl, by omega⟩)
    rintro ⟨a1, ⟨⟩⟩ ⟨i, h1, hi⟩
    simp only at h1
    subst h1
    by_cases hlt : i < a.length
    · have h2 : ((i : Int) < (a.length : Int)) := by omega
      have hg : a[i]? = some a[i] := List.getElem?_eq_getElem hlt
      have hg' : b[i]? = some (b[i]'(by omega)) := List.getElem?_eq_getElem (by omega)
      have hd : a.drop i = a[i] :: a.drop (i + 1) := List.drop_eq_getElem_cons hlt
      have hd' : b.drop i = (b[i]'(by omega)) :: b.drop (i + 1) := List.drop_eq_getElem_cons (by omega)
      generalize a[i] = x at hg hd
      generalize b[i]'(by omega) = y at hg' hd'
      simp only [h2, decide_true, if_true, atC_val hg, atC_val hg', Int.toNat_natCast, hd, hd']
      by_cases hxy : x = y
      · subst hxy
        left
        refine ⟨((i + 1 : Nat), ()), ?_, ⟨i + 1, rfl, hlt⟩, by simp, by simp; omega⟩
        simp only [bne_self_eq_false, Bool.false_eq_true, if_false, wrap_i64 (n := (i : Int) + 1) (by omega) (by omega)]
        rfl
      · right
        have : (x != y) = true := by simpa using hxy
        simp [this, hxy]
    · right
      have h2 : ¬ ((i : Int) < (a.length : Int)) := by omega
      simp only [h2, decide_false, Bool.false_eq_true, if_false, Int.toNat_natCast, List.drop_eq_nil_of_le (show a.length ≤ i from by omega), List.drop_eq_nil_of_le (show b.length ≤ i from by omega), decide_true]
      rfl
  · have h0 : (((a.length : Int)) != (b.length : Int)) = true := by simp; omega
    have : ¬ a = b := fun e => hl (by rw [e])
    simp [h0, this]
theorem Clone_eq (l : List Int) (h : l.length ≤ 1000000) : slices_Clone___int_int__23 (l, ()) = some (l, ()) := by
  unfold slices_Clone___int_int__23
  simp only []
  rw [nilC_val]
  · simp [maxLen]; omega
  · rintro rfl; simp [maxLen]
theorem Max_eq (l : List Int) (hl : l ≠ []) (h : l.length ≤ 1000000) (h0 : ∀ x ∈ l, 0 ≤ x) : ∃ m, slices_Max___int_int__36 (l, ()) = some (m, ()) ∧ (m = 0 ↔ ∀ x ∈ l, x = 0) := by
  unfold slices_Max___int_int__36
  have hlen : 0 < l.length := List.length_pos_iff.2 hl
  have h1 : ¬ ((l.length : Int) < 1) := by omega
  have hg0 : l[0]? = some l[0] := List.getElem?_eq_getElem hlen
  simp only [h1, decide_false, Bool.false_eq_true, if_false]
  rw [show ((0 : Int)) = ((0 : Nat) : Int) from rfl, atC_val hg0]
  obtain ⟨r, hr, hq⟩ := loop_inv (step := fun (s1 : Int × Int × Unit) =>
       let x5 := s1.1
       let x6 := s1.2.1
       let x7 : Int := (List.length l : Int)
       let x8 : Bool := decide ((x6 : Int) < x7)
       if x8 = true then
        atC l x6 fun y9 =>
         let x9 : Int := y9
         let x10 : Int := x9
         let x11 : Int := (if (x10 : Int) > x5 then x10 else x5)
         let x12 : Int := IntKind.wrap .i64 (x6 + 1)
         some (.inl (x11, x12, ()))
       else
        Option.map .inr (some (x5, ())))
    (fun s => ∃ i : Nat, s.2.1 = (i : Int) ∧ 1 ≤ i ∧ i ≤ l.length ∧ 0 ≤ s.1 ∧ (s.1 = 0 ↔ ∀ x ∈ l.take i, x = 0)) (fun s => l.length - s.2.1.toNat) (fun r : Int × Unit => r.1 = 0 ↔ ∀ x ∈ l, x = 0) (s := (l[0], 1, ())) (by
      rintro ⟨m, a2, ⟨⟩⟩ ⟨i, h1, hi1, hi, hm, hz⟩
      simp only at h1 hm hz
      subst h1
      by_cases hlt : i < l.length
      · left
        have h2 : ((i : Int) < (l.length : Int)) := by omega
        have hg : l[i]? = some l[i] := List.getElem?_eq_getElem hlt
        have hx := h0 _ (List.getElem_mem hlt)
        have ht : l.take (i + 1) = l.take i ++ [l[i]] := by rw [List.take_add_one, hg]; rfl
        generalize l[i] = x at hg hx ht
        refine ⟨(if x > m then x else m, ((i + 1 : Nat) : Int), ()), ?_, ⟨i + 1, rfl, by omega, hlt, by simp only; split <;> omega, ?_⟩, by simp; omega⟩
        · simp only [h2, decide_true, if_true, atC_val hg, wrap_i64 (n := (i : Int) + 1) (by omega) (by omega)]; rfl
        · rw [ht]
          simp only [List.mem_append, List.mem_singleton]
          constructor
          · intro e y hy
            split at e
            · omega
            · rcases hy with hy | rfl
              · exact hz.1 e y hy
              · omega
          · intro e
            have e1 := hz.2 fun y hy => e y (.inl hy)
            have e2 := e x (.inr rfl)
            split <;> omega
      · right
        have h2 : ¬ ((i : Int) < (l.length : Int)) := by omega
        refine ⟨(m, ()), ?_, ?_⟩
        · simp only [h2, decide_false, Bool.false_eq_true, if_false]; rfl
        · rw [List.take_of_length_le (by omega)] at hz; exact hz) ⟨1, rfl, by omega, by omega, h0 _ (List.getElem_mem hlen), by
          have : l.take 1 = [l[0]] := by rw [List.take_add_one, hg0]; rfl
          rw [this]; simp⟩
  exact ⟨r.1, hr, hq⟩
end Go.Proofs.Ytoagphhldhpnmaa.F
end
section
set_option linter.unusedSimpArgs false
set_option linter.unusedVariables false
/- The comparison of vectors, walked with the kit: what it leaves of memory, exactly. -/
namespace Go.Proofs.Ytoagphhldhpnmaa.F
open Go Go.Proofs.Ytoagphhldhpnmaa.V Go.RowKit Go.Lib

set_option maxHeartbeats 2000000 in
set_option maxRecDepth 100000 in
theorem slices_Compare_walk (b1 o1 c b2 o2 d : Nat) (xs ys : List Int) (w : World) (hx : xs.length ≤ 1000000) (hy : ys.length ≤ 1000000) (hc1 : ∀ j, j < xs.length → w.cell? ⟨b1, o1 + j, none⟩ = some (.int .i64 (xs.getD j 0))) (hc2 : ∀ j, j < ys.length → w.cell? ⟨b2, o2 + j, none⟩ = some (.int .i64 (ys.getD j 0))) :
    Calls Try.prog 29 #[.slice (some ⟨b1, o1, none⟩) xs.length c, .slice (some ⟨b2, o2, none⟩) ys.length d] w fun e w' => e = .returned (.int .i64 (cmpL xs ys)) ∧ w' = w := by
  have hcon := fun x y W => Try.cmp_Compare_int x y W
  generalize hn : xs.length = n at hx hc1
  generalize hm : ys.length = m at hy hc2
  go_enter Try.func29, Try.ntmps29
  go_wp2
  go_loopg [11] n (fun g s11 wr => ∃ k : Nat, k ≤ n ∧ n - k ≤ g ∧ s11 = .int .i64 k ∧ wr = w ∧ cmpL xs ys = cmpL (xs.drop k) (ys.drop k))
  case atStart => exact ⟨0, Nat.zero_le _, by omega, rfl, rfl, rfl⟩
  case round =>
    obtain ⟨k, hk, hg, rfl, rfl, heq⟩ := hrel
    by_cases hlt : k < n
    · have g1 : wr.cell? ⟨b1, o1 + k, none⟩ = some (.int .i64 (xs.getD k 0)) := hc1 k hlt
      have hd : xs.drop k = xs.getD k 0 :: xs.drop (k + 1) := by
        rw [List.drop_eq_getElem_cons (by omega), List.getD_eq_getElem?_getD, List.getElem?_eq_getElem (by omega)]; rfl
      rw [hd] at heq
      by_cases hkm : m ≤ k
      · rw [List.drop_eq_nil_of_le (show ys.length ≤ k by omega)] at heq
        have A : Aside (cmpL xs ys = 1) := heq
        clear heq hc1 hc2 hd hcon
        generalize xs.getD k 0 = x at g1
        go_wp2
        go_ret
        exact ⟨by rw [A.out]; rfl, rfl⟩
      · have g2 : wr.cell? ⟨b2, o2 + k, none⟩ = some (.int .i64 (ys.getD k 0)) := hc2 k (by omega)
        have hd' : ys.drop k = ys.getD k 0 :: ys.drop (k + 1) := by
          rw [List.drop_eq_getElem_cons (by omega), List.getD_eq_getElem?_getD, List.getElem?_eq_getElem (by omega)]; rfl
        rw [hd'] at heq
        clear hd hd' hc1 hc2
        generalize xs.getD k 0 = x at g1 heq
        generalize ys.getD k 0 = y at g2 heq
        have heq' : cmpL xs ys = if compareInt x y = 0 then cmpL (xs.drop (k + 1)) (ys.drop (k + 1)) else compareInt x y := by
          rw [heq]; simp only [cmpL, compareInt]
          by_cases h1 : x < y
          · simp [h1]
          · by_cases h2 : y < x
            · simp [h1, h2]
            · simp [h1, h2]
        have A : Aside (cmpL xs ys = if compareInt x y = 0 then cmpL (xs.drop (k + 1)) (ys.drop (k + 1)) else compareInt x y) := heq'
        clear heq heq'
        have hcon1 := fun W => hcon x y W
        clear hcon
        generalize compareInt x y = r at hcon1 A
        by_cases hr : r = 0
        · subst hr
          go_wp2_with (go_at_call 35; refine (hcon1 _).mono ?_; rintro e w' ⟨rfl, rfl⟩)
          go_roundg (n - (k + 1))
          case measure => omega
          case rel => exact ⟨k + 1, by omega, by omega, by go_num, rfl, by rw [A.out]; simp⟩
        · go_wp2_with (go_at_call 35; refine (hcon1 _).mono ?_; rintro e w' ⟨rfl, rfl⟩)
          go_ret
          exact ⟨by rw [A.out, if_neg hr]; rfl, rfl⟩
    · have hkn : k = n := by omega
      subst hkn
      rw [List.drop_eq_nil_of_le (show xs.length ≤ k by omega)] at heq
      have A : Aside (cmpL xs ys = if (k : Int) < (m : Int) then -1 else 0) := by
        show cmpL xs ys = _
        rw [heq]
        by_cases h : k < m
        · rw [if_pos (by omega)]
          cases hb : ys.drop k with
          | nil => have := congrArg List.length hb; simp at this; omega
          | cons y r => rfl
        · rw [List.drop_eq_nil_of_le (show ys.length ≤ k by omega), if_neg (by omega)]; rfl
      clear heq hc1 hc2 hcon
      by_cases h : (k : Int) < (m : Int)
      · go_wp2
        go_ret
        exact ⟨by rw [A.out, if_pos h]; rfl, rfl⟩
      · go_wp2
        go_ret
        exact ⟨by rw [A.out, if_neg (by omega)]; rfl, rfl⟩
open Go.Sort in
set_option maxHeartbeats 1000000 in
/-- The closure that the sort is handed. -/
theorem closure28 (v1 v2 : Int) (b1 o1 c b2 o2 d : Nat) (xs ys : List Int) (W : World) (hx : xs.length ≤ 1000000) (hy : ys.length ≤ 1000000) (hb1 : b1 < W.heap.size) (hb2 : b2 < W.heap.size) (hc1 : ∀ j, j < xs.length → W.cell? ⟨b1, o1 + j, none⟩ = some (.int .i64 (xs.getD j 0))) (hc2 : ∀ j, j < ys.length → W.cell? ⟨b2, o2 + j, none⟩ = some (.int .i64 (ys.getD j 0))) :
    Calls Try.prog 28 #[.agg #[.int .i64 v1, .slice (some ⟨b1, o1, none⟩) xs.length c], .agg #[.int .i64 v2, .slice (some ⟨b2, o2, none⟩) ys.length d]] W fun e w' => e = .returned (.int .i64 (cmpL xs ys)) ∧ ∃ q os', w' = grow (W.drewN q) os' := by
  have hcon := fun W' (h1 : ∀ j, j < xs.length → W'.cell? ⟨b1, o1 + j, none⟩ = some (.int .i64 (xs.getD j 0))) (h2 : ∀ j, j < ys.length → W'.cell? ⟨b2, o2 + j, none⟩ = some (.int .i64 (ys.getD j 0))) => slices_Compare_walk b1 o1 c b2 o2 d xs ys W' hx hy h1 h2
  have hmono : ∀ os (b o : Nat) v, b < W.heap.size → W.cell? ⟨b, o, none⟩ = some v → (grow W os).cell? ⟨b, o, none⟩ = some v := by
    intro os b o v hb h
    unfold grow World.cell? at *
    simp only at h ⊢
    rw [Array.getElem?_append_left hb]; exact h
  have hcon2 := fun os => hcon (grow W os) (fun j hj => hmono os _ _ _ hb1 (hc1 j hj)) (fun j hj => hmono os _ _ _ hb2 (hc2 j hj))
  have A : Aside (∀ os, Calls Try.prog 29 #[.slice (some ⟨b1, o1, none⟩) xs.length c, .slice (some ⟨b2, o2, none⟩) ys.length d] (grow W os) fun e w' => e = .returned (.int .i64 (cmpL xs ys)) ∧ w' = grow W os) := hcon2
  clear hcon hmono hcon2 hc1 hc2
  generalize cmpL xs ys = r at A ⊢
  generalize xs.length = n1 at A hx ⊢
  generalize ys.length = n2 at A hy ⊢
  go_enter Try.func28, Try.ntmps28
  go_wp2_with (go_at_call 29; rw [alloc_eq_grow, alloc_eq_grow, grow_grow]; refine (A.out _).mono ?_; rintro e w' ⟨rfl, rfl⟩)
  go_ret
  exact ⟨rfl, 0, _, rfl⟩
end Go.Proofs.Ytoagphhldhpnmaa.F
end
section
set_option linter.unusedSimpArgs false
set_option linter.unusedVariables false
/- Orders of vectors; sorted lists. -/
namespace Go.Proofs.Ytoagphhldhpnmaa.F
open Go Go.Proofs.Ytoagphhldhpnmaa.V

theorem cmpL_rng : ∀ (a b : List Int), cmpL a b = -1 ∨ cmpL a b = 0 ∨ cmpL a b = 1
  | [], [] => by simp [cmpL]
  | [], _ :: _ => by simp [cmpL]
  | _ :: _, [] => by simp [cmpL]
  | a :: l, b :: m => by
    simp only [cmpL]
    split
    · simp
    · split
      · simp
      · exact cmpL_rng l m
theorem cmpL_lt_trans : ∀ (a b c : List Int), cmpL a b < 0 → cmpL b c < 0 → cmpL a c < 0
  | [], [], _, h, _ => by simp [cmpL] at h
  | [], b :: m, [], _, h => by simp [cmpL] at h
  | [], b :: m, c :: n, _, _ => by simp [cmpL]
  | a :: l, [], _, h, _ => by simp [cmpL] at h
  | a :: l, b :: m, [], _, h => by simp [cmpL] at h
  | a :: l, b :: m, c :: n, h1, h2 => by
    simp only [cmpL] at h1 h2 ⊢
    by_cases e1 : a < b
    · by_cases e2 : b < c
      · simp [show a < c by omega]
      · by_cases e3 : c < b
        · rw [if_neg e2, if_pos e3] at h2; omega
        · simp [show a < c by omega]
    · by_cases e3 : b < a
      · rw [if_neg e1, if_pos e3] at h1; omega
      · rw [if_neg e1, if_neg e3] at h1
        by_cases e2 : b < c
        · simp [show a < c by omega]
        · by_cases e4 : c < b
          · rw [if_neg e2, if_pos e4] at h2; omega
          · rw [if_neg e2, if_neg e4] at h2
            rw [if_neg (by omega), if_neg (by omega)]
            exact cmpL_lt_trans l m n h1 h2
theorem cmpL_ge_trans : ∀ (a b c : List Int), 0 ≤ cmpL a b → 0 ≤ cmpL b c → 0 ≤ cmpL a c
  | [], [], [], _, _ => by simp [cmpL]
  | [], [], c :: n, _, h => by simp [cmpL] at h
  | [], b :: m, _, h, _ => by simp [cmpL] at h
  | a :: l, [], [], _, _ => by simp [cmpL]
  | a :: l, [], c :: n, _, h => by simp [cmpL] at h
  | a :: l, b :: m, [], _, _ => by simp [cmpL]
  | a :: l, b :: m, c :: n, h1, h2 => by
    simp only [cmpL] at h1 h2 ⊢
    by_cases e1 : a < b
    · rw [if_pos e1] at h1; omega
    · rw [if_neg e1] at h1
      by_cases e2 : b < c
      · rw [if_pos e2] at h2; omega
      · rw [if_neg e2] at h2
        rw [if_neg (by omega)]
        by_cases e3 : c < a
        · rw [if_pos e3]; omega
        · rw [if_neg (by omega)] at h1
          rw [if_neg (by omega)] at h2
          rw [if_neg e3]
          exact cmpL_ge_trans l m n h1 h2
theorem cmpL_self (a : List Int) : cmpL a a = 0 := by
  have := cmpL_neg a a; omega
theorem sorted_uniq {α : Type} {R : α → α → Prop} : ∀ {l1 l2 : List α}, l1.Perm l2 → l1.Pairwise R → l2.Pairwise R → (∀ a ∈ l1, ∀ b ∈ l1, R a b → R b a → a = b) → l1 = l2
  | [], l2, hp, _, _, _ => (List.Perm.nil_eq hp)
  | a :: s, [], hp, _, _, _ => by have := hp.length_eq; simp at this
  | a :: s, b :: t, hp, h1, h2, ha => by
    have hab : a = b := by
      have m1 : a ∈ b :: t := hp.subset (by simp)
      have m2 : b ∈ a :: s := hp.symm.subset (by simp)
      rcases List.mem_cons.1 m1 with e | m1
      · exact e
      · rcases List.mem_cons.1 m2 with e | m2
        · exact e.symm
        · exact ha a (by simp) b (by simp [m2]) ((List.pairwise_cons.1 h1).1 b m2) ((List.pairwise_cons.1 h2).1 a m1)
    subst hab
    rw [sorted_uniq (List.Perm.cons_inv hp) (List.pairwise_cons.1 h1).2 (List.pairwise_cons.1 h2).2 fun x hx y hy => ha x (by simp [hx]) y (by simp [hy])]
theorem leV_trans (a b c : Vv) (h1 : leV a b = true) (h2 : leV b c = true) : leV a c = true := by
  simp only [leV, decide_eq_true_eq] at *
  have := cmpL_neg a.2.1 b.2.1; have := cmpL_neg b.2.1 c.2.1; have := cmpL_neg a.2.1 c.2.1
  have := cmpL_ge_trans c.2.1 b.2.1 a.2.1 (by omega) (by omega)
  omega
theorem leV_total (a b : Vv) : (leV a b || leV b a) = true := by
  have := cmpL_neg a.2.1 b.2.1
  simp only [leV, Bool.or_eq_true, decide_eq_true_eq]
  omega
theorem sortF_perm (l : List Vv) : (sortF l).Perm l := List.mergeSort_perm l leV
theorem sortF_sorted (l : List Vv) : (sortF l).Pairwise fun a b => leV a b = true := List.pairwise_mergeSort leV_trans leV_total l
theorem sortOk_anti {l : List Vv} (h : sortOk l) : ∀ a ∈ l, ∀ b ∈ l, leV a b = true → leV b a = true → a = b := by
  intro a ha b hb h1 h2
  simp only [leV, decide_eq_true_eq] at h1 h2
  have hn := cmpL_neg a.2.1 b.2.1
  have e : a.2.1 = b.2.1 := cmpL_zero _ _ (by omega)
  have key : ∀ (l : List Vv), l.Pairwise (fun u v => u.2.1 ≠ v.2.1) → a ∈ l → b ∈ l → a = b := by
    intro l hp
    induction hp with
    | nil => intro h; cases h
    | cons hx _ ih =>
      intro ga gb
      rcases List.mem_cons.1 ga with e1 | ga'
      · rcases List.mem_cons.1 gb with e2 | gb'
        · rw [e1, e2]
        · exact absurd (by rw [← e1]; exact e) (hx _ gb')
      · rcases List.mem_cons.1 gb with e2 | gb'
        · exact absurd (by rw [← e2]; exact e.symm) (hx _ ga')
        · exact ih ga' gb'
  exact key l h.2.2 ha hb
/-- What is a sorted permutation is what the sort yields. -/
theorem sortF_of {l m : List Vv} (h : sortOk l) (hp : m.Perm l) (hs : m.Pairwise fun a b => leV a b = true) : sortF l = m := by
  refine sorted_uniq ((sortF_perm l).trans hp.symm) (sortF_sorted l) hs fun a ha b hb => ?_
  exact sortOk_anti h a ((sortF_perm l).subset ha) b ((sortF_perm l).subset hb)
/-! The cells of a list. -/
def vD (v : Vv) : D := .agg [.int .i64 v.1, .sl (v.2.1.map (D.int .i64))]
def flatV (l : List Vv) : List A := l.flatMap fun v => [A.d (.int .i64 v.1), A.d (.sl (v.2.1.map (D.int .i64)))]
theorem flatV_len (l : List Vv) : (flatV l).length = 2 * l.length := by
  induction l with
  | nil => rfl
  | cons v l ih => simp only [flatV, List.flatMap_cons, List.length_append, List.length_cons, List.length_nil] at ih ⊢; omega
theorem flatV_get : ∀ (l : List Vv) (i : Nat) (v : Vv), l[i]? = some v → (flatV l)[2 * i]? = some (A.d (.int .i64 v.1)) ∧ (flatV l)[2 * i + 1]? = some (A.d (.sl (v.2.1.map (D.int .i64))))
  | [], _, _, h => by simp at h
  | w :: l, 0, v, h => by
    simp at h; subst h
    simp [flatV]
  | w :: l, i + 1, v, h => by
    obtain ⟨h1, h2⟩ := flatV_get l i v (by simpa using h)
    constructor
    · show ([_, _] ++ flatV l)[2 * (i + 1)]? = _
      rw [List.getElem?_append_right (by simp; omega)]
      simpa [show 2 * (i + 1) - 2 = 2 * i by omega] using h1
    · show ([_, _] ++ flatV l)[2 * (i + 1) + 1]? = _
      rw [List.getElem?_append_right (by simp; omega)]
      simpa [show 2 * (i + 1) + 1 - 2 = 2 * i + 1 by omega] using h2
theorem toD_vD (v : Vv) : Ty.toD (.p (.int .i64) (.p (.sl (.int .i64)) .e)) v = vD v := rfl
theorem flatV_eq (l : List Vv) : (((l.map (Ty.toD (.p (.int .i64) (.p (.sl (.int .i64)) .e)))).flatMap D.cells).map A.ofD) = flatV l := by
  induction l with
  | nil => rfl
  | cons v l ih =>
    simp only [List.map_cons, List.flatMap_cons, List.map_append, ih, flatV]
    rfl
end Go.Proofs.Ytoagphhldhpnmaa.F
end
section
set_option linter.unusedSimpArgs false
set_option linter.unusedVariables false
/- Worlds that a sort passes through; vectors that can be read in them. -/
namespace Go.Proofs.Ytoagphhldhpnmaa.F
open Go Go.Proofs.Ytoagphhldhpnmaa.V

theorem sw_other {α : Type} [Inhabited α] (enc : α → List Value) (k : Nat) (w : World) (b m : Nat) (dk : Array α) (os : Array Obj) {i : Nat} (hi : i < w.heap.size) (hb : i ≠ b) : (sortWorldK enc k w b 0 m dk os).heap[i]? = w.heap[i]? := by
  show ((w.heap.modify b _) ++ os)[i]? = _
  rw [Array.getElem?_append_left (by simpa using hi), Array.getElem?_modify, if_neg (fun e => hb e.symm)]
theorem sw_blk {α : Type} [Inhabited α] (enc : α → List Value) (k : Nat) (w : World) (b m : Nat) (dk : Array α) (os : Array Obj) {c : Array Value} {e : TypeId} {fr : Nat × Nat} (hb : w.heap[b]? = some (.cells c e fr)) : (sortWorldK enc k w b 0 m dk os).heap[b]? = some (.cells (Go.Sort.putCells id 0 (Go.Sort.flatK enc k dk) c) e fr) := by
  have hlt : b < w.heap.size := (Array.getElem?_eq_some_iff.1 hb).1
  show ((w.heap.modify b _) ++ os)[b]? = _
  rw [Array.getElem?_append_left (by simpa using hlt), Array.getElem?_modify, if_pos rfl, hb]
  rfl
theorem sw_size {α : Type} [Inhabited α] (enc : α → List Value) (k : Nat) (w : World) (b m : Nat) (dk : Array α) (os : Array Obj) : w.heap.size ≤ (sortWorldK enc k w b 0 m dk os).heap.size := by
  show _ ≤ ((w.heap.modify b _) ++ os).size
  simp
theorem putCells_size {α : Type} [Inhabited α] (enc : α → Value) (off : Nat) (d : Array α) (c : Array Value) : (Go.Sort.putCells enc off d c).size = c.size := by simp [Go.Sort.putCells]
theorem putCells_get {d : Array Value} {c : Array Value} {j : Nat} (hj : j < d.size) (hc : j < c.size) : (Go.Sort.putCells id 0 d c)[j]? = some d[j]! := by
  simp only [Go.Sort.putCells, Array.getElem?_mapIdx]
  rw [Array.getElem?_eq_getElem hc]
  simp [hj]

/-- A value under which the vector can be read. -/
def RdV (w : World) (M : Mut) (b : Nat) (x : Vv × Value) : Prop := x.1.2.1.length = 6 ∧ VD w M (.sl (x.1.2.1.map (D.int .i64))) x.2 ∧ ∀ i, M b i
theorem RdV.cells {w : World} {M : Mut} {b : Nat} {x : Vv × Value} (h : RdV w M b x) : ∃ b1 o1 cap, x.2 = .slice (some ⟨b1, o1, none⟩) x.1.2.1.length cap ∧ b1 < w.heap.size ∧ b1 ≠ b ∧ ∀ j, j < x.1.2.1.length → w.cell? ⟨b1, o1 + j, none⟩ = some (.int .i64 (x.1.2.1.getD j 0)) := by
  obtain ⟨⟨x1, vec, ⟨⟩⟩, u⟩ := x
  obtain ⟨h6, hv, hM⟩ := h
  simp only at h6 hv ⊢
  generalize hxs : vec.map (D.int .i64) = xs at hv
  cases hv with
  | nil c => have : vec = [] := by simpa using hxs
             rw [this] at h6; simp at h6
  | sl a cap sz xs u hcap hsz hc hv =>
    have hl : xs.length = vec.length := by rw [← hxs]; simp
    have hget : ∀ j, j < vec.length → xs[j]? = some (D.int .i64 (vec.getD j 0)) := by
      intro j hj
      rw [← hxs, List.getElem?_map, List.getD_eq_getElem?_getD, List.getElem?_eq_getElem hj]; rfl
    have h1 : sz = 1 := (hsz 0 _ (hget 0 (by omega))).symm
    subst h1
    have hcell : ∀ j, j < vec.length → w.cell? (a.add j) = some (.int .i64 (vec.getD j 0)) ∧ ¬ M a.block (a.off + j) := by
      intro j hj
      obtain ⟨_, q2, q3⟩ := hc j _ 0 (D.int .i64 (vec.getD j 0)) (hget j hj) rfl
      have q4 := (hv j _ 0 (D.int .i64 (vec.getD j 0)) (hget j hj) rfl).int_inv
      rw [Nat.mul_one, Nat.add_zero] at q2 q3
      exact ⟨by rw [q2, q4], q3⟩
    have hsp : a.spot = none := by
      have := (hcell 0 (by omega)).1
      unfold World.cell? at this
      have hs : (a.add 0).spot = a.spot ∨ a.spot = none := by unfold Addr.add; split <;> simp_all
      split at this
      · split at this
        · cases this
        · rename_i hn
          rcases hs with hs | hs
          · rw [hs] at hn
            cases hsp : a.spot with
            | none => rfl
            | some z => rw [hsp] at hn; simp at hn
          · exact hs
      · cases this
    obtain ⟨b1, o1, sp⟩ := a
    simp only at hsp
    subst hsp
    refine ⟨b1, o1, cap, by rw [hl], ?_, fun e => ?_, fun j hj => ?_⟩
    · have := (hcell 0 (by omega)).1
      rw [Addr.add_lit] at this
      exact block_lt_of_cell this
    · subst e; exact (hcell 0 (by omega)).2 (hM _)
    · have := (hcell j hj).1
      rw [Addr.add_lit] at this
      exact this
theorem cell_sw {α : Type} [Inhabited α] (enc : α → List Value) (k : Nat) (w : World) (b m : Nat) (dk : Array α) (os : Array Obj) {b1 o1 : Nat} (hi : b1 < w.heap.size) (hb : b1 ≠ b) : (sortWorldK enc k w b 0 m dk os).cell? ⟨b1, o1, none⟩ = w.cell? ⟨b1, o1, none⟩ := by
  unfold World.cell?
  simp only [sw_other enc k w b m dk os hi hb]
end Go.Proofs.Ytoagphhldhpnmaa.F
end
section
set_option linter.unusedSimpArgs false
set_option linter.unusedVariables false
/-
  DERIVED: THE SHELF's CONTRACTS AT THIS DUMP, IN PLAIN WORDS (tools/lay-plain.mjs out of 'TrySort.lean', which tools/lay-shelf.mjs wrote): THE SAME DECLARATIONS UNDER THE SAME NAMES: 'import', 'namespace', 'open', 'def', 'theorem' AND NOTHING ELSE: no command of the shelf's: FOR A HAND-IN. Each laying: the table of numbers ('.._ren') and one theorem, a field a fact of the dump's own or the kernel's comparison; each contract: ONE APPLICATION.
-/
namespace Go.Proofs
open Go.Shelf
def Try.laysSort_ren : Go.Shelf.Ren := ⟨fun | 6 => 27 | 15 => 34 | 14 => 33 | 28 => 45 | 29 => 46 | 20 => 37 | 21 => 38 | 22 => 39 | 23 => 40 | 24 => 41 | 25 => 42 | 26 => 43 | 27 => 44 | 46 => 48 | 47 => 49 | 48 => 50 | 49 => 51 | 50 => 52 | 57 => 53 | n => n, fun | 22 => 22 | 24 => 35 | 25 => 49 | 3 => 3 | 39 => 53 | 0 => 0 | 53 => 65 | 55 => 67 | 4 => 4 | 46 => 58 | 45 => 57 | 50 => 62 | 5 => 5 | 9 => 9 | 66 => 69 | 70 => 73 | 76 => 75 | 77 => 76 | n => n, fun | n => n⟩
theorem Try.laysSort : Go.Proofs.SlLaysF0.n6 Try.prog Try.laysSort_ren := {
  mixed := by kernel_rfl
  f6 := ⟨Try.f27.name, by decide, Try.func27.trans (congrArg some (by kernel_rfl))⟩
  f14 := ⟨Try.f33.name, by decide, Try.func33.trans (congrArg some (by kernel_rfl))⟩
  f15 := Try.func34.trans (congrArg some (by kernel_rfl))
  f20 := ⟨Try.f37.name, by decide, Try.func37.trans (congrArg some (by kernel_rfl))⟩
  f21 := ⟨Try.f38.name, by decide, Try.func38.trans (congrArg some (by kernel_rfl))⟩
  f22 := ⟨Try.f39.name, by decide, Try.func39.trans (congrArg some (by kernel_rfl))⟩
  f23 := ⟨Try.f40.name, by decide, Try.func40.trans (congrArg some (by kernel_rfl))⟩
  f24 := ⟨Try.f41.name, by decide, Try.func41.trans (congrArg some (by kernel_rfl))⟩
  f25 := ⟨Try.f42.name, by decide, Try.func42.trans (congrArg some (by kernel_rfl))⟩
  f26 := ⟨Try.f43.name, by decide, Try.func43.trans (congrArg some (by kernel_rfl))⟩
  f27 := ⟨Try.f44.name, by decide, Try.func44.trans (congrArg some (by kernel_rfl))⟩
  f28 := Try.func45.trans (congrArg some (by kernel_rfl))
  f29 := Try.func46.trans (congrArg some (by kernel_rfl))
  f46 := ⟨Try.f48.name, by decide, Try.func48.trans (congrArg some (by kernel_rfl))⟩
  f47 := Try.func49.trans (congrArg some (by kernel_rfl))
  f48 := Try.func50.trans (congrArg some (by kernel_rfl))
  f49 := ⟨Try.f51.name, by decide, Try.func51.trans (congrArg some (by kernel_rfl))⟩
  f50 := ⟨Try.f52.name, by decide, Try.func52.trans (congrArg some (by kernel_rfl))⟩
  f57 := ⟨Try.f53.name, by decide, Try.func53.trans (congrArg some (by kernel_rfl))⟩
  t0 := Try.underlying0
  a0 := Try.isAgg0
  z0 := Try.sizeOf0
  v0 := Try.zeroValue0
  t3 := Try.underlying3
  a3 := Try.isAgg3
  z3 := Try.sizeOf3
  v3 := Try.zeroValue3
  t4 := Try.underlying4
  a4 := Try.isAgg4
  z4 := Try.sizeOf4
  v4 := Try.zeroValue4
  t5 := Try.underlying5
  a5 := Try.isAgg5
  z5 := Try.sizeOf5
  v5 := Try.zeroValue5
  t9 := Try.underlying9
  a9 := Try.isAgg9
  z9 := Try.sizeOf9
  v9 := Try.zeroValue9
  t22 := Try.underlying22
  a22 := Try.isAgg22
  z22 := Try.sizeOf22
  v22 := Try.zeroValue22
  t25 := Try.underlying49
  a25 := Try.isAgg49
  z25 := Try.sizeOf49
  v25 := Try.zeroValue49
  t39 := Try.underlying53
  a39 := Try.isAgg53
  z39 := Try.sizeOf53
  v39 := Try.zeroValue53
  t45 := Try.underlying57
  a45 := Try.isAgg57
  z45 := Try.sizeOf57
  v45 := Try.zeroValue57
  t46 := Try.underlying58
  a46 := Try.isAgg58
  z46 := Try.sizeOf58
  v46 := Try.zeroValue58
  t50 := Try.underlying62
  a50 := Try.isAgg62
  z50 := Try.sizeOf62
  v50 := Try.zeroValue62
  t53 := Try.underlying65
  a53 := Try.isAgg65
  z53 := Try.sizeOf65
  v53 := Try.zeroValue65
  t55 := Try.underlying67
  a55 := Try.isAgg67
  z55 := Try.sizeOf67
  v55 := Try.zeroValue67
  t66 := Try.underlying69
  a66 := Try.isAgg69
  z66 := Try.sizeOf69
  v66 := Try.zeroValue69
  t70 := Try.underlying73
  a70 := Try.isAgg73
  z70 := Try.sizeOf73
  v70 := Try.zeroValue73
  t76 := Try.underlying75
  a76 := Try.isAgg75
  z76 := Try.sizeOf75
  v76 := Try.zeroValue75
  t77 := Try.underlying76
  a77 := Try.isAgg76
  z77 := Try.sizeOf76
  v77 := Try.zeroValue76 }
end Go.Proofs
end
section
set_option linter.unusedSimpArgs false
set_option linter.unusedVariables false
/- slices.SortFunc of values by their vectors: what it computes. -/
namespace Go.Proofs.Ytoagphhldhpnmaa.F
open Go Go.Proofs.Ytoagphhldhpnmaa.V

def api_VersionedValue__27_28_g : Sg := ⟨27, [.row 1000 35 2 (.l 0), .fn 28 []], [(1000, .row 0 2)], 1, [], [(1000, .row 0 2)], 1, [(0, 0)]⟩
abbrev tV : Ty := .p (.int .i64) (.p (.sl (.int .i64)) .e)
theorem uni_tV (l : List Vv) : uni 2 (l.map tV.toD) := by
  intro x hx
  obtain ⟨v, _, rfl⟩ := List.mem_map.1 hx
  exact ⟨rfl, rfl⟩
set_option maxHeartbeats 4000000 in
theorem conO_of {l m : List Vv} (hok : sortOk l) (hm : m = sortF l) : ConO Try.prog 27 [.row 1000 35 2 0 l.length, .fn 28 []] [(1000, flatV l)] [] [(1000, flatV m)] := by
  refine ⟨Enters.of Try.func27 (by kernel_rfl) rfl, fun B M0 p vs w hr => ?_⟩
  obtain ⟨h16, hlen, hpw⟩ := hok
  have hvs : ∃ v0 v1, vs = [v0, v1] := by
    have := hr.len
    match vs, this with
    | [v0, v1], _ => exact ⟨v0, v1, rfl⟩
  obtain ⟨v0, v1, rfl⟩ := hvs
  have h0 := hr.tm 0 _ rfl
  have h1 := hr.tm 1 _ rfl
  obtain ⟨fs, hv1, hfs, _⟩ := h1
  obtain rfl : fs = [] := List.eq_nil_of_length_eq_zero hfs
  obtain rfl : v1 = .func (.func 28) #[] #[] := hv1
  have hml : m.length = l.length := by rw [hm]; exact (sortF_perm l).length_eq
  by_cases hl0 : l = []
  · subst hl0
    obtain rfl : m = [] := List.eq_nil_of_length_eq_zero (by simpa using hml)
    have hv0 : ∃ q cap, v0 = .slice q 0 cap := by
      rcases h0 with ⟨_, h⟩ | ⟨b, cap, c, _, h, _⟩
      · exact ⟨none, 0, h⟩
      · exact ⟨_, cap, h⟩
    obtain ⟨q, cap, rfl⟩ := hv0
    have hcon := AnyF.slices_SortFunc_none Try.laysSort q cap (.func (.func 28) #[] #[]) w
    change Calls Try.prog 27 #[.slice q 0 cap, .func (.func 28) #[] #[]] w _ at hcon
    refine hcon.mono fun e w' ⟨he, hw⟩ => ?_
    subst he; subst hw
    exact ⟨_, [], p, rfl, .inr ⟨by simp, rfl⟩, ⟨hr.ok, rfl, fun t a h => by simp at h, hr.bx⟩, Away.refl _ _⟩
  · have hn : 0 < l.length := List.length_pos_iff.2 hl0
    rcases h0 with ⟨h, _⟩ | ⟨b, cap, c, hbx, hv0, hcap1, hcap2, hheap, hsz⟩
    · exact absurd h (by omega)
    obtain rfl : v0 = .slice (some ⟨b, 0, none⟩) l.length cap := hv0
    obtain ⟨c', e', hh, hll, hcells⟩ := hr.bxb (k := 1000) (ls := flatV l) rfl hbx
    rw [hheap] at hh
    injection hh with hh; injection hh with hh _; subst hh
    rw [flatV_len] at hll
    have hblk : b < w.heap.size := (Array.getElem?_eq_some_iff.1 hheap).1
    have hMb : ∀ i, p.M M0 b i := fun i => .inr (.inl ⟨1000, hbx⟩)
    -- the elements, with what they are in memory
    have hel : ∀ i v, l[i]? = some v → c.getD (2 * i) undef = .int .i64 v.1 ∧ RdV w (p.M M0) b (v, c.getD (2 * i + 1) undef) := by
      intro i v hv
      obtain ⟨g1, g2⟩ := flatV_get l i v hv
      have q1 : VD w (p.M M0) (.int .i64 v.1) (c.getD (2 * i) undef) := hcells _ _ g1
      have q2 : VD w (p.M M0) (.sl (v.2.1.map (D.int .i64))) (c.getD (2 * i + 1) undef) := hcells _ _ g2
      exact ⟨q1.int_inv, hlen v (List.mem_of_getElem? hv), q2, hMb⟩
    let α := { x : Vv × Value // RdV w (p.M M0) b x }
    obtain ⟨v00, hv00⟩ : ∃ v, l[0]? = some v := ⟨l[0], List.getElem?_eq_getElem hn⟩
    letI inh : Inhabited α := ⟨⟨_, (hel 0 v00 hv00).2⟩⟩
    let enc : α → List Value := fun x => [.int .i64 x.1.1.1, x.1.2]
    let cf : α → α → Int := fun x y => cmpL x.1.1.2.1 y.1.1.2.1
    let d : Array α := Array.ofFn fun i : Fin l.length => (⟨(l[i], c.getD (2 * i.1 + 1) undef), (hel i.1 l[i] (List.getElem?_eq_getElem i.2)).2⟩ : α)
    have hds : d.size = l.length := by simp [d]
    have hdi : ∀ i (hi : i < l.length), d[i]! = (⟨(l[i], c.getD (2 * i + 1) undef), (hel i l[i] (List.getElem?_eq_getElem hi)).2⟩ : α) := by
      intro i hi
      rw [getElem!_pos d i (by rw [hds]; exact hi)]
      simp [d]
    have hO : Go.Sort.SWO (ltOf cf) := by
      refine ⟨fun x => ?_, fun x y z h1 h2 => ?_, fun x y z h1 h2 => ?_⟩
      · simp only [ltOf, cf, cmpL_self]; rfl
      · simp only [ltOf, cf, decide_eq_true_eq] at *; exact cmpL_lt_trans _ _ _ h1 h2
      · simp only [ltOf, cf, decide_eq_false_iff_not, Int.not_lt] at *; exact cmpL_ge_trans _ _ _ h1 h2
    have hcmp : CmpLays Try.prog 28 #[] enc 2 cf b 0 d.size w := by
      intro mm os dk _ x y
      obtain ⟨b1, o1, cp1, u1, hb1, hne1, hc1⟩ := x.2.cells
      obtain ⟨b2, o2, cp2, u2, hb2, hne2, hc2⟩ := y.2.cells
      have hx6 := x.2.1
      have hy6 := y.2.1
      have hsw := sw_size enc 2 w b mm dk os
      have := closure28 x.1.1.1 y.1.1.1 b1 o1 cp1 b2 o2 cp2 x.1.1.2.1 y.1.1.2.1 (sortWorldK enc 2 w b 0 mm dk os) (by omega) (by omega) (by omega) (by omega)
        (fun j hj => by rw [cell_sw enc 2 w b mm dk os hb1 hne1]; exact hc1 j hj) (fun j hj => by rw [cell_sw enc 2 w b mm dk os hb2 hne2]; exact hc2 j hj)
      show Calls Try.prog 28 (#[.agg #[.int .i64 x.1.1.1, x.1.2], .agg #[.int .i64 y.1.1.1, y.1.2]] ++ #[]) _ _
      rw [u1, u2]
      exact this
    have hH : Go.Sort.HoldsK enc 2 w b 0 d := by
      intro j hj
      rw [Go.Sort.size_flatK, hds] at hj
      have hi : j / 2 < l.length := by omega
      rw [Go.Sort.get_flatK _ _ _ _ (by rw [hds]; exact hj), hdi _ hi, Nat.zero_add]
      obtain ⟨e1, e2⟩ := hel (j / 2) l[j / 2] (List.getElem?_eq_getElem hi)
      have hjc : j < c.size := by omega
      have hcell : w.cell? ⟨b, j, none⟩ = some (c.getD j undef) := by
        unfold World.cell?
        simp only [hheap]
        rw [Array.getD_eq_getD_getElem?, Array.getElem?_eq_getElem hjc]
        simp
      refine ⟨?_, ?_⟩
      · rw [hcell]
        rcases Nat.mod_two_eq_zero_or_one j with h | h
        · rw [h]
          have : j = 2 * (j / 2) := by omega
          conv => lhs; rw [this]
          exact congrArg some e1
        · rw [h]
          have : j = 2 * (j / 2) + 1 := by omega
          conv => lhs; rw [this]
          rfl
      · unfold World.frozen?
        simp only [hheap]
        simp
    have hcon := AnyQ.slices_SortFunc Try.laysSort 2 (fun w => V.run_isAgg (P := Try.prog) (t := 35) (by kernel_rfl)) (fun w => V.run_sizeOf (P := Try.prog) (t := 35) (by kernel_rfl)) enc (fun _ => rfl) (fun x v hv => by
      simp only [enc, List.mem_cons, List.not_mem_nil, or_false] at hv
      rcases hv with rfl | rfl
      · rfl
      · obtain ⟨b1, o1, cp1, u1, _⟩ := x.2.cells; rw [u1]; rfl) cf hO 28 #[] b 0 cap d w (Enters.of Try.func28 (by kernel_rfl) rfl) hcmp hH hblk (by rw [hds]; omega)
    change Calls Try.prog 27 #[.slice (some ⟨b, 0, none⟩) d.size cap, .func (.func 28) #[] #[]] w _ at hcon
    rw [hds] at hcon
    refine hcon.mono fun e w' ⟨he, d', n, os, hperm, hsort, hw⟩ => ?_
    subst he
    -- what the row holds behind it
    obtain ⟨hsz', _, hpl⟩ := hperm
    rw [hds] at hsz'
    have hfull : ∀ (a : Array α), a.size = l.length → (a.extract 0 l.length).toList = a.toList := by
      intro a ha; rw [← ha]; simp
    rw [hfull d' hsz', hfull d hds] at hpl
    have hdl : d.toList.map (fun x => x.1.1) = l := by
      apply List.ext_getElem
      · simp [hds]
      · intro i h1 h2
        simp [d]
    have hml' : m = d'.toList.map (fun x => x.1.1) := by
      rw [hm]
      refine sortF_of ⟨h16, hlen, hpw⟩ (by rw [← hdl]; exact hpl.map _) ?_
      rw [List.pairwise_map, List.pairwise_iff_getElem]
      intro i j hi hj hij
      have := hsort i j (by omega) hij (by simpa [hsz'] using hj)
      simp only [Array.length_toList] at hi hj
      rw [getElem!_pos d' i hi, getElem!_pos d' j hj] at this
      simp only [ltOf, cf, decide_eq_false_iff_not, Int.not_lt] at this
      have hn := cmpL_neg (d'[i].1.1.2.1) (d'[j].1.1.2.1)
      simp only [leV, decide_eq_true_eq, Array.getElem_toList]
      omega
    have hoth : ∀ i, i < w.heap.size → i ≠ b → w'.heap[i]? = w.heap[i]? := fun i hi hb => by rw [hw]; exact sw_other enc 2 w b n d' os hi hb
    have hnew : w'.heap[b]? = some (.cells (Go.Sort.putCells id 0 (Go.Sort.flatK enc 2 d') c) 35 (0, 0)) := by rw [hw]; exact sw_blk enc 2 w b n d' os hheap
    have hsz2 : w.heap.size ≤ w'.heap.size := by rw [hw]; exact sw_size enc 2 w b n d' os
    have hB : ∀ i, B b i := (hr.ok.bx _ _ hbx).1
    have hcellk : ∀ (a : Addr) u, w.cell? a = some u → a.block ≠ b → w'.cell? a = some u := by
      intro a u hu hne
      have hlt := block_lt_of_cell hu
      unfold World.cell? at hu ⊢
      rw [hoth _ hlt hne]; exact hu
    have hkeep : Keep w (p.M M0) w' (p.M M0) := fun a u hu hn => ⟨hcellk a u hu fun e => hn (by rw [e]; exact hMb _), hn⟩
    have hst : ∀ (i : Nat) (c2 : Array Value) (t : TypeId), w.heap[i]? = some (Obj.cells c2 t (0, 0)) → ∃ c3 : Array Value, w'.heap[i]? = some (Obj.cells c3 t (0, 0)) ∧ c3.size = c2.size := by
      intro i c2 t hi
      by_cases e : i = b
      · subst e
        rw [hheap] at hi
        injection hi with hi; injection hi with hi1 hi2; subst hi1 hi2
        exact ⟨_, hnew, putCells_size _ _ _ _⟩
      · exact ⟨c2, by rw [hoth i (Array.getElem?_eq_some_iff.1 hi).1 e]; exact hi, rfl⟩
    refine ⟨_, [], p, rfl, .inr ⟨by simp, rfl⟩, ⟨?_, rfl, fun t a h => by simp at h, fun k' ls hk => ?_⟩, ?_⟩
    · refine ⟨fun bb i h => ⟨(hr.ok.m0 bb i h).1, by have := (hr.ok.m0 bb i h).2; omega⟩, fun k hk i => hr.ok.size k (by omega) i, fun k bb h => ?_, fun l' h hg => ?_, hr.ok.bxi, hr.ok.gri, hr.ok.dis, fun k bb t nn h => ?_⟩
      · obtain ⟨q1, c2, T, q2⟩ := hr.ok.bx k bb h
        obtain ⟨c3, q3, _⟩ := hst _ _ _ q2
        exact ⟨q1, c3, T, q3⟩
      · obtain ⟨q1, q2, q3, c2, q4, q5⟩ := hr.ok.gr l' h hg
        obtain ⟨c3, q6, q7⟩ := hst _ _ _ q4
        exact ⟨q1, q2, q3, c3, q6, by omega⟩
      · obtain ⟨q1, q2, c2, q3, q4⟩ := hr.ok.fx k bb t nn h
        obtain ⟨c3, q5, q6⟩ := hst _ _ _ q3
        exact ⟨q1, q2, c3, q5, by omega⟩
    · simp only [lk] at hk
      split at hk
      · rename_i ek
        injection hk with hk; subst hk; subst ek
        refine .inr ⟨b, _, 35, hbx, hnew, by rw [flatV_len, putCells_size]; omega, fun j a ha => ?_⟩
        have hj : j < 2 * m.length := by rw [← flatV_len]; exact (List.getElem?_eq_some_iff.1 ha).1
        have hi : j / 2 < m.length := by omega
        have hi' : j / 2 < d'.size := by omega
        have hget : (Go.Sort.putCells id 0 (Go.Sort.flatK enc 2 d') c).getD j undef = (enc d'[j / 2]!)[j % 2]! := by
          rw [Array.getD_eq_getD_getElem?, putCells_get (by rw [Go.Sort.size_flatK]; omega) (by omega), Go.Sort.get_flatK _ _ _ _ (by omega)]
          rfl
        rw [hget]
        have hmi : m[j / 2]? = some d'[j / 2]!.1.1 := by
          rw [hml', List.getElem?_map, getElem!_pos d' _ hi']
          simp [hi']
        obtain ⟨g1, g2⟩ := flatV_get m (j / 2) _ hmi
        rcases Nat.mod_two_eq_zero_or_one j with h | h
        · have e : 2 * (j / 2) = j := by omega
          rw [e, ha] at g1
          injection g1 with g1; subst g1
          rw [h]
          exact VD.int _ _
        · have e : 2 * (j / 2) + 1 = j := by omega
          rw [e, ha] at g2
          injection g2 with g2; subst g2
          rw [h]
          exact VD.mono hkeep d'[j / 2]!.2.2.1
      · simp [lk] at hk
    · refine ⟨by rw [hw]; rfl, by rw [hw]; rfl, by rw [hw]; rfl, hsz2, fun k hk hnb => hoth k hk fun e => hnb 0 (by rw [e]; exact hB 0), fun a u hu hnb => hcellk a u hu fun e => hnb (by rw [e]; exact hB _)⟩
theorem api_VersionedValue__27_28_ok : Gn.Ok Try.prog ⟨api_VersionedValue__27_28_g, [.sl tV], [.sl tV], api_VersionedValue__27_28⟩ := by
  intro a r hr
  have hr : api_VersionedValue__27_28 a = some r := hr
  unfold api_VersionedValue__27_28 at hr
  split at hr
  · rename_i hok
    injection hr with hr; subst hr
    have e : ∀ l : List Vv, tpD [.sl tV] (l, ()) = [D.sl (l.map tV.toD)] := fun l => by simp only [tpD, toD_sl]
    show SCon _ api_VersionedValue__27_28_g (tpD [.sl tV] (a.1, ())) (tpD [.sl tV] (sortF a.1, ()))
    rw [e, e]
    have hll : (sortF a.1).length = a.1.length := (sortF_perm a.1).length_eq
    refine ⟨rfl, rfl, fun x hx => ?_, [.row 1000 35 2 0 a.1.length, .fn 28 []], [(1000, flatV a.1)], [], [(1000, flatV (sortF a.1))], ?_, ?_, rfl, ?_, conO_of hok rfl⟩
    · simp only [api_VersionedValue__27_28_g, List.mem_singleton] at hx
      subst hx
      exact ⟨a.1.map tV.toD, (sortF a.1).map tV.toD, rfl, rfl, by simp [hll]⟩
    · simp [api_VersionedValue__27_28_g, fl, SN.val]
    · simp only [api_VersionedValue__27_28_g, flX]
      rw [flC_row (xs := a.1.map tV.toD) rfl (uni_tV _), flatV_eq]
    · simp only [api_VersionedValue__27_28_g, flX]
      rw [flC_row (xs := (sortF a.1).map tV.toD) rfl (uni_tV _), flatV_eq]
  · cases hr
end Go.Proofs.Ytoagphhldhpnmaa.F
end
section
set_option linter.unusedSimpArgs false
set_option linter.unusedVariables false
/- That they do: printed by a program of ours. -/
namespace Go.Proofs.Ytoagphhldhpnmaa.F
open Go Go.Proofs.Ytoagphhldhpnmaa.V
set_option maxRecDepth 100000
set_option linter.unusedVariables false
abbrev us (n : Nat) : List SA := List.replicate n .unk


/- slices.Max[[]int,int] -/
def slices_Max___int_int__36_h : List (Nat × SS × Nat) := [(61, ⟨[.unk, .unk, .unk, .d (.v 5)] ++ us 21, [], []⟩, 1), (122, ⟨[.d (.v 0), .unk, .unk, .d (.v 5), .d (.v 6)] ++ us 20, [], []⟩, 2), (13, ⟨[.d (.v 0)] ++ us 24, [], []⟩, 0)]
theorem slices_Max___int_int__36_ok : Fn.Ok Try.prog ⟨36, [(.sl (.int .i64))], [(.int .i64)], slices_Max___int_int__36⟩ :=
  Fn.of (c := ⟨Try.prog, [], [], [2000013], slices_Max___int_int__36_h⟩) (fs := []) (gs := []) (an := [(.int .i64), .bool, (.int .i64), (.int .i64), (.int .i64), (.int .i64), (.int .i64), (.int .i64), .bool, (.int .i64), (.int .i64), (.int .i64), (.int .i64)]) (by kernel_rfl) Try.func36 (by kernel_rfl) (by kernel_rfl) (fun _ h => by cases h) (fun _ h => by cases h) (by kernel_rfl)


/- cmp.isNaN[int] -/
def cmp_isNaN_int__47_h : List (Nat × SS × Nat) := []
theorem cmp_isNaN_int__47_ok : Fn.Ok Try.prog ⟨47, [(.int .i64)], [.bool], cmp_isNaN_int__47⟩ :=
  Fn.of (c := ⟨Try.prog, [], [], [], cmp_isNaN_int__47_h⟩) (fs := []) (gs := []) (an := [.bool]) (by kernel_rfl) Try.func47 (by kernel_rfl) (by kernel_rfl) (fun _ h => by cases h) (fun _ h => by cases h) (by kernel_rfl)


/- cmp.Compare[int] -/
def cmp_Compare_int__35_h : List (Nat × SS × Nat) := []
theorem cmp_Compare_int__35_ok : Fn.Ok Try.prog ⟨35, [(.int .i64), (.int .i64)], [(.int .i64)], cmp_Compare_int__35⟩ :=
  Fn.of (c := ⟨Try.prog, [(47, 1)], [], [], cmp_Compare_int__35_h⟩) (fs := [⟨47, [(.int .i64)], [.bool], cmp_isNaN_int__47⟩]) (gs := []) (an := [.bool, .bool]) (by kernel_rfl) Try.func35 (by kernel_rfl) (by kernel_rfl) (by simp only [List.forall_mem_cons, List.not_mem_nil, false_implies, implies_true, and_true]; exact cmp_isNaN_int__47_ok) (fun _ h => by cases h) (by kernel_rfl)


/- slices.Compare[[]int,int] -/
def slices_Compare___int_int__29_h : List (Nat × SS × Nat) := [(13, ⟨[.d (.v 0), .d (.v 1)] ++ us 34, [], []⟩, 0), (26, ⟨[.d (.v 0), .d (.v 1)] ++ us 7 ++ [.d (.v 0), .d (.v 2), .d (.v 3)] ++ us 24, [], []⟩, 1)]
theorem slices_Compare___int_int__29_ok : Fn.Ok Try.prog ⟨29, [(.sl (.int .i64)), (.sl (.int .i64))], [(.int .i64)], slices_Compare___int_int__29⟩ :=
  Fn.of (c := ⟨Try.prog, [(35, 1)], [], [], slices_Compare___int_int__29_h⟩) (fs := [⟨35, [(.int .i64), (.int .i64)], [(.int .i64)], cmp_Compare_int__35⟩]) (gs := []) (an := [(.int .i64), (.int .i64), (.int .i64), .bool, (.int .i64), .bool, (.int .i64), (.int .i64), (.int .i64), .bool, (.int .i64), (.int .i64), .bool, (.int .i64)]) (by kernel_rfl) Try.func29 (by kernel_rfl) (by kernel_rfl) (by simp only [List.forall_mem_cons, List.not_mem_nil, false_implies, implies_true, and_true]; exact cmp_Compare_int__35_ok) (fun _ h => by cases h) (by kernel_rfl)


/- changeforge/multivalue.covers -/
def multivalue_covers_21_h : List (Nat × SS × Nat) := [(13, ⟨us 21, [], []⟩, 0), (26, ⟨[.d (.v 0), .d (.v 1)] ++ us 5 ++ [.d (.v 2), .d (.v 3)] ++ us 12, [], []⟩, 1)]
theorem multivalue_covers_21_ok : Fn.Ok Try.prog ⟨21, [(.sl (.int .i64)), (.sl (.int .i64))], [.bool], multivalue_covers_21⟩ :=
  Fn.of (c := ⟨Try.prog, [], [], [], multivalue_covers_21_h⟩) (fs := []) (gs := []) (an := [(.int .i64), (.int .i64), .bool, (.int .i64), (.int .i64), (.int .i64), (.int .i64), .bool, (.int .i64)]) (by kernel_rfl) Try.func21 (by kernel_rfl) (by kernel_rfl) (fun _ h => by cases h) (fun _ h => by cases h) (by kernel_rfl)


/- changeforge/multivalue.code -/
def multivalue_code_31_h : List (Nat × SS × Nat) := [(509, ⟨us 81, [], []⟩, 0), (130354, ⟨us 5 ++ [.box 5 0] ++ us 56 ++ [.d (.v 11), .d (.v 12), .d (.v 19)] ++ us 14 ++ [.d (.v 20)] ++ us 1, [(5, .cs ([.d (.v 4), .d (.v 5)]))], []⟩, 2), (1018, ⟨us 5 ++ [.box 5 0] ++ us 56 ++ [.d (.v 11), .d (.v 12), .d (.v 13)] ++ us 16, [(5, .cs ([.d (.v 4), .d (.v 5)]))], []⟩, 1), (252, ⟨[.d (.v 0), .d (.v 1), .unk, .unk, .unk, .box 5 0] ++ us 53 ++ [.d (.v 10)] ++ us 21, [(5, .cs ([.d (.v 4), .d (.v 5)]))], []⟩, 1), (125, ⟨[.d (.v 0), .d (.v 1), .unk, .unk, .unk, .box 5 0] ++ us 75, [(5, .cs ([.d (.v 4), .d (.v 5)]))], []⟩, 0), (32050, ⟨[.d (.v 0), .d (.v 1), .unk, .unk, .unk, .box 5 0] ++ us 21 ++ [.d (.v 5), .d (.v 9), .d (.v 14)] ++ us 8 ++ [.d (.v 15)] ++ us 42, [(5, .cs ([.d (.v 4), .d (.v 5)]))], []⟩, 2), (250, ⟨[.d (.v 0), .d (.v 1), .unk, .unk, .unk, .box 5 0] ++ us 21 ++ [.d (.v 5), .d (.v 9), .d (.v 10)] ++ us 51, [(5, .cs ([.d (.v 4), .d (.v 5)]))], []⟩, 1), (28, ⟨[.d (.v 0), .d (.v 1), .unk, .unk, .unk, .box 5 0] ++ us 15 ++ [.d (.v 6)] ++ us 59, [(5, .cs ([.d (.v 4), .d (.v 5)]))], []⟩, 1)]
theorem multivalue_code_31_ok : Fn.Ok Try.prog ⟨31, [(.sl (.p (.int .i64) (.p (.sl (.int .i64)) .e))), (.int .i64)], [(.int .i64)], multivalue_code_31⟩ :=
  Fn.of (c := ⟨Try.prog, [(21, 1), (36, 1), (29, 1)], [], [], multivalue_code_31_h⟩) (fs := [⟨21, [(.sl (.int .i64)), (.sl (.int .i64))], [.bool], multivalue_covers_21⟩, ⟨36, [(.sl (.int .i64))], [(.int .i64)], slices_Max___int_int__36⟩, ⟨29, [(.sl (.int .i64)), (.sl (.int .i64))], [(.int .i64)], slices_Compare___int_int__29⟩]) (gs := []) (an := [(.p (.int .i64) (.p (.sl (.int .i64)) .e)), (.p (.int .i64) (.p (.sl (.int .i64)) .e)), (.int .i64), (.sl (.int .i64)), .bool, (.int .i64), .bool, (.int .i64), .bool, (.sl (.p (.int .i64) (.p (.sl (.int .i64)) .e))), (.int .i64), (.int .i64), .bool, (.p (.int .i64) (.p (.sl (.int .i64)) .e)), (.p (.int .i64) (.p (.sl (.int .i64)) .e)), (.int .i64), (.sl (.int .i64)), (.int .i64), .bool, (.int .i64), .bool, .bool, (.int .i64), (.p (.int .i64) (.p (.sl (.int .i64)) .e)), (.sl (.int .i64)), .bool, (.int .i64), .bool, (.int .i64), (.int .i64), (.int .i64), .bool, (.int .i64), .bool, .bool, .bool, .bool]) (by kernel_rfl) Try.func31 (by kernel_rfl) (by kernel_rfl) (by simp only [List.forall_mem_cons, List.not_mem_nil, false_implies, implies_true, and_true]; exact ⟨multivalue_covers_21_ok, slices_Max___int_int__36_ok, slices_Compare___int_int__29_ok⟩) (fun _ h => by cases h) (by kernel_rfl)


/- changeforge/multivalue.Validate -/
def multivalue_Validate_13_h : List (Nat × SS × Nat) := [(29, ⟨[.unk, .unk, .box 2 0] ++ us 21, [(2, .cs ([.d (.k (.int .i64 0)), .d (.k (.int .i64 0))]))], []⟩, 0), (58, ⟨[.d (.v 0), .unk, .box 2 0] ++ us 7 ++ [.d (.v 3), .d (.v 4)] ++ us 12, [(2, .cs ([.d (.k (.int .i64 0)), .d (.k (.int .i64 0))]))], []⟩, 1)]
theorem multivalue_Validate_13_ok : Fn.Ok Try.prog ⟨13, [(.sl (.p (.int .i64) (.p (.sl (.int .i64)) .e)))], [(.p (.int .i64) (.p (.int .i64) .e))], multivalue_Validate_13⟩ :=
  Fn.of (c := ⟨Try.prog, [(31, 1)], [], [], multivalue_Validate_13_h⟩) (fs := [⟨31, [(.sl (.p (.int .i64) (.p (.sl (.int .i64)) .e))), (.int .i64)], [(.int .i64)], multivalue_code_31⟩]) (gs := []) (an := [(.int .i64), .bool, (.p (.int .i64) (.p (.int .i64) .e)), (.int .i64), (.p (.int .i64) (.p (.int .i64) .e)), (.int .i64), .bool, .bool, (.int .i64), (.int .i64), (.p (.int .i64) (.p (.int .i64) .e)), (.int .i64)]) (by kernel_rfl) Try.func13 (by kernel_rfl) (by kernel_rfl) (by simp only [List.forall_mem_cons, List.not_mem_nil, false_implies, implies_true, and_true]; exact multivalue_code_31_ok) (fun _ h => by cases h) (by kernel_rfl)


/- changeforge/multivalue.Write -/
def multivalue_Write_9_h : List (Nat × SS × Nat) := [(253, ⟨[.unk, .d (.v 1), .d (.v 2)] ++ us 4 ++ [.box 7 0, .unk, .row 34 3 1 (.l 13)] ++ us 67, [(7, .cs ([.d (.k (.int .i64 0)), .d (.k (.int .i64 0))])), (34, .row 13 1)], []⟩, 1), (8102, ⟨[.unk, .d (.v 1), .d (.v 2)] ++ us 4 ++ [.box 7 0, .unk, .row 34 3 1 (.l 16)] ++ us 25 ++ [.d (.v 0), .d (.v 12), .d (.v 17)] ++ us 39, [(7, .cs ([.d (.k (.int .i64 0)), .d (.k (.int .i64 0))])), (34, .row 16 1)], []⟩, 2), (64819, ⟨[.unk, .d (.v 1), .d (.v 2)] ++ us 4 ++ [.box 7 0, .unk, .row 34 3 1 (.l 21)] ++ us 25 ++ [.d (.v 0), .d (.v 12), .d (.v 22)] ++ us 39, [(7, .cs ([.d (.k (.int .i64 0)), .d (.k (.int .i64 0))])), (34, .row 21 1)], []⟩, 2), (129638, ⟨[.unk, .d (.v 1), .d (.v 2)] ++ us 4 ++ [.box 7 0, .unk, .row 34 3 1 (.l 21)] ++ us 25 ++ [.d (.v 0), .d (.v 12), .d (.v 22)] ++ us 4 ++ [.d (.v 23), .d (.v 24), .d (.v 25)] ++ us 32, [(7, .cs ([.d (.k (.int .i64 0)), .d (.k (.int .i64 0))])), (34, .row 21 1)], []⟩, 5), (506, ⟨[.unk, .d (.v 1), .d (.v 2)] ++ us 4 ++ [.box 7 0, .unk, .row 34 3 1 (.l 13)] ++ us 25 ++ [.d (.v 0), .d (.v 12), .d (.v 14)] ++ us 39, [(7, .cs ([.d (.k (.int .i64 0)), .d (.k (.int .i64 0))])), (34, .row 13 1)], []⟩, 2), (60, ⟨[.d (.v 0), .d (.v 1), .d (.v 2)] ++ us 4 ++ [.box 7 0] ++ us 24 ++ [.d (.v 10)] ++ us 44, [(7, .cs ([.d (.k (.int .i64 0)), .d (.k (.int .i64 0))]))], []⟩, 1), (28, ⟨[.d (.v 0), .d (.v 1), .d (.v 2)] ++ us 4 ++ [.box 7 0] ++ us 17 ++ [.d (.v 9)] ++ us 51, [(7, .cs ([.d (.k (.int .i64 0)), .d (.k (.int .i64 0))]))], []⟩, 1)]
theorem multivalue_Write_9_ok : Fn.Ok Try.prog ⟨9, [(.sl (.p (.int .i64) (.p (.sl (.int .i64)) .e))), (.int .i64), (.int .i64)], [(.sl (.p (.int .i64) (.p (.sl (.int .i64)) .e))), (.p (.int .i64) (.p (.int .i64) .e))], multivalue_Write_9⟩ :=
  Fn.of (c := ⟨Try.prog, [(13, 1)], [], [], multivalue_Write_9_h⟩) (fs := [⟨13, [(.sl (.p (.int .i64) (.p (.sl (.int .i64)) .e)))], [(.p (.int .i64) (.p (.int .i64) .e))], multivalue_Validate_13⟩]) (gs := []) (an := [(.int .i64), (.int .i64), (.p (.int .i64) (.p (.int .i64) .e)), (.p (.int .i64) (.p (.int .i64) .e)), .bool, (.p (.int .i64) (.p (.int .i64) .e)), .bool, (.p (.int .i64) (.p (.int .i64) .e)), .bool, (.p (.int .i64) (.p (.int .i64) .e)), (.sl (.int .i64)), (.int .i64), (.sl (.int .i64)), (.int .i64), (.int .i64), .bool, (.p (.int .i64) (.p (.int .i64) .e)), (.int .i64), (.int .i64), (.int .i64), (.int .i64), (.sl (.int .i64)), (.int .i64), (.sl (.int .i64)), (.p (.int .i64) (.p (.sl (.int .i64)) .e)), (.sl (.p (.int .i64) (.p (.sl (.int .i64)) .e))), (.p (.int .i64) (.p (.int .i64) .e)), (.sl (.int .i64)), (.int .i64), .bool, (.sl (.int .i64)), (.int .i64), (.int .i64), (.p (.int .i64) (.p (.sl (.int .i64)) .e)), (.p (.int .i64) (.p (.sl (.int .i64)) .e)), (.int .i64), (.sl (.int .i64)), (.int .i64), (.sl (.int .i64)), (.int .i64), (.sl (.int .i64)), (.int .i64), (.sl (.int .i64)), (.int .i64), (.int .i64), .bool, (.int .i64), (.int .i64), (.int .i64), (.int .i64), (.int .i64), (.int .i64), (.sl (.int .i64)), (.int .i64), .bool, .bool, .bool, .bool]) (by kernel_rfl) Try.func9 (by kernel_rfl) (by kernel_rfl) (by simp only [List.forall_mem_cons, List.not_mem_nil, false_implies, implies_true, and_true]; exact multivalue_Validate_13_ok) (fun _ h => by cases h) (by kernel_rfl)


end Go.Proofs.Ytoagphhldhpnmaa.F
end
section
set_option linter.unusedSimpArgs false
set_option linter.unusedVariables false
/- That they do: printed by a program of ours. -/
namespace Go.Proofs.Ytoagphhldhpnmaa.F
open Go Go.Proofs.Ytoagphhldhpnmaa.V
set_option maxRecDepth 100000
set_option linter.unusedVariables false

/- changeforge/changeforgeref1.At -/
def changeforgeref1_At_18_h : List (Nat × SS × Nat) := []
theorem changeforgeref1_At_18_ok : Fn.Ok Try.prog ⟨18, [(.int .i64), (.int .i64)], [(.p (.int .i64) (.p (.int .i64) .e))], changeforgeref1_At_18⟩ :=
  Fn.of (c := ⟨Try.prog, [], [], [], changeforgeref1_At_18_h⟩) (fs := []) (gs := []) (an := [(.int .i64), (.int .i64), (.p (.int .i64) (.p (.int .i64) .e))]) (by kernel_rfl) Try.func18 (by kernel_rfl) (by kernel_rfl) (fun _ h => by cases h) (fun _ h => by cases h) (by kernel_rfl)


/- changeforge/changeforgeref2.less -/
def changeforgeref2_less_30_h : List (Nat × SS × Nat) := [(13, ⟨us 30, [], []⟩, 0), (26, ⟨[.d (.v 0), .d (.v 1), .unk, .unk, .unk, .d (.v 2)] ++ us 24, [], []⟩, 1)]
theorem changeforgeref2_less_30_ok : Fn.Ok Try.prog ⟨30, [(.sl (.int .i64)), (.sl (.int .i64))], [.bool], changeforgeref2_less_30⟩ :=
  Fn.of (c := ⟨Try.prog, [], [], [], changeforgeref2_less_30_h⟩) (fs := []) (gs := []) (an := [(.int .i64), (.int .i64), .bool, (.int .i64), (.int .i64), (.int .i64), (.int .i64), .bool, (.int .i64), (.int .i64), (.int .i64), (.int .i64), .bool, (.int .i64)]) (by kernel_rfl) Try.func30 (by kernel_rfl) (by kernel_rfl) (fun _ h => by cases h) (fun _ h => by cases h) (by kernel_rfl)


/- changeforge/changeforgeref2.Relation -/
def changeforgeref2_Relation_17_h : List (Nat × SS × Nat) := [(61, ⟨us 6 ++ [.d (.v 2), .d (.v 3)] ++ us 33, [], []⟩, 2), (3913, ⟨[.d (.v 0), .d (.v 1)] ++ us 4 ++ [.d (.v 10), .d (.v 11), .d (.v 12)] ++ us 32, [], []⟩, 3), (3912, ⟨[.d (.v 0), .d (.v 1)] ++ us 4 ++ [.d (.v 7), .d (.v 8), .d (.v 9)] ++ us 32, [], []⟩, 3), (122, ⟨[.d (.v 0), .d (.v 1)] ++ us 4 ++ [.d (.v 2), .d (.v 3), .d (.v 4)] ++ us 32, [], []⟩, 3)]
theorem changeforgeref2_Relation_17_ok : Fn.Ok Try.prog ⟨17, [(.sl (.int .i64)), (.sl (.int .i64))], [.bool, .bool], changeforgeref2_Relation_17⟩ :=
  Fn.of (c := ⟨Try.prog, [], [], [], changeforgeref2_Relation_17_h⟩) (fs := []) (gs := []) (an := [.bool, .bool, .bool, .bool, (.int .i64), (.int .i64), .bool, .bool, .bool, (.int .i64), .bool, .bool, (.int .i64), (.int .i64), (.int .i64), (.int .i64), (.int .i64), (.int .i64), .bool, (.int .i64), (.int .i64), (.int .i64), (.int .i64), .bool]) (by kernel_rfl) Try.func17 (by kernel_rfl) (by kernel_rfl) (fun _ h => by cases h) (fun _ h => by cases h) (by kernel_rfl)


/- changeforge/changeforgeref2.ValuesFault -/
def changeforgeref2_ValuesFault_14_h : List (Nat × SS × Nat) := [(29, ⟨[.unk, .unk, .box 2 0] ++ us 111, [(2, .cs ([.d (.k (.int .i64 0)), .d (.k (.int .i64 0))]))], []⟩, 0), (466, ⟨[.d (.v 0), .unk, .box 2 0, .d (.v 6)] ++ us 110, [(2, .cs ([.d (.k (.int .i64 0)), .d (.k (.int .i64 0))]))], []⟩, 1), (119423, ⟨[.d (.v 0), .unk, .box 2 0, .d (.v 24)] ++ us 110, [(2, .cs ([.d (.k (.int .i64 0)), .d (.k (.int .i64 0))]))], []⟩, 1), (15286162, ⟨[.d (.v 0), .unk, .box 2 0, .d (.v 33), .box 4 0, .unk, .unk, .d (.v 34)] ++ us 102 ++ [.d (.v 35)] ++ us 3, [(2, .cs ([.d (.k (.int .i64 0)), .d (.k (.int .i64 0))])), (4, .cs ([.d (.v 36), .d (.v 37)]))], []⟩, 5), (238846, ⟨[.d (.v 0), .unk, .box 2 0, .d (.v 24), .box 4 0, .unk, .unk, .d (.v 25)] ++ us 106, [(2, .cs ([.d (.k (.int .i64 0)), .d (.k (.int .i64 0))])), (4, .cs ([.d (.v 26), .d (.v 27)]))], []⟩, 4), (119420, ⟨[.d (.v 0), .unk, .box 2 0, .d (.v 20), .box 4 0] ++ us 83 ++ [.d (.v 21)] ++ us 25, [(2, .cs ([.d (.k (.int .i64 0)), .d (.k (.int .i64 0))])), (4, .cs ([.d (.v 22), .d (.v 23)]))], []⟩, 4), (59709, ⟨[.d (.v 0), .unk, .box 2 0, .d (.v 16), .box 4 0, .d (.v 17)] ++ us 108, [(2, .cs ([.d (.k (.int .i64 0)), .d (.k (.int .i64 0))])), (4, .cs ([.d (.v 18), .d (.v 19)]))], []⟩, 4), (3821385, ⟨[.d (.v 0), .unk, .box 2 0, .d (.v 29), .box 4 0, .d (.v 30), .d (.v 31)] ++ us 107, [(2, .cs ([.d (.k (.int .i64 0)), .d (.k (.int .i64 0))])), (4, .cs ([.d (.v 32), .d (.v 33)]))], []⟩, 5), (7642768, ⟨[.d (.v 0), .unk, .box 2 0, .d (.v 23), .box 4 0, .d (.v 24), .d (.v 25)] ++ us 53 ++ [.d (.v 26)] ++ us 53, [(2, .cs ([.d (.k (.int .i64 0)), .d (.k (.int .i64 0))])), (4, .cs ([.d (.v 27), .d (.v 28)]))], []⟩, 6), (119418, ⟨[.d (.v 0), .unk, .box 2 0, .d (.v 16), .box 4 0, .d (.v 17), .d (.v 18)] ++ us 107, [(2, .cs ([.d (.k (.int .i64 0)), .d (.k (.int .i64 0))])), (4, .cs ([.d (.v 19), .d (.v 20)]))], []⟩, 5), (7460, ⟨[.d (.v 0), .unk, .box 2 0, .d (.v 10), .box 4 0] ++ us 26 ++ [.d (.v 11)] ++ us 82, [(2, .cs ([.d (.k (.int .i64 0)), .d (.k (.int .i64 0))])), (4, .cs ([.d (.v 12), .d (.v 13)]))], []⟩, 4), (58, ⟨[.d (.v 0), .unk, .box 2 0, .d (.v 3)] ++ us 110, [(2, .cs ([.d (.k (.int .i64 0)), .d (.k (.int .i64 0))]))], []⟩, 1)]
theorem changeforgeref2_ValuesFault_14_ok : Fn.Ok Try.prog ⟨14, [(.sl (.p (.int .i64) (.p (.sl (.int .i64)) .e)))], [(.p (.int .i64) (.p (.int .i64) .e))], changeforgeref2_ValuesFault_14⟩ :=
  Fn.of (c := ⟨Try.prog, [(18, 1), (17, 2), (30, 1)], [], [], changeforgeref2_ValuesFault_14_h⟩) (fs := [⟨18, [(.int .i64), (.int .i64)], [(.p (.int .i64) (.p (.int .i64) .e))], changeforgeref1_At_18⟩, ⟨17, [(.sl (.int .i64)), (.sl (.int .i64))], [.bool, .bool], changeforgeref2_Relation_17⟩, ⟨30, [(.sl (.int .i64)), (.sl (.int .i64))], [.bool], changeforgeref2_less_30⟩]) (gs := []) (an := [(.int .i64), .bool, (.int .i64), (.int .i64), (.p (.int .i64) (.p (.int .i64) .e)), (.p (.int .i64) (.p (.int .i64) .e)), (.int .i64), (.int .i64), .bool, (.int .i64), (.int .i64), (.p (.int .i64) (.p (.sl (.int .i64)) .e)), (.p (.int .i64) (.p (.sl (.int .i64)) .e)), (.int .i64), (.sl (.int .i64)), (.int .i64), .bool, (.int .i64), (.sl (.int .i64)), (.int .i64), (.int .i64), (.p (.int .i64) (.p (.int .i64) .e)), (.int .i64), .bool, (.int .i64), (.int .i64), (.p (.int .i64) (.p (.int .i64) .e)), (.int .i64), .bool, (.int .i64), (.sl (.int .i64)), (.int .i64), .bool, (.int .i64), (.sl (.int .i64)), (.int .i64), (.int .i64), (.p (.int .i64) (.p (.int .i64) .e)), (.int .i64), (.int .i64), (.int .i64), (.int .i64), (.sl (.int .i64)), .bool, (.p (.int .i64) (.p (.sl (.int .i64)) .e)), (.sl (.int .i64)), (.int .i64), (.int .i64), .bool, (.int .i64), (.sl (.int .i64)), (.int .i64), (.int .i64), (.p (.int .i64) (.p (.int .i64) .e)), (.int .i64), .bool, (.int .i64), (.p (.int .i64) (.p (.sl (.int .i64)) .e)), (.sl (.int .i64)), .bool, (.int .i64), .bool, (.int .i64), (.int .i64), (.sl (.int .i64)), (.int .i64), .bool, (.int .i64), .bool, (.int .i64), .bool, (.int .i64), (.sl (.int .i64)), (.int .i64), (.int .i64), (.p (.int .i64) (.p (.int .i64) .e)), (.int .i64), .bool, (.int .i64), (.int .i64), (.sl (.int .i64)), (.int .i64), (.int .i64), (.int .i64), .bool, (.int .i64), (.int .i64), .bool, (.int .i64), (.int .i64), .bool, .bool, .bool]) (by kernel_rfl) Try.func14 (by kernel_rfl) (by kernel_rfl) (by simp only [List.forall_mem_cons, List.not_mem_nil, false_implies, implies_true, and_true]; exact ⟨changeforgeref1_At_18_ok, changeforgeref2_Relation_17_ok, changeforgeref2_less_30_ok⟩) (fun _ h => by cases h) (by kernel_rfl)


/- changeforge/changeforgeref2.Written -/
def changeforgeref2_Written_10_h : List (Nat × SS × Nat) := [(253, ⟨[.unk, .d (.v 1), .d (.v 2)] ++ us 4 ++ [.box 7 0, .unk, .grow 3 1 9] ++ us 71, [(7, .cs ([.d (.k (.int .i64 0)), .d (.k (.int .i64 0))]))], [.t 69]⟩, 1), (129613, ⟨[.d (.v 0), .d (.v 1), .d (.v 2)] ++ us 4 ++ [.box 7 0, .unk, .grow 3 1 16, .d (.v 17), .d (.v 18)] ++ us 69, [(7, .cs ([.d (.k (.int .i64 0)), .d (.k (.int .i64 0))]))], [.t 69]⟩, 3), (64805, ⟨[.d (.v 0), .d (.v 1), .d (.v 2)] ++ us 4 ++ [.box 7 0, .unk, .grow 3 1 12, .d (.v 13), .d (.v 14)] ++ us 69, [(7, .cs ([.d (.k (.int .i64 0)), .d (.k (.int .i64 0))]))], [.t 69]⟩, 3), (1036882, ⟨[.d (.v 0), .d (.v 1), .d (.v 2)] ++ us 4 ++ [.box 7 0, .unk, .grow 3 1 18, .d (.v 19), .d (.v 20), .d (.v 21)] ++ us 68, [(7, .cs ([.d (.k (.int .i64 0)), .d (.k (.int .i64 0))]))], [.t 69]⟩, 4), (4147529, ⟨[.d (.v 0), .d (.v 1), .d (.v 2)] ++ us 4 ++ [.box 7 0, .unk, .grow 3 1 23, .d (.v 24), .d (.v 25), .d (.v 26)] ++ us 68, [(7, .cs ([.d (.k (.int .i64 0)), .d (.k (.int .i64 0))]))], [.t 69]⟩, 4), (129610, ⟨[.d (.v 0), .d (.v 1), .d (.v 2)] ++ us 4 ++ [.box 7 0, .unk, .grow 3 1 12, .d (.v 13), .d (.v 14), .d (.v 15)] ++ us 68, [(7, .cs ([.d (.k (.int .i64 0)), .d (.k (.int .i64 0))]))], [.t 69]⟩, 4), (506, ⟨[.d (.v 0), .d (.v 1), .d (.v 2)] ++ us 4 ++ [.box 7 0, .unk, .grow 3 1 9, .d (.v 10)] ++ us 70, [(7, .cs ([.d (.k (.int .i64 0)), .d (.k (.int .i64 0))]))], [.t 69]⟩, 2), (60, ⟨[.d (.v 0), .d (.v 1), .d (.v 2)] ++ us 4 ++ [.box 7 0] ++ us 23 ++ [.d (.v 8)] ++ us 49, [(7, .cs ([.d (.k (.int .i64 0)), .d (.k (.int .i64 0))]))], []⟩, 1), (28, ⟨[.d (.v 0), .d (.v 1), .d (.v 2)] ++ us 4 ++ [.box 7 0] ++ us 16 ++ [.d (.v 7)] ++ us 56, [(7, .cs ([.d (.k (.int .i64 0)), .d (.k (.int .i64 0))]))], []⟩, 1)]
theorem changeforgeref2_Written_10_ok : Fn.Ok Try.prog ⟨10, [(.sl (.p (.int .i64) (.p (.sl (.int .i64)) .e))), (.int .i64), (.int .i64)], [(.sl (.p (.int .i64) (.p (.sl (.int .i64)) .e))), (.p (.int .i64) (.p (.int .i64) .e))], changeforgeref2_Written_10⟩ :=
  Fn.of (c := ⟨Try.prog, [(14, 1), (18, 1)], [], [], changeforgeref2_Written_10_h⟩) (fs := [⟨14, [(.sl (.p (.int .i64) (.p (.sl (.int .i64)) .e)))], [(.p (.int .i64) (.p (.int .i64) .e))], changeforgeref2_ValuesFault_14⟩, ⟨18, [(.int .i64), (.int .i64)], [(.p (.int .i64) (.p (.int .i64) .e))], changeforgeref1_At_18⟩]) (gs := []) (an := [(.int .i64), (.int .i64), .bool, (.p (.int .i64) (.p (.int .i64) .e)), .bool, (.int .i64), (.int .i64), (.p (.int .i64) (.p (.int .i64) .e)), .bool, (.int .i64), (.int .i64), (.p (.int .i64) (.p (.int .i64) .e)), (.sl (.int .i64)), (.int .i64), (.int .i64), .bool, (.int .i64), (.int .i64), (.p (.int .i64) (.p (.int .i64) .e)), (.int .i64), (.sl (.int .i64)), (.p (.int .i64) (.p (.sl (.int .i64)) .e)), (.sl (.p (.int .i64) (.p (.sl (.int .i64)) .e))), (.p (.int .i64) (.p (.int .i64) .e)), (.sl (.int .i64)), (.int .i64), .bool, (.sl (.int .i64)), (.int .i64), (.int .i64), .bool, (.sl (.int .i64)), (.int .i64), (.int .i64), (.sl (.int .i64)), (.sl (.int .i64)), (.int .i64), (.int .i64), (.sl (.int .i64)), (.int .i64), (.int .i64), (.int .i64), (.int .i64), .bool, (.sl (.int .i64)), (.int .i64), (.int .i64), (.int .i64), (.int .i64), (.p (.int .i64) (.p (.sl (.int .i64)) .e)), (.sl (.int .i64)), (.int .i64), (.int .i64), .bool, (.sl (.int .i64)), (.int .i64), (.int .i64), (.int .i64), (.p (.int .i64) (.p (.sl (.int .i64)) .e)), (.sl (.int .i64)), (.int .i64), (.int .i64), .bool, .bool, .bool, .bool]) (by kernel_rfl) Try.func10 (by kernel_rfl) (by kernel_rfl) (by simp only [List.forall_mem_cons, List.not_mem_nil, false_implies, implies_true, and_true]; exact ⟨changeforgeref2_ValuesFault_14_ok, changeforgeref1_At_18_ok⟩) (fun _ h => by cases h) (by kernel_rfl)


end Go.Proofs.Ytoagphhldhpnmaa.F
end
section
set_option linter.unusedSimpArgs false
set_option linter.unusedVariables false
/- That they do: printed by a program of ours. -/
namespace Go.Proofs.Ytoagphhldhpnmaa.F
open Go Go.Proofs.Ytoagphhldhpnmaa.V
set_option maxRecDepth 100000
set_option linter.unusedVariables false

/- slices.Equal[[]int,int] -/
def slices_Equal___int_int__22_h : List (Nat × SS × Nat) := [(29, ⟨us 26, [], []⟩, 0), (58, ⟨[.d (.v 0), .d (.v 1)] ++ us 10 ++ [.d (.v 5), .d (.v 6)] ++ us 12, [], []⟩, 1)]
theorem slices_Equal___int_int__22_ok : Fn.Ok Try.prog ⟨22, [(.sl (.int .i64)), (.sl (.int .i64))], [.bool], slices_Equal___int_int__22⟩ :=
  Fn.of (c := ⟨Try.prog, [], [], [], slices_Equal___int_int__22_h⟩) (fs := []) (gs := []) (an := [(.int .i64), (.int .i64), .bool, (.int .i64), (.int .i64), .bool, (.int .i64), (.int .i64), (.int .i64), (.int .i64), .bool, (.int .i64)]) (by kernel_rfl) Try.func22 (by kernel_rfl) (by kernel_rfl) (fun _ h => by cases h) (fun _ h => by cases h) (by kernel_rfl)


/- changeforge/multivalue.Merge$1 -/
def multivalue_Merge_1_20_h : List (Nat × SS × Nat) := [(6, ⟨[.unk, .unk, .unk, .d (.v 5)] ++ us 13, [(2000, .cs ([.d (.v 1), .d (.v 2)]))], []⟩, 1)]
def multivalue_Merge_1_20_g : Sg := ⟨20, [.d (.v 0), .box 2000 0], [(2000, .cs ([.d (.v 1), .d (.v 2)]))], 3, [.d (.v 0)], [(2000, .cs ([.d (.v 1), .d (.v 2)]))], 3, []⟩
theorem multivalue_Merge_1_20_ok : Gn.Ok Try.prog ⟨multivalue_Merge_1_20_g, [(.p (.int .i64) (.p (.sl (.int .i64)) .e)), (.int .i64), (.sl (.int .i64))], [.bool, (.int .i64), (.sl (.int .i64))], multivalue_Merge_1_20⟩ :=
  Gn.of' (c := ⟨Try.prog, [(21, 1), (22, 1)], [], [], multivalue_Merge_1_20_h⟩) (fs := [⟨21, [(.sl (.int .i64)), (.sl (.int .i64))], [.bool], multivalue_covers_21⟩, ⟨22, [(.sl (.int .i64)), (.sl (.int .i64))], [.bool], slices_Equal___int_int__22⟩]) (gs := []) (an := [(.int .i64), (.sl (.int .i64)), .bool, .bool]) (by kernel_rfl) Try.func20 (by kernel_rfl) (by kernel_rfl) (by simp only [List.forall_mem_cons, List.not_mem_nil, false_implies, implies_true, and_true]; exact ⟨multivalue_covers_21_ok, slices_Equal___int_int__22_ok⟩) (fun _ h => by cases h) (by kernel_rfl)


/- slices.IndexFunc[[]changeforge/api.VersionedValue,changeforge/api.VersionedValue] -/
def api_VersionedValue__24_20_h : List (Nat × SS × Nat) := [(13, ⟨us 19, [(2000, .cs ([.d (.v 4), .d (.v 5)]))], []⟩, 2), (26, ⟨[.d (.v 0), .fn 20 [(2000, 0)]] ++ us 5 ++ [.d (.v 3), .d (.v 4)] ++ us 10, [(2000, .cs ([.d (.v 5), .d (.v 6)]))], []⟩, 3)]
def api_VersionedValue__24_20_g : Sg := ⟨24, [.d (.v 0), .fn 20 [(2000, 0)]], [(2000, .cs ([.d (.v 1), .d (.v 2)]))], 3, [.d (.v 0)], [(2000, .cs ([.d (.v 1), .d (.v 2)]))], 3, []⟩
theorem api_VersionedValue__24_20_ok : Gn.Ok Try.prog ⟨api_VersionedValue__24_20_g, [(.sl (.p (.int .i64) (.p (.sl (.int .i64)) .e))), (.int .i64), (.sl (.int .i64))], [(.int .i64), (.int .i64), (.sl (.int .i64))], api_VersionedValue__24_20⟩ :=
  Gn.of' (c := ⟨Try.prog, [], [multivalue_Merge_1_20_g], [], api_VersionedValue__24_20_h⟩) (fs := []) (gs := [⟨multivalue_Merge_1_20_g, [(.p (.int .i64) (.p (.sl (.int .i64)) .e)), (.int .i64), (.sl (.int .i64))], [.bool, (.int .i64), (.sl (.int .i64))], multivalue_Merge_1_20⟩]) (an := [(.int .i64), (.int .i64), (.sl (.int .i64)), (.int .i64), (.int .i64), (.sl (.int .i64)), .bool, (.p (.int .i64) (.p (.sl (.int .i64)) .e)), (.p (.int .i64) (.p (.sl (.int .i64)) .e)), (.int .i64)]) (by kernel_rfl) Try.func24 (by kernel_rfl) (by kernel_rfl) (fun _ h => by cases h) (by simp only [List.forall_mem_cons, List.not_mem_nil, false_implies, implies_true, and_true]; exact multivalue_Merge_1_20_ok) (by kernel_rfl)


/- slices.ContainsFunc[[]changeforge/api.VersionedValue,changeforge/api.VersionedValue] -/
def api_VersionedValue__19_20_h : List (Nat × SS × Nat) := []
def api_VersionedValue__19_20_g : Sg := ⟨19, [.d (.v 0), .fn 20 [(2000, 0)]], [(2000, .cs ([.d (.v 1), .d (.v 2)]))], 3, [.d (.v 0)], [(2000, .cs ([.d (.v 1), .d (.v 2)]))], 3, []⟩
theorem api_VersionedValue__19_20_ok : Gn.Ok Try.prog ⟨api_VersionedValue__19_20_g, [(.sl (.p (.int .i64) (.p (.sl (.int .i64)) .e))), (.int .i64), (.sl (.int .i64))], [.bool, (.int .i64), (.sl (.int .i64))], api_VersionedValue__19_20⟩ :=
  Gn.of' (c := ⟨Try.prog, [], [api_VersionedValue__24_20_g], [], api_VersionedValue__19_20_h⟩) (fs := []) (gs := [⟨api_VersionedValue__24_20_g, [(.sl (.p (.int .i64) (.p (.sl (.int .i64)) .e))), (.int .i64), (.sl (.int .i64))], [(.int .i64), (.int .i64), (.sl (.int .i64))], api_VersionedValue__24_20⟩]) (an := [.bool]) (by kernel_rfl) Try.func19 (by kernel_rfl) (by kernel_rfl) (fun _ h => by cases h) (by simp only [List.forall_mem_cons, List.not_mem_nil, false_implies, implies_true, and_true]; exact api_VersionedValue__24_20_ok) (by kernel_rfl)


/- slices.Clone[[]int,int] -/
def slices_Clone___int_int__23_h : List (Nat × SS × Nat) := []
theorem slices_Clone___int_int__23_ok : Fn.Ok Try.prog ⟨23, [(.sl (.int .i64))], [(.sl (.int .i64))], slices_Clone___int_int__23⟩ :=
  Fn.of (c := ⟨Try.prog, [], [], [], slices_Clone___int_int__23_h⟩) (fs := []) (gs := []) (an := [(.sl (.int .i64)), (.sl (.int .i64))]) (by kernel_rfl) Try.func23 (by kernel_rfl) (by kernel_rfl) (fun _ h => by cases h) (fun _ h => by cases h) (by kernel_rfl)


/- changeforge/multivalue.Merge$2 -/
def multivalue_Merge_2_25_h : List (Nat × SS × Nat) := []
def multivalue_Merge_2_25_g : Sg := ⟨25, [.d (.v 0), .box 2000 0], [(2000, .cs ([.d (.v 1), .d (.v 2)]))], 3, [.d (.v 0)], [(2000, .cs ([.d (.v 1), .d (.v 2)]))], 3, []⟩
theorem multivalue_Merge_2_25_ok : Gn.Ok Try.prog ⟨multivalue_Merge_2_25_g, [(.p (.int .i64) (.p (.sl (.int .i64)) .e)), (.int .i64), (.sl (.int .i64))], [.bool, (.int .i64), (.sl (.int .i64))], multivalue_Merge_2_25⟩ :=
  Gn.of' (c := ⟨Try.prog, [(22, 1)], [], [], multivalue_Merge_2_25_h⟩) (fs := [⟨22, [(.sl (.int .i64)), (.sl (.int .i64))], [.bool], slices_Equal___int_int__22⟩]) (gs := []) (an := [(.int .i64), (.sl (.int .i64))]) (by kernel_rfl) Try.func25 (by kernel_rfl) (by kernel_rfl) (by simp only [List.forall_mem_cons, List.not_mem_nil, false_implies, implies_true, and_true]; exact slices_Equal___int_int__22_ok) (fun _ h => by cases h) (by kernel_rfl)


/- slices.IndexFunc[[]changeforge/api.VersionedValue,changeforge/api.VersionedValue] -/
def api_VersionedValue__24_25_h : List (Nat × SS × Nat) := [(13, ⟨us 19, [(2000, .cs ([.d (.v 4), .d (.v 5)]))], []⟩, 2), (26, ⟨[.d (.v 0), .fn 25 [(2000, 0)]] ++ us 5 ++ [.d (.v 3), .d (.v 4)] ++ us 10, [(2000, .cs ([.d (.v 5), .d (.v 6)]))], []⟩, 3)]
def api_VersionedValue__24_25_g : Sg := ⟨24, [.d (.v 0), .fn 25 [(2000, 0)]], [(2000, .cs ([.d (.v 1), .d (.v 2)]))], 3, [.d (.v 0)], [(2000, .cs ([.d (.v 1), .d (.v 2)]))], 3, []⟩
theorem api_VersionedValue__24_25_ok : Gn.Ok Try.prog ⟨api_VersionedValue__24_25_g, [(.sl (.p (.int .i64) (.p (.sl (.int .i64)) .e))), (.int .i64), (.sl (.int .i64))], [(.int .i64), (.int .i64), (.sl (.int .i64))], api_VersionedValue__24_25⟩ :=
  Gn.of' (c := ⟨Try.prog, [], [multivalue_Merge_2_25_g], [], api_VersionedValue__24_25_h⟩) (fs := []) (gs := [⟨multivalue_Merge_2_25_g, [(.p (.int .i64) (.p (.sl (.int .i64)) .e)), (.int .i64), (.sl (.int .i64))], [.bool, (.int .i64), (.sl (.int .i64))], multivalue_Merge_2_25⟩]) (an := [(.int .i64), (.int .i64), (.sl (.int .i64)), (.int .i64), (.int .i64), (.sl (.int .i64)), .bool, (.p (.int .i64) (.p (.sl (.int .i64)) .e)), (.p (.int .i64) (.p (.sl (.int .i64)) .e)), (.int .i64)]) (by kernel_rfl) Try.func24 (by kernel_rfl) (by kernel_rfl) (fun _ h => by cases h) (by simp only [List.forall_mem_cons, List.not_mem_nil, false_implies, implies_true, and_true]; exact multivalue_Merge_2_25_ok) (by kernel_rfl)


/- changeforge/multivalue.Merge$3 -/
def multivalue_Merge_3_26_h : List (Nat × SS × Nat) := []
def multivalue_Merge_3_26_g : Sg := ⟨26, [.d (.v 0), .box 2000 0], [(2000, .cs ([.d (.v 1), .d (.v 2)]))], 3, [.d (.v 0)], [(2000, .cs ([.d (.v 1), .d (.v 2)]))], 3, []⟩
theorem multivalue_Merge_3_26_ok : Gn.Ok Try.prog ⟨multivalue_Merge_3_26_g, [(.p (.int .i64) (.p (.sl (.int .i64)) .e)), (.int .i64), (.sl (.int .i64))], [.bool, (.int .i64), (.sl (.int .i64))], multivalue_Merge_3_26⟩ :=
  Gn.of' (c := ⟨Try.prog, [(21, 1)], [], [], multivalue_Merge_3_26_h⟩) (fs := [⟨21, [(.sl (.int .i64)), (.sl (.int .i64))], [.bool], multivalue_covers_21⟩]) (gs := []) (an := [(.int .i64), (.sl (.int .i64))]) (by kernel_rfl) Try.func26 (by kernel_rfl) (by kernel_rfl) (by simp only [List.forall_mem_cons, List.not_mem_nil, false_implies, implies_true, and_true]; exact multivalue_covers_21_ok) (fun _ h => by cases h) (by kernel_rfl)


/- slices.IndexFunc[[]changeforge/api.VersionedValue,changeforge/api.VersionedValue] -/
def api_VersionedValue__24_26_h : List (Nat × SS × Nat) := [(13, ⟨us 19, [(2000, .cs ([.d (.v 4), .d (.v 5)]))], []⟩, 2), (26, ⟨[.d (.v 0), .fn 26 [(2000, 0)]] ++ us 5 ++ [.d (.v 3), .d (.v 4)] ++ us 10, [(2000, .cs ([.d (.v 5), .d (.v 6)]))], []⟩, 3)]
def api_VersionedValue__24_26_g : Sg := ⟨24, [.d (.v 0), .fn 26 [(2000, 0)]], [(2000, .cs ([.d (.v 1), .d (.v 2)]))], 3, [.d (.v 0)], [(2000, .cs ([.d (.v 1), .d (.v 2)]))], 3, []⟩
theorem api_VersionedValue__24_26_ok : Gn.Ok Try.prog ⟨api_VersionedValue__24_26_g, [(.sl (.p (.int .i64) (.p (.sl (.int .i64)) .e))), (.int .i64), (.sl (.int .i64))], [(.int .i64), (.int .i64), (.sl (.int .i64))], api_VersionedValue__24_26⟩ :=
  Gn.of' (c := ⟨Try.prog, [], [multivalue_Merge_3_26_g], [], api_VersionedValue__24_26_h⟩) (fs := []) (gs := [⟨multivalue_Merge_3_26_g, [(.p (.int .i64) (.p (.sl (.int .i64)) .e)), (.int .i64), (.sl (.int .i64))], [.bool, (.int .i64), (.sl (.int .i64))], multivalue_Merge_3_26⟩]) (an := [(.int .i64), (.int .i64), (.sl (.int .i64)), (.int .i64), (.int .i64), (.sl (.int .i64)), .bool, (.p (.int .i64) (.p (.sl (.int .i64)) .e)), (.p (.int .i64) (.p (.sl (.int .i64)) .e)), (.int .i64)]) (by kernel_rfl) Try.func24 (by kernel_rfl) (by kernel_rfl) (fun _ h => by cases h) (by simp only [List.forall_mem_cons, List.not_mem_nil, false_implies, implies_true, and_true]; exact multivalue_Merge_3_26_ok) (by kernel_rfl)


/- slices.ContainsFunc[[]changeforge/api.VersionedValue,changeforge/api.VersionedValue] -/
def api_VersionedValue__19_26_h : List (Nat × SS × Nat) := []
def api_VersionedValue__19_26_g : Sg := ⟨19, [.d (.v 0), .fn 26 [(2000, 0)]], [(2000, .cs ([.d (.v 1), .d (.v 2)]))], 3, [.d (.v 0)], [(2000, .cs ([.d (.v 1), .d (.v 2)]))], 3, []⟩
theorem api_VersionedValue__19_26_ok : Gn.Ok Try.prog ⟨api_VersionedValue__19_26_g, [(.sl (.p (.int .i64) (.p (.sl (.int .i64)) .e))), (.int .i64), (.sl (.int .i64))], [.bool, (.int .i64), (.sl (.int .i64))], api_VersionedValue__19_26⟩ :=
  Gn.of' (c := ⟨Try.prog, [], [api_VersionedValue__24_26_g], [], api_VersionedValue__19_26_h⟩) (fs := []) (gs := [⟨api_VersionedValue__24_26_g, [(.sl (.p (.int .i64) (.p (.sl (.int .i64)) .e))), (.int .i64), (.sl (.int .i64))], [(.int .i64), (.int .i64), (.sl (.int .i64))], api_VersionedValue__24_26⟩]) (an := [.bool]) (by kernel_rfl) Try.func19 (by kernel_rfl) (by kernel_rfl) (fun _ h => by cases h) (by simp only [List.forall_mem_cons, List.not_mem_nil, false_implies, implies_true, and_true]; exact api_VersionedValue__24_26_ok) (by kernel_rfl)


end Go.Proofs.Ytoagphhldhpnmaa.F
end
section
set_option linter.unusedSimpArgs false
set_option linter.unusedVariables false
/- That they do: printed by a program of ours. -/
namespace Go.Proofs.Ytoagphhldhpnmaa.F
open Go Go.Proofs.Ytoagphhldhpnmaa.V
set_option maxRecDepth 100000
set_option linter.unusedVariables false

/- changeforge/multivalue.Merge$4 -/
def multivalue_Merge_4_28_h : List (Nat × SS × Nat) := []
theorem multivalue_Merge_4_28_ok : Fn.Ok Try.prog ⟨28, [(.p (.int .i64) (.p (.sl (.int .i64)) .e)), (.p (.int .i64) (.p (.sl (.int .i64)) .e))], [(.int .i64)], multivalue_Merge_4_28⟩ :=
  Fn.of (c := ⟨Try.prog, [(29, 1)], [], [], multivalue_Merge_4_28_h⟩) (fs := [⟨29, [(.sl (.int .i64)), (.sl (.int .i64))], [(.int .i64)], slices_Compare___int_int__29⟩]) (gs := []) (an := [(.int .i64), (.sl (.int .i64)), (.int .i64), (.sl (.int .i64))]) (by kernel_rfl) Try.func28 (by kernel_rfl) (by kernel_rfl) (by simp only [List.forall_mem_cons, List.not_mem_nil, false_implies, implies_true, and_true]; exact slices_Compare___int_int__29_ok) (fun _ h => by cases h) (by kernel_rfl)


/- changeforge/multivalue.Merge -/
def multivalue_Merge_11_h : List (Nat × SS × Nat) := [(253, ⟨us 5 ++ [.box 5 0, .unk, .unk, .row 46 35 2 (.l 17)] ++ us 85, [(5, .cs ([.d (.k (.int .i64 0)), .d (.k (.int .i64 0))])), (46, .row 17 2)], []⟩, 1), (8102, ⟨[.d (.v 0)] ++ us 4 ++ [.box 5 0, .unk, .unk, .row 46 35 2 (.l 20)] ++ us 39 ++ [.d (.v 1), .d (.v 16), .d (.v 21)] ++ us 43, [(5, .cs ([.d (.k (.int .i64 0)), .d (.k (.int .i64 0))])), (46, .row 20 2)], []⟩, 2), (259279, ⟨[.d (.v 0)] ++ us 4 ++ [.box 5 0, .unk, .unk, .row 46 35 2 (.l 36)] ++ us 39 ++ [.d (.v 1), .d (.v 16), .d (.v 37)] ++ us 43, [(5, .cs ([.d (.k (.int .i64 0)), .d (.k (.int .i64 0))])), (46, .row 36 2)], []⟩, 2), (259276, ⟨[.d (.v 0)] ++ us 4 ++ [.box 5 0, .unk, .unk, .row 46 35 2 (.l 27), .unk, .unk, .d (.v 28), .box 12 0] ++ us 35 ++ [.d (.v 1), .d (.v 16), .d (.v 28)] ++ us 18 ++ [.d (.v 29)] ++ us 24, [(5, .cs ([.d (.k (.int .i64 0)), .d (.k (.int .i64 0))])), (46, .row 27 2), (12, .cs ([.d (.v 30), .d (.v 31)]))], []⟩, 5), (506, ⟨[.d (.v 0)] ++ us 4 ++ [.box 5 0, .unk, .unk, .row 46 35 2 (.l 17)] ++ us 39 ++ [.d (.v 1), .d (.v 16), .d (.v 18)] ++ us 43, [(5, .cs ([.d (.k (.int .i64 0)), .d (.k (.int .i64 0))])), (46, .row 17 2)], []⟩, 2), (125, ⟨[.d (.v 0), .d (.v 1), .unk, .unk, .unk, .box 5 0, .unk, .unk, .row 46 35 2 (.l 15)] ++ us 85, [(5, .cs ([.d (.k (.int .i64 0)), .d (.k (.int .i64 0))])), (46, .row 15 2)], []⟩, 1), (4006, ⟨[.d (.v 0), .d (.v 1), .unk, .unk, .unk, .box 5 0, .unk, .unk, .row 46 35 2 (.l 18)] ++ us 19 ++ [.d (.v 0), .d (.v 14), .d (.v 19)] ++ us 63, [(5, .cs ([.d (.k (.int .i64 0)), .d (.k (.int .i64 0))])), (46, .row 18 2)], []⟩, 2), (32051, ⟨[.d (.v 0), .d (.v 1), .unk, .unk, .unk, .box 5 0, .unk, .unk, .row 46 35 2 (.l 26)] ++ us 19 ++ [.d (.v 0), .d (.v 14), .d (.v 27)] ++ us 63, [(5, .cs ([.d (.k (.int .i64 0)), .d (.k (.int .i64 0))])), (46, .row 26 2)], []⟩, 2), (250, ⟨[.d (.v 0), .d (.v 1), .unk, .unk, .unk, .box 5 0, .unk, .unk, .row 46 35 2 (.l 15)] ++ us 19 ++ [.d (.v 0), .d (.v 14), .d (.v 16)] ++ us 63, [(5, .cs ([.d (.k (.int .i64 0)), .d (.k (.int .i64 0))])), (46, .row 15 2)], []⟩, 2)]
theorem multivalue_Merge_11_ok : Fn.Ok Try.prog ⟨11, [(.sl (.p (.int .i64) (.p (.sl (.int .i64)) .e))), (.sl (.p (.int .i64) (.p (.sl (.int .i64)) .e)))], [(.sl (.p (.int .i64) (.p (.sl (.int .i64)) .e))), (.p (.int .i64) (.p (.int .i64) .e))], multivalue_Merge_11⟩ :=
  Fn.of (c := ⟨Try.prog, [(13, 1), (23, 1)], [api_VersionedValue__27_28_g, api_VersionedValue__24_25_g, api_VersionedValue__19_26_g, api_VersionedValue__19_20_g], [46, 84], multivalue_Merge_11_h⟩) (fs := [⟨13, [(.sl (.p (.int .i64) (.p (.sl (.int .i64)) .e)))], [(.p (.int .i64) (.p (.int .i64) .e))], multivalue_Validate_13⟩, ⟨23, [(.sl (.int .i64))], [(.sl (.int .i64))], slices_Clone___int_int__23⟩]) (gs := [⟨api_VersionedValue__27_28_g, [(.sl (.p (.int .i64) (.p (.sl (.int .i64)) .e)))], [(.sl (.p (.int .i64) (.p (.sl (.int .i64)) .e)))], api_VersionedValue__27_28⟩, ⟨api_VersionedValue__24_25_g, [(.sl (.p (.int .i64) (.p (.sl (.int .i64)) .e))), (.int .i64), (.sl (.int .i64))], [(.int .i64), (.int .i64), (.sl (.int .i64))], api_VersionedValue__24_25⟩, ⟨api_VersionedValue__19_26_g, [(.sl (.p (.int .i64) (.p (.sl (.int .i64)) .e))), (.int .i64), (.sl (.int .i64))], [.bool, (.int .i64), (.sl (.int .i64))], api_VersionedValue__19_26⟩, ⟨api_VersionedValue__19_20_g, [(.sl (.p (.int .i64) (.p (.sl (.int .i64)) .e))), (.int .i64), (.sl (.int .i64))], [.bool, (.int .i64), (.sl (.int .i64))], api_VersionedValue__19_20⟩]) (an := [(.int .i64), (.int .i64), (.p (.int .i64) (.p (.int .i64) .e)), (.p (.int .i64) (.p (.int .i64) .e)), .bool, (.p (.int .i64) (.p (.int .i64) .e)), (.int .i64), (.int .i64), (.p (.int .i64) (.p (.int .i64) .e)), (.p (.int .i64) (.p (.int .i64) .e)), .bool, (.int .i64), (.p (.int .i64) (.p (.int .i64) .e)), (.int .i64), (.sl (.p (.int .i64) (.p (.sl (.int .i64)) .e))), (.int .i64), (.sl (.p (.int .i64) (.p (.sl (.int .i64)) .e))), (.int .i64), .bool, (.p (.int .i64) (.p (.int .i64) .e)), (.p (.int .i64) (.p (.int .i64) .e)), (.sl (.p (.int .i64) (.p (.sl (.int .i64)) .e))), (.int .i64), .bool, (.sl (.p (.int .i64) (.p (.sl (.int .i64)) .e))), (.int .i64), (.int .i64), (.p (.int .i64) (.p (.sl (.int .i64)) .e)), (.p (.int .i64) (.p (.sl (.int .i64)) .e)), (.int .i64), (.sl (.int .i64)), (.sl (.p (.int .i64) (.p (.sl (.int .i64)) .e))), (.int .i64), .bool, (.int .i64), (.sl (.int .i64)), (.int .i64), (.p (.int .i64) (.p (.int .i64) .e)), .bool, (.sl (.p (.int .i64) (.p (.sl (.int .i64)) .e))), (.int .i64), (.int .i64), (.sl (.int .i64)), (.p (.int .i64) (.p (.sl (.int .i64)) .e)), (.sl (.p (.int .i64) (.p (.sl (.int .i64)) .e))), (.sl (.p (.int .i64) (.p (.sl (.int .i64)) .e))), .bool, (.p (.int .i64) (.p (.sl (.int .i64)) .e)), (.int .i64), .bool, (.sl (.p (.int .i64) (.p (.sl (.int .i64)) .e))), (.int .i64), .bool, (.sl (.p (.int .i64) (.p (.sl (.int .i64)) .e))), (.int .i64), (.int .i64), (.p (.int .i64) (.p (.sl (.int .i64)) .e)), (.p (.int .i64) (.p (.sl (.int .i64)) .e)), (.int .i64), (.sl (.int .i64)), .bool, (.sl (.p (.int .i64) (.p (.sl (.int .i64)) .e))), (.int .i64), (.int .i64), (.sl (.int .i64)), (.p (.int .i64) (.p (.sl (.int .i64)) .e)), (.sl (.p (.int .i64) (.p (.sl (.int .i64)) .e))), (.sl (.p (.int .i64) (.p (.sl (.int .i64)) .e)))]) (by kernel_rfl) Try.func11 (by kernel_rfl) (by kernel_rfl) (by simp only [List.forall_mem_cons, List.not_mem_nil, false_implies, implies_true, and_true]; exact ⟨multivalue_Validate_13_ok, slices_Clone___int_int__23_ok⟩) (by simp only [List.forall_mem_cons, List.not_mem_nil, false_implies, implies_true, and_true]; exact ⟨api_VersionedValue__27_28_ok, api_VersionedValue__24_25_ok, api_VersionedValue__19_26_ok, api_VersionedValue__19_20_ok⟩) (by kernel_rfl)


/- changeforge/changeforgeref2.MergedValues -/
def changeforgeref2_MergedValues_12_h : List (Nat × SS × Nat) := [(253, ⟨us 5 ++ [.box 5 0, .unk, .unk, .unk, .row 101 35 2 (.l 13)] ++ us 131, [(5, .cs ([.d (.k (.int .i64 0)), .d (.k (.int .i64 0))])), (101, .row 13 2)], [.t 34, .t 32, .t 30]⟩, 1), (518462, ⟨[.d (.v 0)] ++ us 4 ++ [.box 5 0, .unk, .unk, .grow 35 2 12, .row 101 35 2 (.l 26), .d (.v 27)] ++ us 4 ++ [.d (.v 28)] ++ us 125, [(5, .cs ([.d (.k (.int .i64 0)), .d (.k (.int .i64 0))])), (101, .row 26 2)], [.t 34, .t 32, .t 30]⟩, 3), (8295392, ⟨[.d (.v 0)] ++ us 4 ++ [.box 5 0, .unk, .unk, .grow 35 2 12, .row 101 35 2 (.l 29), .d (.v 30)] ++ us 4 ++ [.d (.v 31)] ++ us 101 ++ [.d (.v 32)] ++ us 23, [(5, .cs ([.d (.k (.int .i64 0)), .d (.k (.int .i64 0))])), (101, .row 29 2)], [.t 34, .t 32, .t 30]⟩, 4), (1036924, ⟨[.d (.v 0)] ++ us 4 ++ [.box 5 0, .unk, .unk, .grow 35 2 12, .row 101 35 2 (.l 26), .d (.v 27)] ++ us 4 ++ [.d (.v 28)] ++ us 125, [(5, .cs ([.d (.k (.int .i64 0)), .d (.k (.int .i64 0))])), (101, .row 26 2)], [.t 34, .t 32, .t 30]⟩, 3), (4050, ⟨[.d (.v 0)] ++ us 4 ++ [.box 5 0, .unk, .unk, .grow 35 2 12, .row 101 35 2 (.l 17), .d (.v 18)] ++ us 130, [(5, .cs ([.d (.k (.int .i64 0)), .d (.k (.int .i64 0))])), (101, .row 17 2)], [.t 34, .t 32, .t 30]⟩, 2), (64805, ⟨[.d (.v 0)] ++ us 4 ++ [.box 5 0, .unk, .unk, .grow 35 2 12, .row 101 35 2 (.l 17), .d (.v 18), .d (.v 19)] ++ us 129, [(5, .cs ([.d (.k (.int .i64 0)), .d (.k (.int .i64 0))])), (101, .row 17 2)], [.t 34, .t 32, .t 30]⟩, 3), (1036882, ⟨[.d (.v 0)] ++ us 4 ++ [.box 5 0, .unk, .unk, .grow 35 2 12, .row 101 35 2 (.l 23), .d (.v 24), .d (.v 25), .d (.v 26)] ++ us 128, [(5, .cs ([.d (.k (.int .i64 0)), .d (.k (.int .i64 0))])), (101, .row 23 2)], [.t 34, .t 32, .t 30]⟩, 4), (16590119, ⟨[.d (.v 0)] ++ us 4 ++ [.box 5 0, .unk, .unk, .grow 35 2 12, .row 101 35 2 (.l 45), .d (.v 46), .d (.v 47), .d (.v 48)] ++ us 128, [(5, .cs ([.d (.k (.int .i64 0)), .d (.k (.int .i64 0))])), (101, .row 45 2)], [.t 34, .t 32, .t 30]⟩, 4), (16590118, ⟨[.d (.v 0)] ++ us 4 ++ [.box 5 0, .unk, .unk, .grow 35 2 12, .row 101 35 2 (.l 40), .d (.v 41), .d (.v 42), .d (.v 43)] ++ us 77 ++ [.d (.v 44)] ++ us 50, [(5, .cs ([.d (.k (.int .i64 0)), .d (.k (.int .i64 0))])), (101, .row 40 2)], [.t 34, .t 32, .t 30]⟩, 5), (16590117, ⟨[.d (.v 0)] ++ us 4 ++ [.box 5 0, .unk, .unk, .grow 35 2 12, .row 101 35 2 (.l 34), .d (.v 35), .d (.v 36), .d (.v 37), .d (.v 38), .d (.v 39)] ++ us 126, [(5, .cs ([.d (.k (.int .i64 0)), .d (.k (.int .i64 0))])), (101, .row 34 2)], [.t 34, .t 32, .t 30]⟩, 6), (16590116, ⟨[.d (.v 0)] ++ us 4 ++ [.box 5 0, .unk, .unk, .grow 35 2 12, .row 101 35 2 (.l 29), .d (.v 30), .d (.v 31), .d (.v 32), .d (.v 27), .d (.v 28)] ++ us 54 ++ [.d (.v 33)] ++ us 71, [(5, .cs ([.d (.k (.int .i64 0)), .d (.k (.int .i64 0))])), (101, .row 29 2)], [.t 34, .t 32, .t 30]⟩, 5), (129610, ⟨[.d (.v 0)] ++ us 4 ++ [.box 5 0, .unk, .unk, .grow 35 2 12, .row 101 35 2 (.l 17), .d (.v 18), .d (.v 19), .d (.v 20)] ++ us 128, [(5, .cs ([.d (.k (.int .i64 0)), .d (.k (.int .i64 0))])), (101, .row 17 2)], [.t 34, .t 32, .t 30]⟩, 4), (506, ⟨[.d (.v 0)] ++ us 4 ++ [.box 5 0, .unk, .unk, .grow 35 2 12, .row 101 35 2 (.l 13), .d (.v 14)] ++ us 130, [(5, .cs ([.d (.k (.int .i64 0)), .d (.k (.int .i64 0))])), (101, .row 13 2)], [.t 34, .t 32, .t 30]⟩, 2)]
theorem changeforgeref2_MergedValues_12_ok : Fn.Ok Try.prog ⟨12, [(.sl (.p (.int .i64) (.p (.sl (.int .i64)) .e))), (.sl (.p (.int .i64) (.p (.sl (.int .i64)) .e)))], [(.sl (.p (.int .i64) (.p (.sl (.int .i64)) .e))), (.p (.int .i64) (.p (.int .i64) .e))], changeforgeref2_MergedValues_12⟩ :=
  Fn.of (c := ⟨Try.prog, [(14, 1), (18, 1), (30, 1), (17, 2)], [], [101], changeforgeref2_MergedValues_12_h⟩) (fs := [⟨14, [(.sl (.p (.int .i64) (.p (.sl (.int .i64)) .e)))], [(.p (.int .i64) (.p (.int .i64) .e))], changeforgeref2_ValuesFault_14⟩, ⟨18, [(.int .i64), (.int .i64)], [(.p (.int .i64) (.p (.int .i64) .e))], changeforgeref1_At_18⟩, ⟨30, [(.sl (.int .i64)), (.sl (.int .i64))], [.bool], changeforgeref2_less_30⟩, ⟨17, [(.sl (.int .i64)), (.sl (.int .i64))], [.bool, .bool], changeforgeref2_Relation_17⟩]) (gs := []) (an := [(.int .i64), (.int .i64), .bool, (.p (.int .i64) (.p (.int .i64) .e)), (.int .i64), (.int .i64), .bool, (.int .i64), (.int .i64), (.p (.int .i64) (.p (.int .i64) .e)), (.sl (.p (.int .i64) (.p (.sl (.int .i64)) .e))), (.sl (.p (.int .i64) (.p (.sl (.int .i64)) .e))), (.sl (.p (.int .i64) (.p (.sl (.int .i64)) .e))), (.sl (.p (.int .i64) (.p (.sl (.int .i64)) .e))), (.int .i64), .bool, (.int .i64), (.int .i64), (.p (.int .i64) (.p (.int .i64) .e)), (.p (.int .i64) (.p (.int .i64) .e)), (.sl (.p (.int .i64) (.p (.sl (.int .i64)) .e))), (.int .i64), (.int .i64), .bool, (.sl (.p (.int .i64) (.p (.sl (.int .i64)) .e))), (.int .i64), (.int .i64), (.sl (.p (.int .i64) (.p (.sl (.int .i64)) .e))), (.int .i64), .bool, .bool, (.int .i64), (.p (.int .i64) (.p (.sl (.int .i64)) .e)), (.p (.int .i64) (.p (.sl (.int .i64)) .e)), (.sl (.p (.int .i64) (.p (.sl (.int .i64)) .e))), (.sl (.p (.int .i64) (.p (.sl (.int .i64)) .e))), (.sl (.p (.int .i64) (.p (.sl (.int .i64)) .e))), (.int .i64), (.int .i64), (.p (.int .i64) (.p (.sl (.int .i64)) .e)), (.p (.int .i64) (.p (.sl (.int .i64)) .e)), (.int .i64), (.sl (.p (.int .i64) (.p (.sl (.int .i64)) .e))), (.sl (.p (.int .i64) (.p (.sl (.int .i64)) .e))), (.int .i64), (.int .i64), (.sl (.p (.int .i64) (.p (.sl (.int .i64)) .e))), (.int .i64), (.int .i64), .bool, (.int .i64), (.int .i64), (.p (.int .i64) (.p (.sl (.int .i64)) .e)), (.int .i64), (.sl (.p (.int .i64) (.p (.sl (.int .i64)) .e))), (.int .i64), .bool, (.p (.int .i64) (.p (.sl (.int .i64)) .e)), (.sl (.int .i64)), (.int .i64), (.int .i64), (.sl (.int .i64)), (.sl (.p (.int .i64) (.p (.sl (.int .i64)) .e))), (.int .i64), .bool, (.int .i64), (.int .i64), .bool, (.sl (.p (.int .i64) (.p (.sl (.int .i64)) .e))), (.int .i64), .bool, (.int .i64), (.int .i64), (.p (.int .i64) (.p (.sl (.int .i64)) .e)), (.sl (.int .i64)), (.p (.int .i64) (.p (.sl (.int .i64)) .e)), (.sl (.int .i64)), (.sl (.p (.int .i64) (.p (.sl (.int .i64)) .e))), (.int .i64), .bool, (.int .i64), .bool, (.sl (.p (.int .i64) (.p (.sl (.int .i64)) .e))), (.int .i64), .bool, (.int .i64), .bool, .bool, (.sl (.p (.int .i64) (.p (.sl (.int .i64)) .e))), (.int .i64), .bool, (.int .i64), .bool, (.sl (.p (.int .i64) (.p (.sl (.int .i64)) .e))), (.int .i64), .bool, (.int .i64), .bool, (.p (.int .i64) (.p (.sl (.int .i64)) .e)), (.int .i64), (.p (.int .i64) (.p (.sl (.int .i64)) .e)), (.int .i64), .bool, (.int .i64), (.int .i64), (.int .i64), (.int .i64), (.p (.int .i64) (.p (.int .i64) .e)), .bool]) (by kernel_rfl) Try.func12 (by kernel_rfl) (by kernel_rfl) (by simp only [List.forall_mem_cons, List.not_mem_nil, false_implies, implies_true, and_true]; exact ⟨changeforgeref2_ValuesFault_14_ok, changeforgeref1_At_18_ok, changeforgeref2_less_30_ok, changeforgeref2_Relation_17_ok⟩) (fun _ h => by cases h) (by kernel_rfl)


end Go.Proofs.Ytoagphhldhpnmaa.F
end
section
set_option linter.unusedSimpArgs false
set_option linter.unusedVariables false
/- That they do: printed by a program of ours. -/
namespace Go.Proofs.Ytoagphhldhpnmaa.F
open Go Go.Proofs.Ytoagphhldhpnmaa.V
set_option maxRecDepth 100000
set_option linter.unusedVariables false

/- changeforge/changeforgeequal.Ints -/
def changeforgeequal_Ints_32_h : List (Nat × SS × Nat) := [(29, ⟨us 26, [], []⟩, 0), (58, ⟨[.d (.v 0), .d (.v 1), .unk, .unk, .unk, .d (.v 5)] ++ us 20, [], []⟩, 1)]
theorem changeforgeequal_Ints_32_ok : Fn.Ok Try.prog ⟨32, [(.sl (.int .i64)), (.sl (.int .i64))], [.bool], changeforgeequal_Ints_32⟩ :=
  Fn.of (c := ⟨Try.prog, [], [], [], changeforgeequal_Ints_32_h⟩) (fs := []) (gs := []) (an := [(.int .i64), (.int .i64), .bool, (.int .i64), (.int .i64), .bool, (.int .i64), (.int .i64), (.int .i64), (.int .i64), .bool, (.int .i64)]) (by kernel_rfl) Try.func32 (by kernel_rfl) (by kernel_rfl) (fun _ h => by cases h) (fun _ h => by cases h) (by kernel_rfl)


/- changeforge/changeforgeequal.Values -/
def changeforgeequal_Values_15_h : List (Nat × SS × Nat) := [(29, ⟨us 42, [], []⟩, 0), (1864, ⟨[.d (.v 0), .d (.v 1), .unk, .unk, .unk, .d (.v 8)] ++ us 35 ++ [.d (.v 9)], [], []⟩, 2), (58, ⟨[.d (.v 0), .d (.v 1), .unk, .unk, .unk, .d (.v 5)] ++ us 36, [], []⟩, 1)]
theorem changeforgeequal_Values_15_ok : Fn.Ok Try.prog ⟨15, [(.sl (.p (.int .i64) (.p (.sl (.int .i64)) .e))), (.sl (.p (.int .i64) (.p (.sl (.int .i64)) .e)))], [.bool], changeforgeequal_Values_15⟩ :=
  Fn.of (c := ⟨Try.prog, [(32, 1)], [], [], changeforgeequal_Values_15_h⟩) (fs := [⟨32, [(.sl (.int .i64)), (.sl (.int .i64))], [.bool], changeforgeequal_Ints_32⟩]) (gs := []) (an := [(.int .i64), (.int .i64), .bool, (.int .i64), (.int .i64), .bool, (.int .i64), .bool, (.int .i64), (.p (.int .i64) (.p (.sl (.int .i64)) .e)), (.int .i64), (.p (.int .i64) (.p (.sl (.int .i64)) .e)), (.int .i64), .bool, (.p (.int .i64) (.p (.sl (.int .i64)) .e)), (.sl (.int .i64)), (.p (.int .i64) (.p (.sl (.int .i64)) .e)), (.sl (.int .i64)), .bool]) (by kernel_rfl) Try.func15 (by kernel_rfl) (by kernel_rfl) (by simp only [List.forall_mem_cons, List.not_mem_nil, false_implies, implies_true, and_true]; exact changeforgeequal_Ints_32_ok) (fun _ h => by cases h) (by kernel_rfl)


/- changeforge/changeforgelaw2.first -/
def changeforgelaw2_first_16_h : List (Nat × SS × Nat) := [(14, ⟨[.d (.v 4)] ++ us 16, [], []⟩, 1)]
theorem changeforgelaw2_first_16_ok : Fn.Ok Try.prog ⟨16, [], [.bool], changeforgelaw2_first_16⟩ :=
  Fn.of (c := ⟨Try.prog, [(9, 2), (15, 1)], [], [], changeforgelaw2_first_16_h⟩) (fs := [⟨9, [(.sl (.p (.int .i64) (.p (.sl (.int .i64)) .e))), (.int .i64), (.int .i64)], [(.sl (.p (.int .i64) (.p (.sl (.int .i64)) .e))), (.p (.int .i64) (.p (.int .i64) .e))], multivalue_Write_9⟩, ⟨15, [(.sl (.p (.int .i64) (.p (.sl (.int .i64)) .e))), (.sl (.p (.int .i64) (.p (.sl (.int .i64)) .e)))], [.bool], changeforgeequal_Values_15⟩]) (gs := []) (an := [(.int .i64), (.int .i64), .bool, .bool, (.sl (.int .i64)), (.sl (.int .i64)), (.p (.int .i64) (.p (.sl (.int .i64)) .e)), (.sl (.p (.int .i64) (.p (.sl (.int .i64)) .e)))]) (by kernel_rfl) Try.func16 (by kernel_rfl) (by kernel_rfl) (by simp only [List.forall_mem_cons, List.not_mem_nil, false_implies, implies_true, and_true]; exact ⟨multivalue_Write_9_ok, changeforgeequal_Values_15_ok⟩) (fun _ h => by cases h) (by kernel_rfl)


/- changeforge/changeforgelaw2.MultivalueMatchesSpec -/
def changeforgelaw2_MultivalueMatchesSpec_3_h : List (Nat × SS × Nat) := [(126, ⟨us 8 ++ [.d (.v 20)] ++ us 62, [], []⟩, 1)]
theorem changeforgelaw2_MultivalueMatchesSpec_3_ok : Fn.Ok Try.prog ⟨3, [(.sl (.p (.int .i64) (.p (.sl (.int .i64)) .e))), (.sl (.p (.int .i64) (.p (.sl (.int .i64)) .e))), (.int .i64), (.int .i64)], [.bool], changeforgelaw2_MultivalueMatchesSpec_3⟩ :=
  Fn.of (c := ⟨Try.prog, [(9, 2), (10, 2), (11, 2), (12, 2), (13, 1), (14, 1), (15, 1), (16, 1)], [], [], changeforgelaw2_MultivalueMatchesSpec_3_h⟩) (fs := [⟨9, [(.sl (.p (.int .i64) (.p (.sl (.int .i64)) .e))), (.int .i64), (.int .i64)], [(.sl (.p (.int .i64) (.p (.sl (.int .i64)) .e))), (.p (.int .i64) (.p (.int .i64) .e))], multivalue_Write_9⟩, ⟨10, [(.sl (.p (.int .i64) (.p (.sl (.int .i64)) .e))), (.int .i64), (.int .i64)], [(.sl (.p (.int .i64) (.p (.sl (.int .i64)) .e))), (.p (.int .i64) (.p (.int .i64) .e))], changeforgeref2_Written_10⟩, ⟨11, [(.sl (.p (.int .i64) (.p (.sl (.int .i64)) .e))), (.sl (.p (.int .i64) (.p (.sl (.int .i64)) .e)))], [(.sl (.p (.int .i64) (.p (.sl (.int .i64)) .e))), (.p (.int .i64) (.p (.int .i64) .e))], multivalue_Merge_11⟩, ⟨12, [(.sl (.p (.int .i64) (.p (.sl (.int .i64)) .e))), (.sl (.p (.int .i64) (.p (.sl (.int .i64)) .e)))], [(.sl (.p (.int .i64) (.p (.sl (.int .i64)) .e))), (.p (.int .i64) (.p (.int .i64) .e))], changeforgeref2_MergedValues_12⟩, ⟨13, [(.sl (.p (.int .i64) (.p (.sl (.int .i64)) .e)))], [(.p (.int .i64) (.p (.int .i64) .e))], multivalue_Validate_13⟩, ⟨14, [(.sl (.p (.int .i64) (.p (.sl (.int .i64)) .e)))], [(.p (.int .i64) (.p (.int .i64) .e))], changeforgeref2_ValuesFault_14⟩, ⟨15, [(.sl (.p (.int .i64) (.p (.sl (.int .i64)) .e))), (.sl (.p (.int .i64) (.p (.sl (.int .i64)) .e)))], [.bool], changeforgeequal_Values_15⟩, ⟨16, [], [.bool], changeforgelaw2_first_16⟩]) (gs := []) (an := [(.int .i64), (.int .i64), (.int .i64), (.int .i64), (.int .i64), (.int .i64), (.int .i64), (.int .i64), .bool, .bool, (.p (.int .i64) (.p (.int .i64) .e)), (.p (.int .i64) (.p (.int .i64) .e)), .bool, (.p (.int .i64) (.p (.int .i64) .e)), (.p (.int .i64) (.p (.int .i64) .e)), .bool]) (by kernel_rfl) Try.func3 (by kernel_rfl) (by kernel_rfl) (by simp only [List.forall_mem_cons, List.not_mem_nil, false_implies, implies_true, and_true]; exact ⟨multivalue_Write_9_ok, changeforgeref2_Written_10_ok, multivalue_Merge_11_ok, changeforgeref2_MergedValues_12_ok, multivalue_Validate_13_ok, changeforgeref2_ValuesFault_14_ok, changeforgeequal_Values_15_ok, changeforgelaw2_first_16_ok⟩) (fun _ h => by cases h) (by kernel_rfl)


/- changeforge/changeforgelaw2.MultivalueSemilattice -/
def changeforgelaw2_MultivalueSemilattice_4_h : List (Nat × SS × Nat) := [(4094, ⟨us 6 ++ [.d (.v 30)] ++ us 101, [], []⟩, 1), (4092, ⟨us 13 ++ [.d (.v 16), .unk, .unk, .unk, .d (.v 24)] ++ us 82 ++ [.d (.v 29)] ++ us 7, [], []⟩, 1), (2044, ⟨us 13 ++ [.d (.v 16), .box 14 0, .unk, .box 16 0, .d (.v 24), .box 18 0] ++ us 68 ++ [.d (.v 28)] ++ us 20, [(14, .cs ([.d (.v 18), .d (.v 19)])), (16, .cs ([.d (.v 22), .d (.v 23)])), (18, .cs ([.d (.v 26), .d (.v 27)]))], []⟩, 1), (244, ⟨us 6 ++ [.d (.v 12)] ++ us 101, [], []⟩, 1), (60, ⟨[.d (.v 0), .d (.v 1), .d (.v 2)] ++ us 4 ++ [.d (.v 3), .box 8 0, .d (.v 7), .box 10 0] ++ us 27 ++ [.d (.v 11)] ++ us 69, [(8, .cs ([.d (.v 5), .d (.v 6)])), (10, .cs ([.d (.v 9), .d (.v 10)]))], []⟩, 1)]
theorem changeforgelaw2_MultivalueSemilattice_4_ok : Fn.Ok Try.prog ⟨4, [(.sl (.p (.int .i64) (.p (.sl (.int .i64)) .e))), (.sl (.p (.int .i64) (.p (.sl (.int .i64)) .e))), (.sl (.p (.int .i64) (.p (.sl (.int .i64)) .e)))], [.bool], changeforgelaw2_MultivalueSemilattice_4⟩ :=
  Fn.of (c := ⟨Try.prog, [(11, 2), (16, 1), (15, 1)], [], [], changeforgelaw2_MultivalueSemilattice_4_h⟩) (fs := [⟨11, [(.sl (.p (.int .i64) (.p (.sl (.int .i64)) .e))), (.sl (.p (.int .i64) (.p (.sl (.int .i64)) .e)))], [(.sl (.p (.int .i64) (.p (.sl (.int .i64)) .e))), (.p (.int .i64) (.p (.int .i64) .e))], multivalue_Merge_11⟩, ⟨16, [], [.bool], changeforgelaw2_first_16⟩, ⟨15, [(.sl (.p (.int .i64) (.p (.sl (.int .i64)) .e))), (.sl (.p (.int .i64) (.p (.sl (.int .i64)) .e)))], [.bool], changeforgeequal_Values_15⟩]) (gs := []) (an := [(.int .i64), (.int .i64), (.int .i64), (.int .i64), .bool, .bool, .bool, .bool, .bool, (.int .i64), (.int .i64), (.int .i64), (.int .i64), (.int .i64), (.int .i64), (.int .i64), (.int .i64), .bool, .bool, .bool, .bool, .bool, .bool, .bool, .bool, .bool, .bool, .bool]) (by kernel_rfl) Try.func4 (by kernel_rfl) (by kernel_rfl) (by simp only [List.forall_mem_cons, List.not_mem_nil, false_implies, implies_true, and_true]; exact ⟨multivalue_Merge_11_ok, changeforgelaw2_first_16_ok, changeforgeequal_Values_15_ok⟩) (fun _ h => by cases h) (by kernel_rfl)


/- changeforge/changeforgelaw2.MultivalueWriteWins -/
def changeforgelaw2_MultivalueWriteWins_5_h : List (Nat × SS × Nat) := [(62, ⟨us 6 ++ [.d (.v 12)] ++ us 45, [], []⟩, 1)]
theorem changeforgelaw2_MultivalueWriteWins_5_ok : Fn.Ok Try.prog ⟨5, [(.sl (.p (.int .i64) (.p (.sl (.int .i64)) .e))), (.int .i64), (.int .i64)], [.bool], changeforgelaw2_MultivalueWriteWins_5⟩ :=
  Fn.of (c := ⟨Try.prog, [(9, 2), (16, 1), (11, 2), (15, 1)], [], [], changeforgelaw2_MultivalueWriteWins_5_h⟩) (fs := [⟨9, [(.sl (.p (.int .i64) (.p (.sl (.int .i64)) .e))), (.int .i64), (.int .i64)], [(.sl (.p (.int .i64) (.p (.sl (.int .i64)) .e))), (.p (.int .i64) (.p (.int .i64) .e))], multivalue_Write_9⟩, ⟨16, [], [.bool], changeforgelaw2_first_16⟩, ⟨11, [(.sl (.p (.int .i64) (.p (.sl (.int .i64)) .e))), (.sl (.p (.int .i64) (.p (.sl (.int .i64)) .e)))], [(.sl (.p (.int .i64) (.p (.sl (.int .i64)) .e))), (.p (.int .i64) (.p (.int .i64) .e))], multivalue_Merge_11⟩, ⟨15, [(.sl (.p (.int .i64) (.p (.sl (.int .i64)) .e))), (.sl (.p (.int .i64) (.p (.sl (.int .i64)) .e)))], [.bool], changeforgeequal_Values_15⟩]) (gs := []) (an := [(.int .i64), (.int .i64), .bool, (.int .i64), (.int .i64), .bool, .bool, (.int .i64), .bool, (.p (.int .i64) (.p (.sl (.int .i64)) .e)), (.int .i64), .bool]) (by kernel_rfl) Try.func5 (by kernel_rfl) (by kernel_rfl) (by simp only [List.forall_mem_cons, List.not_mem_nil, false_implies, implies_true, and_true]; exact ⟨multivalue_Write_9_ok, changeforgelaw2_first_16_ok, multivalue_Merge_11_ok, changeforgeequal_Values_15_ok⟩) (fun _ h => by cases h) (by kernel_rfl)


/- changeforge/changeforgelaw2.MultivalueConcurrent -/
def changeforgelaw2_MultivalueConcurrent_6_h : List (Nat × SS × Nat) := [(254, ⟨us 10 ++ [.d (.v 19)] ++ us 75, [], []⟩, 1), (1012, ⟨us 10 ++ [.d (.v 19)] ++ us 75, [], []⟩, 1), (60, ⟨[.unk, .d (.v 1), .d (.v 2), .d (.v 3), .d (.v 4)] ++ us 6 ++ [.d (.v 5), .unk, .d (.v 9)] ++ us 24 ++ [.d (.v 13)] ++ us 47, [], []⟩, 1)]
theorem changeforgelaw2_MultivalueConcurrent_6_ok : Fn.Ok Try.prog ⟨6, [(.sl (.p (.int .i64) (.p (.sl (.int .i64)) .e))), (.int .i64), (.int .i64), (.int .i64), (.int .i64)], [.bool], changeforgelaw2_MultivalueConcurrent_6⟩ :=
  Fn.of (c := ⟨Try.prog, [(9, 2), (16, 1), (11, 2), (15, 1), (13, 1)], [], [], changeforgelaw2_MultivalueConcurrent_6_h⟩) (fs := [⟨9, [(.sl (.p (.int .i64) (.p (.sl (.int .i64)) .e))), (.int .i64), (.int .i64)], [(.sl (.p (.int .i64) (.p (.sl (.int .i64)) .e))), (.p (.int .i64) (.p (.int .i64) .e))], multivalue_Write_9⟩, ⟨16, [], [.bool], changeforgelaw2_first_16⟩, ⟨11, [(.sl (.p (.int .i64) (.p (.sl (.int .i64)) .e))), (.sl (.p (.int .i64) (.p (.sl (.int .i64)) .e)))], [(.sl (.p (.int .i64) (.p (.sl (.int .i64)) .e))), (.p (.int .i64) (.p (.int .i64) .e))], multivalue_Merge_11⟩, ⟨15, [(.sl (.p (.int .i64) (.p (.sl (.int .i64)) .e))), (.sl (.p (.int .i64) (.p (.sl (.int .i64)) .e)))], [.bool], changeforgeequal_Values_15⟩, ⟨13, [(.sl (.p (.int .i64) (.p (.sl (.int .i64)) .e)))], [(.p (.int .i64) (.p (.int .i64) .e))], multivalue_Validate_13⟩]) (gs := []) (an := [(.int .i64), (.int .i64), (.int .i64), (.int .i64), .bool, (.int .i64), (.int .i64), .bool, .bool, .bool, .bool, .bool, .bool, .bool, .bool, (.int .i64), .bool, (.int .i64), .bool, .bool, .bool]) (by kernel_rfl) Try.func6 (by kernel_rfl) (by kernel_rfl) (by simp only [List.forall_mem_cons, List.not_mem_nil, false_implies, implies_true, and_true]; exact ⟨multivalue_Write_9_ok, changeforgelaw2_first_16_ok, multivalue_Merge_11_ok, changeforgeequal_Values_15_ok, multivalue_Validate_13_ok⟩) (fun _ h => by cases h) (by kernel_rfl)


end Go.Proofs.Ytoagphhldhpnmaa.F
end
section
set_option linter.unusedSimpArgs false
set_option linter.unusedVariables false
/- What the functions compute, said shortly: registers that are valid. -/
namespace Go.Proofs.Ytoagphhldhpnmaa.F
open Go Go.Proofs.Ytoagphhldhpnmaa.V

def vecOk (v : List Int) : Prop := v.length = 6 ∧ ∀ x ∈ v, 0 ≤ x ∧ x ≤ 1000000000
def okE (l : List Vv) (i : Nat) (v : Vv) : Prop := 0 ≤ v.1 ∧ v.1 ≤ 1000000000 ∧ vecOk v.2.1 ∧ (¬ ∀ x ∈ v.2.1, x = 0) ∧ (∀ u, 0 < i → l[i - 1]? = some u → cmpL u.2.1 v.2.1 < 0) ∧ ∀ u ∈ l.take i, ¬ Cov u.2.1 v.2.1 ∧ ¬ Cov v.2.1 u.2.1
theorem code_eq (l : List Vv) (i : Nat) (v : Vv) (hv : l[i]? = some v) (hi : i ≤ 1000000) (hl : ∀ u ∈ l.take i, u.2.1.length = 6) : ∃ c, multivalue_code_31 (l, (i : Int), ()) = some (c, ()) ∧ (c = 0 ↔ okE l i v) := by
  obtain ⟨x, vec, ⟨⟩⟩ := v
  have hlt : i < l.length := (List.getElem?_eq_some_iff.1 hv).1
  unfold multivalue_code_31
  simp only [atC_val hv]
  by_cases h1 : x < 0
  · simp only [h1, decide_true, if_true]
    exact ⟨3, rfl, by simp, fun h => by have := h.1; simp only at this; omega⟩
  · by_cases h2 : x > 1000000000
    · simp only [h1, h2, decide_true, decide_false, Bool.false_eq_true, if_false, if_true]
      exact ⟨3, rfl, by simp, fun h => by have := h.2.1; simp only at this; omega⟩
    · by_cases h3 : vec.length = 6
      · have h3' : ((vec.length : Int) != 6) = false := by simp; omega
        simp only [h1, h2, h3', decide_false, Bool.false_eq_true, if_false]
        -- behind the entries
        suffices key : ∃ r : Int × Unit, _ = some r ∧ (r.1 = 0 ↔ okE l i (x, vec, ())) from by
          obtain ⟨⟨c, ⟨⟩⟩, h, hq⟩ := key; exact ⟨c, h, hq⟩
        refine loop_inv (fun s => ∃ k : Nat, s.1 = (k : Int) ∧ k ≤ vec.length ∧ ∀ y ∈ vec.take k, 0 ≤ y ∧ y ≤ 1000000000) (fun s => vec.length - s.1.toNat) (fun r : Int × Unit => r.1 = 0 ↔ okE l i (x, vec, ())) ?_ (s := (0, ())) ⟨0, rfl, by omega, fun y hy => by simp at hy⟩
        rintro ⟨a1, ⟨⟩⟩ ⟨k, g1, hk, hall⟩
        simp only at g1
        subst g1
        by_cases hkl : k < vec.length
        · have g2 : ((k : Int) < (vec.length : Int)) := by omega
          have hg : vec[k]? = some vec[k] := List.getElem?_eq_getElem hkl
          have hmem := List.getElem_mem hkl
          have ht : vec.take (k + 1) = vec.take k ++ [vec[k]] := by rw [List.take_add_one, hg]; rfl
          generalize vec[k] = y at hg hmem ht
          simp only [g2, decide_true, if_true, atC_val hg]
          by_cases h4 : y < 0
          · right
            simp only [h4, decide_true, if_true]
            exact ⟨_, rfl, by simp, fun h => by have := (h.2.2.1.2 y hmem).1; omega⟩
          · by_cases h5 : y > 1000000000
            · right
              simp only [h4, h5, decide_true, decide_false, Bool.false_eq_true, if_false, if_true]
              exact ⟨_, rfl, by simp, fun h => by have := (h.2.2.1.2 y hmem).2; omega⟩
            · left
              refine ⟨((k + 1 : Nat), ()), ?_, ⟨k + 1, rfl, hkl, fun z hz => ?_⟩, by simp; omega⟩
              · simp only [h4, h5, decide_false, Bool.false_eq_true, if_false, wrap_i64 (n := (k : Int) + 1) (by omega) (by omega)]; rfl
              · rw [ht, List.mem_append, List.mem_singleton] at hz
                rcases hz with hz | rfl
                · exact hall z hz
                · omega
        · right
          have g2 : ¬ ((k : Int) < (vec.length : Int)) := by omega
          rw [List.take_of_length_le (by omega)] at hall
          obtain ⟨m, hm, hmz⟩ := Max_eq vec (fun e => by rw [e] at h3; simp at h3) (by omega) fun y hy => (hall y hy).1
          simp only [g2, decide_false, Bool.false_eq_true, if_false, hm, Option.bind_some]
          by_cases h4 : m = 0
          · simp only [h4, BEq.rfl, if_true]
            exact ⟨_, rfl, by simp, fun h => (h.2.2.2.1 (hmz.1 h4)).elim⟩
          · have h4' : (m == 0) = false := by simpa using h4
            simp only [h4', Bool.false_eq_true, if_false]
            have hnz : ¬ ∀ x ∈ vec, x = 0 := fun h => h4 (hmz.2 h)
            -- the row ahead
            have rest : (∀ u, 0 < i → l[i - 1]? = some u → cmpL u.2.1 vec < 0) → ∃ r : Int × Unit, (if 0 ≤ (0 : Int) ∧ (0 : Int) ≤ (i : Int) ∧ (i : Int) ≤ (l.length : Int) then
                loopC (fun (s1 : Int × Unit) => if decide (s1.1 < ((List.drop (Int.toNat (0 : Int)) (List.take (Int.toNat (i : Int)) l)).length : Int)) = true then
                  atC (List.drop (Int.toNat (0 : Int)) (List.take (Int.toNat (i : Int)) l)) s1.1 fun y15 =>
                    Option.bind (multivalue_covers_21 (y15.2.1, vec, ())) fun r19 => if r19.1 = true then (if true = true then some (Sum.inr ((19 : Int), ())) else some (.inl (IntKind.wrap .i64 (s1.1 + 1), ()))) else Option.bind (multivalue_covers_21 (vec, y15.2.1, ())) fun r20 => if r20.1 = true then some (.inr (19, ())) else some (.inl (IntKind.wrap .i64 (s1.1 + 1), ()))
                  else Option.map .inr (some ((0 : Int), ()))) (0, ())
                else none) = some r ∧ (r.1 = 0 ↔ okE l i (x, vec, ())) := by
              intro hprev
              rw [if_pos (by omega)]
              simp only [Int.toNat_natCast, Int.toNat_zero, List.drop_zero]
              have hti : (l.take i).length = i := by rw [List.length_take]; omega
              refine loop_inv (fun s => ∃ k : Nat, s.1 = (k : Int) ∧ k ≤ i ∧ ∀ u ∈ l.take k, ¬ Cov u.2.1 vec ∧ ¬ Cov vec u.2.1) (fun s => i - s.1.toNat) (fun r : Int × Unit => r.1 = 0 ↔ okE l i (x, vec, ())) ?_ (s := (0, ())) ⟨0, rfl, by omega, fun y hy => by simp at hy⟩
              rintro ⟨a1, ⟨⟩⟩ ⟨k, g1, hk, hcov⟩
              simp only at g1
              subst g1
              by_cases hkl : k < i
              · have g2 : ((k : Int) < (((l.take i).length : Nat) : Int)) := by omega
                have hg : (l.take i)[k]? = some l[k] := by rw [List.getElem?_take, if_pos hkl, List.getElem?_eq_getElem]
                have hmem : l[k] ∈ l.take i := List.mem_of_getElem? hg
                have ht : l.take (k + 1) = l.take k ++ [l[k]] := by rw [List.take_add_one, List.getElem?_eq_getElem (by omega)]; rfl
                generalize l[k] = u at hg hmem ht
                have hul := hl u hmem
                simp only [g2, decide_true, if_true, atC_val hg, covers_eq u.2.1 vec (by omega) (by omega), covers_eq vec u.2.1 (by omega) (by omega), Option.bind_some, decide_eq_true_eq]
                by_cases c1 : Cov u.2.1 vec
                · right
                  rw [if_pos c1]
                  exact ⟨_, rfl, by simp, fun h => ((h.2.2.2.2.2 u hmem).1 c1).elim⟩
                · rw [if_neg c1]
                  by_cases c2 : Cov vec u.2.1
                  · right
                    rw [if_pos c2]
                    exact ⟨_, rfl, by simp, fun h => ((h.2.2.2.2.2 u hmem).2 c2).elim⟩
                  · left
                    rw [if_neg c2]
                    refine ⟨((k + 1 : Nat), ()), ?_, ⟨k + 1, rfl, hkl, fun z hz => ?_⟩, by simp; omega⟩
                    · rw [wrap_i64 (n := (k : Int) + 1) (by omega) (by omega)]; rfl
                    · rw [ht, List.mem_append, List.mem_singleton] at hz
                      rcases hz with hz | rfl
                      · exact hcov z hz
                      · exact ⟨c1, c2⟩
              · right
                have g2 : ¬ ((k : Int) < (((l.take i).length : Nat) : Int)) := by omega
                simp only [g2, decide_false, Bool.false_eq_true, if_false]
                refine ⟨_, rfl, fun _ => ⟨by simp only; omega, by simp only; omega, ⟨h3, hall⟩, hnz, hprev, ?_⟩, fun _ => rfl⟩
                rw [show k = i from by omega] at hcov
                exact hcov
            by_cases h5 : (i : Int) > 0
            · have hw : IntKind.wrap .i64 ((i : Int) - 1) = ((i - 1 : Nat) : Int) := by rw [wrap_i64 (by omega) (by omega)]; omega
              obtain ⟨u, hu⟩ : ∃ u, l[i - 1]? = some u := ⟨_, List.getElem?_eq_getElem (by omega)⟩
              have hmem : u ∈ l.take i := List.mem_of_getElem? (i := i - 1) (by rw [List.getElem?_take, if_pos (by omega)]; exact hu)
              simp only [h5, decide_true, if_true, hw, atC_val hu, Compare_eq u.2.1 vec (by have := hl u hmem; omega), Option.bind_some]
              by_cases h6 : cmpL u.2.1 vec ≥ 0
              · simp only [h6, decide_true, if_true]
                exact ⟨_, rfl, by simp, fun h => by have := h.2.2.2.2.1 u (by omega) hu; simp only at this; omega⟩
              · obtain ⟨r, hr, hq⟩ := rest fun u' _ hu' => by rw [hu] at hu'; injection hu' with hu'; subst hu'; omega
                simp only [h6, decide_false, Bool.false_eq_true, if_false]
                refine ⟨r, ?_, hq⟩
                have e := congrArg (Option.map (Sum.inr (α := Int × Unit))) hr
                exact e
            · obtain ⟨r, hr, hq⟩ := rest fun u' h' _ => by omega
              simp only [h5, decide_false, Bool.false_eq_true, if_false]
              refine ⟨r, ?_, hq⟩
              have e := congrArg (Option.map (Sum.inr (α := Int × Unit))) hr
              exact e
      · have h3' : ((vec.length : Int) != 6) = true := by simp; omega
        simp only [h1, h2, h3', decide_false, Bool.false_eq_true, if_false, if_true]
        exact ⟨9, rfl, by simp, fun h => (h3 h.2.2.1.1).elim⟩
def okR (l : List Vv) : Prop := l.length ≤ 16 ∧ ∀ i v, l[i]? = some v → okE l i v
theorem Validate_eq (l : List Vv) : ∃ f, multivalue_Validate_13 (l, ()) = some (f, ()) ∧ ((f = (0, 0, ()) ∧ okR l) ∨ (¬ f.1 = 0 ∧ ¬ okR l)) := by
  unfold multivalue_Validate_13
  by_cases hl : (l.length : Int) > 16
  · simp only [hl, decide_true, if_true]
    exact ⟨_, rfl, .inr ⟨by simp, fun h => by have := h.1; omega⟩⟩
  · simp only [hl, decide_false, Bool.false_eq_true, if_false]
    suffices key : ∃ r : Fault × Unit, _ = some r ∧ ((r.1 = (0, 0, ()) ∧ okR l) ∨ (¬ r.1.1 = 0 ∧ ¬ okR l)) from by
      obtain ⟨⟨c, ⟨⟩⟩, h, hq⟩ := key; exact ⟨c, h, hq⟩
    refine loop_inv (fun s => ∃ k : Nat, s.1 = (k : Int) ∧ k ≤ l.length ∧ ∀ j v, j < k → l[j]? = some v → okE l j v) (fun s => l.length - s.1.toNat) _ ?_ (s := (0, ())) ⟨0, rfl, by omega, fun j v hj => by omega⟩
    rintro ⟨a1, ⟨⟩⟩ ⟨k, g1, hk, hall⟩
    simp only at g1
    subst g1
    by_cases hkl : k < l.length
    · have g2 : ((k : Int) < (l.length : Int)) := by omega
      have hg : l[k]? = some l[k] := List.getElem?_eq_getElem hkl
      generalize l[k] = v at hg
      obtain ⟨c, hc, hq⟩ := code_eq l k v hg (by omega) fun u hu => by
        obtain ⟨j, hj⟩ := List.mem_iff_getElem?.1 hu
        rw [List.getElem?_take] at hj
        split at hj
        · rename_i hjk; exact (hall j u hjk hj).2.2.1.1
        · cases hj
      simp only [g2, decide_true, if_true, hc, Option.bind_some]
      by_cases hz : c = 0
      · left
        have hz' : (c != 0) = false := by simpa using hz
        simp only [hz', Bool.false_eq_true, if_false]
        refine ⟨((k + 1 : Nat), ()), by rw [wrap_i64 (n := (k : Int) + 1) (by omega) (by omega)]; rfl, ⟨k + 1, rfl, hkl, fun j w hj hw => ?_⟩, by simp; omega⟩
        by_cases e : j = k
        · subst e; rw [hg] at hw; injection hw with hw; subst hw; exact hq.1 hz
        · exact hall j w (by omega) hw
      · right
        have hz' : (c != 0) = true := by simpa using hz
        simp only [hz', if_true]
        exact ⟨_, rfl, .inr ⟨hz, fun h => hz (hq.2 (h.2 k v hg))⟩⟩
    · right
      have g2 : ¬ ((k : Int) < (l.length : Int)) := by omega
      simp only [g2, decide_false, Bool.false_eq_true, if_false]
      refine ⟨_, rfl, .inl ⟨rfl, by omega, fun j v hj => hall j v ?_ hj⟩⟩
      have := (List.getElem?_eq_some_iff.1 hj).1
      omega
end Go.Proofs.Ytoagphhldhpnmaa.F
end
section
set_option linter.unusedSimpArgs false
set_option linter.unusedVariables false
/- What the functions compute, said shortly: writing. -/
namespace Go.Proofs.Ytoagphhldhpnmaa.F
open Go Go.Proofs.Ytoagphhldhpnmaa.V

def mx2 (a b : Int) : Int := if b > a then b else a
def mx (w v : List Int) : List Int := (List.range 6).map fun j => mx2 (w.getD j 0) (v.getD j 0)
def wF (l : List Vv) : List Int := l.foldl (fun w u => mx w u.2.1) [0, 0, 0, 0, 0, 0]
theorem mx_len (w v : List Int) : (mx w v).length = 6 := by simp [mx]
theorem mx_get (w v : List Int) {j : Nat} (hj : j < 6) : (mx w v).getD j 0 = mx2 (w.getD j 0) (v.getD j 0) := by
  rw [List.getD_eq_getElem?_getD]; simp [mx, hj]
theorem ext6 {a b : List Int} (ha : a.length = 6) (hb : b.length = 6) (h : ∀ j, j < 6 → a.getD j 0 = b.getD j 0) : a = b := by
  apply List.ext_getElem (by omega)
  intro j h1 h2
  have := h j (by omega)
  rw [List.getD_eq_getElem?_getD, List.getD_eq_getElem?_getD, List.getElem?_eq_getElem h1, List.getElem?_eq_getElem h2] at this
  exact this
theorem wF_snoc (l : List Vv) (u : Vv) : wF (l ++ [u]) = mx (wF l) u.2.1 := by simp [wF]
theorem getD_mem {l : List Int} {j : Nat} (h : j < l.length) : l.getD j 0 ∈ l := by
  rw [List.getD_eq_getElem?_getD, List.getElem?_eq_getElem h]; exact List.getElem_mem h
theorem mem_getD {l : List Int} {x : Int} (h : x ∈ l) : ∃ j, j < l.length ∧ l.getD j 0 = x := by
  obtain ⟨j, hj, e⟩ := List.mem_iff_getElem.1 h
  exact ⟨j, hj, by rw [List.getD_eq_getElem?_getD, List.getElem?_eq_getElem hj]; exact e⟩
theorem wF_ok (l : List Vv) (h : ∀ u ∈ l, vecOk u.2.1) : vecOk (wF l) ∧ ∀ u ∈ l, Cov (wF l) u.2.1 := by
  have key : ∀ (l : List Vv) (w : List Int), vecOk w → (∀ u ∈ l, vecOk u.2.1) → vecOk (l.foldl (fun w u => mx w u.2.1) w) ∧ Cov (l.foldl (fun w u => mx w u.2.1) w) w ∧ ∀ u ∈ l, Cov (l.foldl (fun w u => mx w u.2.1) w) u.2.1 := by
    intro l
    induction l with
    | nil => intro w hw _; exact ⟨hw, fun j hj => Int.le_refl _, fun u hu => by cases hu⟩
    | cons u l ih =>
      intro w hw hl
      have hu := hl u (by simp)
      have hm : vecOk (mx w u.2.1) := by
        refine ⟨mx_len _ _, fun x hx => ?_⟩
        obtain ⟨j, hj, rfl⟩ := mem_getD hx
        rw [mx_len] at hj
        rw [mx_get _ _ hj]
        have a := hw.2 _ (getD_mem (l := w) (j := j) (by rw [hw.1]; exact hj))
        have b := hu.2 _ (getD_mem (l := u.2.1) (j := j) (by rw [hu.1]; exact hj))
        unfold mx2; split <;> omega
      obtain ⟨h1, h2, h3⟩ := ih (mx w u.2.1) hm fun x hx => hl x (by simp [hx])
      simp only [List.foldl_cons]
      have hc : ∀ v, (v = w ∨ v = u.2.1) → Cov (l.foldl (fun w u => mx w u.2.1) (mx w u.2.1)) v := by
        intro v hv j hj
        rw [h1.1] at hj
        have := h2 j (by rw [h1.1]; exact hj)
        rw [mx_get _ _ hj] at this
        unfold mx2 at this
        rcases hv with rfl | rfl <;> (split at this <;> omega)
      refine ⟨h1, hc w (.inl rfl), fun x hx => ?_⟩
      rcases List.mem_cons.1 hx with rfl | hx
      · exact hc _ (.inr rfl)
      · exact h3 x hx
  obtain ⟨h1, _, h3⟩ := key l [0, 0, 0, 0, 0, 0] ⟨rfl, fun x hx => by simp at hx; subst hx; decide⟩ h
  exact ⟨h1, h3⟩
theorem okR_vec {l : List Vv} (h : okR l) : ∀ u ∈ l, vecOk u.2.1 := fun u hu => by
  obtain ⟨j, hj⟩ := List.mem_iff_getElem?.1 hu
  exact (h.2 j u hj).2.2.1
theorem fz (f : Fault) (h : ¬ f.1 = 0) : (f.1 == 0 && (f.2.1 == 0 && true)) = false := by
  have : (f.1 == 0) = false := by simpa using h
  rw [this]; rfl
def WOk (l : List Vv) (r v : Int) (y : List Vv) : Prop := okR l ∧ ∃ k : Nat, r = (k : Int) ∧ k < 6 ∧ 0 ≤ v ∧ v ≤ 1000000000 ∧ (wF l).getD k 0 ≠ 1000000000 ∧ y = [(v, (wF l).set k ((wF l).getD k 0 + 1), ())]
theorem Write_eq (l : List Vv) (r v : Int) : ∃ y f, multivalue_Write_9 (l, r, v, ()) = some (y, f, ()) ∧ (¬ f.1 = 0 ∨ (f = (0, 0, ()) ∧ WOk l r v y)) := by
  obtain ⟨f, hf, hcase⟩ := Validate_eq l
  unfold multivalue_Write_9
  simp only [hf, Option.bind_some]
  rcases hcase with ⟨rfl, hok⟩ | ⟨hne, _⟩
  · simp only [BEq.rfl, Bool.and_self, Bool.not_true, Bool.false_eq_true, if_false]
    by_cases h1 : r < 0
    · simp only [h1, decide_true, if_true]
      exact ⟨_, _, rfl, .inl (by simp)⟩
    · by_cases h2 : r ≥ 6
      · simp only [h1, h2, decide_true, decide_false, Bool.false_eq_true, if_false, if_true]
        exact ⟨_, _, rfl, .inl (by simp)⟩
      · by_cases h3 : v < 0
        · simp only [h1, h2, h3, decide_true, decide_false, Bool.false_eq_true, if_false, if_true]
          exact ⟨_, _, rfl, .inl (by simp)⟩
        · by_cases h4 : v > 1000000000
          · simp only [h1, h2, h3, h4, decide_true, decide_false, Bool.false_eq_true, if_false, if_true]
            exact ⟨_, _, rfl, .inl (by simp)⟩
          · simp only [h1, h2, h3, h4, decide_false, Bool.false_eq_true, if_false]
            rw [if_pos (by omega)]
            have hrep : List.replicate (Int.toNat 6) (0 : Int) = wF [] := rfl
            rw [hrep]
            obtain ⟨k, rfl⟩ := Int.eq_ofNat_of_zero_le (show 0 ≤ r from by omega)
            have hall := okR_vec hok
            obtain ⟨hwok, _⟩ := wF_ok l hall
            suffices key : ∃ r : List Vv × Fault × Unit, _ = some r ∧ (¬ r.2.1.1 = 0 ∨ (r.2.1 = (0, 0, ()) ∧ WOk l k v r.1)) from by
              obtain ⟨⟨y, f, ⟨⟩⟩, h, hq⟩ := key; exact ⟨y, f, h, hq⟩
            refine loop_inv (fun s => ∃ i : Nat, s.2.1 = (i : Int) ∧ i ≤ l.length ∧ s.1 = wF (l.take i)) (fun s => l.length - s.2.1.toNat) _ ?_ (s := (wF [], 0, ())) ⟨0, rfl, by omega, rfl⟩
            rintro ⟨w, a2, ⟨⟩⟩ ⟨i, g1, hi, g2⟩
            simp only at g1 g2
            subst g1 g2
            have hl16 := hok.1
            by_cases hlt : i < l.length
            · left
              have q2 : ((i : Int) < (l.length : Int)) := by omega
              have hg : l[i]? = some l[i] := List.getElem?_eq_getElem hlt
              have hu := hall _ (List.getElem_mem hlt)
              have ht : l.take (i + 1) = l.take i ++ [l[i]] := by rw [List.take_add_one, hg]; rfl
              generalize l[i] = u at hg hu ht
              obtain ⟨ux, uv, ⟨⟩⟩ := u
              simp only at hu
              have hwi := (wF_ok (l.take i) fun x hx => hall x (List.mem_of_mem_take hx)).1
              refine ⟨(wF (l.take (i + 1)), ((i + 1 : Nat) : Int), ()), ?_, ⟨i + 1, rfl, hlt, rfl⟩, by simp; omega⟩
              simp only [q2, decide_true, if_true, atC_val hg]
              rw [ht, wF_snoc]
              generalize wF (l.take i) = w0 at hwi
              have hres : ∀ w', w'.length = 6 → (∀ j, j < 6 → w'.getD j 0 = mx2 (w0.getD j 0) (uv.getD j 0)) → w' = mx w0 uv := fun w' h h' => ext6 h (mx_len _ _) fun j hj => by rw [h' j hj, mx_get _ _ hj]
              refine (loop_val (fun s => s.2.1 = (i : Int) ∧ s.2.2.1 = uv ∧ s.2.2.2.1 = (uv.length : Int) ∧ ∃ j : Nat, s.2.2.2.2.1 = (j : Int) ∧ j ≤ 6 ∧ s.1.length = 6 ∧ (∀ m, m < j → s.1.getD m 0 = mx2 (w0.getD m 0) (uv.getD m 0)) ∧ ∀ m, j ≤ m → s.1.getD m 0 = w0.getD m 0) (fun s => 6 - s.2.2.2.2.1.toNat) (fun s => Sum.inl (mx w0 uv, ((i + 1 : Nat) : Int), ())) ?_ (s := (w0, (i : Int), uv, (uv.length : Int), 0, ())) ⟨rfl, rfl, rfl, 0, rfl, by omega, hwi.1, fun m hm => by omega, fun m _ => rfl⟩)
              rintro ⟨c1, c2, c3, c4, c5, ⟨⟩⟩ ⟨e1, e2, e3, j, e4, hj, e5, e6, e7⟩
              simp only at e1 e2 e3 e4 e5 e6 e7
              subst e1 e2 e3 e4
              by_cases hjl : j < 6
              · left
                have q3 : ((j : Int) < (c3.length : Int)) := by rw [hu.1]; omega
                have hg1 : c3[j]? = some (c3.getD j 0) := by rw [List.getD_eq_getElem?_getD, List.getElem?_eq_getElem (by rw [hu.1]; omega)]; rfl
                have hg2 : c1[j]? = some (c1.getD j 0) := by rw [List.getD_eq_getElem?_getD, List.getElem?_eq_getElem (by omega)]; rfl
                have q4 : 0 ≤ (j : Int) ∧ (j : Int) < (c1.length : Int) := by omega
                refine ⟨(c1.set j (mx2 (c1.getD j 0) (c3.getD j 0)), (i : Int), c3, (c3.length : Int), ((j + 1 : Nat) : Int), ()), ?_, ⟨rfl, rfl, rfl, j + 1, rfl, hjl, by simp [e5], fun m hm => ?_, fun m hm => ?_⟩, rfl, by simp; omega⟩
                · simp only [q3, decide_true, if_true, atC_val hg1, q4, and_self, atC_val hg2, Int.toNat_natCast, wrap_i64 (n := (j : Int) + 1) (by omega) (by omega)]
                  rfl
                · rw [List.getD_eq_getElem?_getD]
                  by_cases em : m = j
                  · subst em; rw [List.getElem?_set_self (by omega), e7 m (by omega)]; rfl
                  · rw [List.getElem?_set_ne (fun e => em e.symm), ← List.getD_eq_getElem?_getD]; exact e6 m (by omega)
                · rw [List.getD_eq_getElem?_getD, List.getElem?_set_ne (by omega), ← List.getD_eq_getElem?_getD]; exact e7 m (by omega)
              · right
                have q3 : ¬ ((j : Int) < (c3.length : Int)) := by rw [hu.1]; omega
                rw [hres c1 e5 fun m hm => e6 m (by omega)]
                simp only [q3, decide_false, Bool.false_eq_true, if_false, wrap_i64 (n := (i : Int) + 1) (by omega) (by omega)]
                rfl
            · right
              have q2 : ¬ ((i : Int) < (l.length : Int)) := by omega
              rw [List.take_of_length_le (by omega)]
              have hk6 : k < (wF l).length := by rw [hwok.1]; omega
              have q4 : 0 ≤ (k : Int) ∧ (k : Int) < ((wF l).length : Int) := by omega
              have hg2 : (wF l)[k]? = some ((wF l).getD k 0) := by rw [List.getD_eq_getElem?_getD, List.getElem?_eq_getElem hk6]; rfl
              have hb := hwok.2 _ (getD_mem hk6)
              simp only [q2, decide_false, Bool.false_eq_true, if_false, q4, and_self, if_true, atC_val hg2, Int.toNat_natCast]
              by_cases h5 : (wF l).getD k 0 = 1000000000
              · have h5' : ((wF l).getD k 0 == 1000000000) = true := by simpa using h5
                simp only [h5', if_true]
                exact ⟨_, rfl, .inl (by simp)⟩
              · have h5' : ((wF l).getD k 0 == 1000000000) = false := by simpa using h5
                simp only [h5', Bool.false_eq_true, if_false, wrap_i64 (n := (wF l).getD k 0 + 1) (by omega) (by omega)]
                exact ⟨_, rfl, .inr ⟨rfl, hok, k, rfl, by omega, by omega, by omega, h5, rfl⟩⟩
  · have := fz f hne
    obtain ⟨c, j, ⟨⟩⟩ := f
    simp only at this
    simp only [this, Bool.not_false, if_true]
    exact ⟨_, _, rfl, .inl hne⟩
end Go.Proofs.Ytoagphhldhpnmaa.F
end
section
set_option linter.unusedSimpArgs false
set_option linter.unusedVariables false
/- What the functions compute, said shortly: merging. -/
namespace Go.Proofs.Ytoagphhldhpnmaa.F
open Go Go.Proofs.Ytoagphhldhpnmaa.V

def idxF (p : Vv → Bool) (xs : List Vv) : Int := match xs.findIdx? p with | some i => (i : Int) | none => -1
theorem idx_ge (p : Vv → Bool) (xs : List Vv) : decide (idxF p xs ≥ 0) = xs.any p := by
  unfold idxF
  cases h : xs.findIdx? p with
  | none =>
    rw [List.findIdx?_eq_none_iff] at h
    have : xs.any p = false := by rw [List.any_eq_false]; intro x hx; simp [h x hx]
    rw [this]; rfl
  | some i =>
    have h' := List.findIdx?_eq_some_iff_getElem.1 h
    obtain ⟨hi, hp, _⟩ := h'
    have : xs.any p = true := List.any_eq_true.2 ⟨_, List.getElem_mem hi, hp⟩
    rw [this]; simp
theorem idx_loop (p : Vv → Bool) (f : Vv × Int × List Int × Unit → Option (Bool × Int × List Int × Unit)) (xs : List Vv) (val : Int) (vec : List Int) (hl : xs.length ≤ 1000000) (hf : ∀ u ∈ xs, f (u, val, vec, ()) = some (p u, val, vec, ())) :
    loopC (fun (s1 : Int × Int × List Int × Unit) => if decide (s1.1 < (xs.length : Int)) = true then
      atC xs s1.1 fun y8 => Option.bind (f ((y8.1, y8.2.1, ()), s1.2.1, s1.2.2.1, ())) fun r10 => if r10.1 = true then some (.inr (s1.1, r10.2.1, r10.2.2.1, ())) else some (.inl (IntKind.wrap .i64 (s1.1 + 1), r10.2.1, r10.2.2.1, ()))
      else Option.map .inr (some ((-1 : Int), s1.2.1, s1.2.2.1, ()))) (0, val, vec, ()) = some (idxF p xs, val, vec, ()) := by
  refine (loop_val (fun s => ∃ i : Nat, s.1 = (i : Int) ∧ i ≤ xs.length ∧ s.2.1 = val ∧ s.2.2.1 = vec ∧ ∀ u ∈ xs.take i, p u = false) (fun s => xs.length - s.1.toNat) (fun s => (idxF p xs, val, vec, ())) ?_ (s := (0, val, vec, ())) ⟨0, rfl, by omega, rfl, rfl, fun u hu => by simp at hu⟩)
  rintro ⟨a1, v1, w1, ⟨⟩⟩ ⟨i, h1, hi, h2, h3, hp⟩
  simp only at h1 h2 h3
  subst h1 h2 h3
  by_cases hlt : i < xs.length
  · have q2 : ((i : Int) < (xs.length : Int)) := by omega
    have hg : xs[i]? = some xs[i] := List.getElem?_eq_getElem hlt
    have hu := hf _ (List.getElem_mem hlt)
    have ht : xs.take (i + 1) = xs.take i ++ [xs[i]] := by rw [List.take_add_one, hg]; rfl
    generalize hx : xs[i] = u at hg hu ht
    obtain ⟨ux, uv, ⟨⟩⟩ := u
    simp only [q2, decide_true, if_true, atC_val hg, hu, Option.bind_some]
    cases hpu : p (ux, uv, ()) with
    | true =>
      right
      have : idxF p xs = (i : Int) := by
        unfold idxF
        have : xs.findIdx? p = some i := List.findIdx?_eq_some_iff_getElem.2 ⟨hlt, by rw [hx]; exact hpu, fun j hj => by
          have := hp xs[j] (List.mem_of_getElem? (i := j) (by rw [List.getElem?_take, if_pos hj]; exact List.getElem?_eq_getElem (by omega)))
          simp [this]⟩
        rw [this]
      simp only [if_true, this]
    | false =>
      left
      refine ⟨(((i + 1 : Nat) : Int), v1, w1, ()), ?_, ⟨i + 1, rfl, hlt, rfl, rfl, fun x hx => ?_⟩, trivial, by simp; omega⟩
      · simp only [Bool.false_eq_true, if_false, wrap_i64 (n := (i : Int) + 1) (by omega) (by omega)]; rfl
      · rw [ht, List.mem_append, List.mem_singleton] at hx
        rcases hx with hx | rfl
        · exact hp x hx
        · exact hpu
  · right
    have q2 : ¬ ((i : Int) < (xs.length : Int)) := by omega
    rw [List.take_of_length_le (by omega)] at hp
    have : idxF p xs = -1 := by
      unfold idxF
      have : xs.findIdx? p = none := by rw [List.findIdx?_eq_none_iff]; exact hp
      rw [this]
    simp only [q2, decide_false, Bool.false_eq_true, if_false, this]; rfl
def p20 (vec : List Int) (u : Vv) : Bool := decide (Cov u.2.1 vec) && !decide (u.2.1 = vec)
def p25 (vec : List Int) (u : Vv) : Bool := decide (u.2.1 = vec)
def p26 (vec : List Int) (u : Vv) : Bool := decide (Cov u.2.1 vec)
theorem f20_eq (u : Vv) (val : Int) (vec : List Int) (hu : u.2.1.length = 6) (hv : vec.length = 6) : multivalue_Merge_1_20 (u, val, vec, ()) = some (p20 vec u, val, vec, ()) := by
  unfold multivalue_Merge_1_20 p20
  simp only [covers_eq u.2.1 vec (by omega) (by omega), Equal_eq u.2.1 vec (by omega), Option.bind_some]
  by_cases h : Cov u.2.1 vec <;> simp [h]
theorem f25_eq (u : Vv) (val : Int) (vec : List Int) (hu : u.2.1.length = 6) : multivalue_Merge_2_25 (u, val, vec, ()) = some (p25 vec u, val, vec, ()) := by
  unfold multivalue_Merge_2_25 p25
  simp only [Equal_eq u.2.1 vec (by omega), Option.bind_some]
theorem f26_eq (u : Vv) (val : Int) (vec : List Int) (hu : u.2.1.length = 6) (hv : vec.length = 6) : multivalue_Merge_3_26 (u, val, vec, ()) = some (p26 vec u, val, vec, ()) := by
  unfold multivalue_Merge_3_26 p26
  simp only [covers_eq u.2.1 vec (by omega) (by omega), Option.bind_some]
theorem c20_eq (xs : List Vv) (val : Int) (vec : List Int) (hl : xs.length ≤ 1000000) (hx : ∀ u ∈ xs, u.2.1.length = 6) (hv : vec.length = 6) : api_VersionedValue__19_20 (xs, val, vec, ()) = some (xs.any (p20 vec), val, vec, ()) := by
  unfold api_VersionedValue__19_20 api_VersionedValue__24_20
  have := idx_loop (p20 vec) multivalue_Merge_1_20 xs val vec hl fun u hu => f20_eq u val vec (hx u hu) hv
  rw [← idx_ge]
  exact congrArg (fun o => Option.bind o fun (r3 : Int × Int × List Int × Unit) => some (decide (r3.1 ≥ 0), r3.2.1, r3.2.2.1, ())) this
theorem c26_eq (xs : List Vv) (val : Int) (vec : List Int) (hl : xs.length ≤ 1000000) (hx : ∀ u ∈ xs, u.2.1.length = 6) (hv : vec.length = 6) : api_VersionedValue__19_26 (xs, val, vec, ()) = some (xs.any (p26 vec), val, vec, ()) := by
  unfold api_VersionedValue__19_26 api_VersionedValue__24_26
  have := idx_loop (p26 vec) multivalue_Merge_3_26 xs val vec hl fun u hu => f26_eq u val vec (hx u hu) hv
  rw [← idx_ge]
  exact congrArg (fun o => Option.bind o fun (r3 : Int × Int × List Int × Unit) => some (decide (r3.1 ≥ 0), r3.2.1, r3.2.2.1, ())) this
theorem i25_eq (xs : List Vv) (val : Int) (vec : List Int) (hl : xs.length ≤ 1000000) (hx : ∀ u ∈ xs, u.2.1.length = 6) : api_VersionedValue__24_25 (xs, val, vec, ()) = some (idxF (p25 vec) xs, val, vec, ()) := by
  unfold api_VersionedValue__24_25
  exact idx_loop (p25 vec) multivalue_Merge_2_25 xs val vec hl fun u hu => f25_eq u val vec (hx u hu)

def keepA (a b : List Vv) : List Vv := a.filter fun v => !b.any (p20 v.2.1)
def keepB (a b : List Vv) : List Vv := b.filter fun v => !a.any (p26 v.2.1)
/-- Another value under the same vector. -/
def conf (a : List Vv) (v : Vv) : Bool := match a.findIdx? (p25 v.2.1) with | some i => (match a[i]? with | some u => u.1 != v.1 | none => false) | none => false
theorem filter_snoc {α : Type} (p : α → Bool) (l : List α) (x : α) : (l ++ [x]).filter p = l.filter p ++ if p x then [x] else [] := by
  rw [List.filter_append]; cases h : p x <;> simp [h]
theorem Merge_bad (a b : List Vv) (h : ¬ okR a ∨ ¬ okR b) : ∃ y f, multivalue_Merge_11 (a, b, ()) = some (y, f, ()) ∧ ¬ f.1 = 0 := by
  obtain ⟨f, hf, hcase⟩ := Validate_eq a
  obtain ⟨g, hg, hcase'⟩ := Validate_eq b
  unfold multivalue_Merge_11
  simp only [hf, hg, Option.bind_some]
  rcases hcase with ⟨rfl, hok⟩ | ⟨hne, _⟩
  · simp only [BEq.rfl, Bool.and_self, Bool.not_true, Bool.false_eq_true, if_false]
    rcases hcase' with ⟨_, hok'⟩ | ⟨hne', _⟩
    · exact (h.elim (· hok) (· hok')).elim
    · have := fz g hne'
      obtain ⟨c, j, ⟨⟩⟩ := g
      simp only at this
      simp only [this, Bool.not_false, if_true]
      exact ⟨_, _, rfl, hne'⟩
  · have := fz f hne
    obtain ⟨c, j, ⟨⟩⟩ := f
    simp only at this
    simp only [this, Bool.not_false, if_true]
    exact ⟨_, _, rfl, hne⟩
end Go.Proofs.Ytoagphhldhpnmaa.F
end
section
set_option linter.unusedSimpArgs false
set_option linter.unusedVariables false
/- What the functions compute, said shortly: merging, whole. -/
namespace Go.Proofs.Ytoagphhldhpnmaa.F
open Go Go.Proofs.Ytoagphhldhpnmaa.V

def mgQ (a b : List Vv) (y : List Vv) (f : Fault) : Prop :=
  if b.any (conf a) = true then f.1 = 19
  else if (keepA a b ++ keepB a b).length > 16 then f.1 = 10
  else f = (0, 0, ()) ∧ ∃ s, api_VersionedValue__27_28 (keepA a b ++ keepB a b, ()) = some s ∧ y = s.1
theorem Merge_eq (a b : List Vv) (ha : okR a) (hb : okR b) (hs : b.any (conf a) = false → (keepA a b ++ keepB a b).length ≤ 16 → ∃ s, api_VersionedValue__27_28 (keepA a b ++ keepB a b, ()) = some s) :
    ∃ y f, multivalue_Merge_11 (a, b, ()) = some (y, f, ()) ∧ mgQ a b y f := by
  have va := okR_vec ha
  have vb := okR_vec hb
  have la := ha.1
  have lb := hb.1
  obtain ⟨f, hf, hcase⟩ := Validate_eq a
  obtain ⟨g, hg, hcase'⟩ := Validate_eq b
  obtain ⟨rfl, _⟩ : f = (0, 0, ()) ∧ okR a := hcase.elim id fun h => (h.2 ha).elim
  obtain ⟨rfl, _⟩ : g = (0, 0, ()) ∧ okR b := hcase'.elim id fun h => (h.2 hb).elim
  unfold multivalue_Merge_11
  simp only [hf, hg, Option.bind_some, BEq.rfl, Bool.and_self, Bool.not_true, Bool.false_eq_true, if_false]
  suffices key : ∃ r : List Vv × Fault × Unit, _ = some r ∧ mgQ a b r.1 r.2.1 from by
    obtain ⟨⟨y, f, ⟨⟩⟩, h, hq⟩ := key; exact ⟨y, f, h, hq⟩
  refine loop_inv (fun s => ∃ i : Nat, s.2.1 = (i : Int) ∧ i ≤ a.length ∧ s.1 = (a.take i).filter fun v => !b.any (p20 v.2.1)) (fun s => a.length - s.2.1.toNat) _ ?_ (s := ([], 0, ())) ⟨0, rfl, by omega, rfl⟩
  rintro ⟨out, a2, ⟨⟩⟩ ⟨i, g1, hi, g2⟩
  simp only at g1 g2
  subst g1
  have hol : out.length ≤ i := by rw [g2]; exact Nat.le_trans (List.length_filter_le _ _) (by rw [List.length_take]; omega)
  by_cases hlt : i < a.length
  · left
    have q2 : ((i : Int) < (a.length : Int)) := by omega
    have hg : a[i]? = some a[i] := List.getElem?_eq_getElem hlt
    have hu := va _ (List.getElem_mem hlt)
    have ht : a.take (i + 1) = a.take i ++ [a[i]] := by rw [List.take_add_one, hg]; rfl
    generalize a[i] = u at hg hu ht
    obtain ⟨ux, uv, ⟨⟩⟩ := u
    simp only at hu
    refine ⟨((a.take (i + 1)).filter fun v => !b.any (p20 v.2.1), ((i + 1 : Nat) : Int), ()), ?_, ⟨i + 1, rfl, hlt, rfl⟩, by simp; omega⟩
    rw [ht, filter_snoc, ← g2]
    simp only [q2, decide_true, if_true, atC_val hg, c20_eq b ux uv (by omega) (fun x hx => (vb x hx).1) hu.1, Option.bind_some]
    cases hany : b.any (p20 uv) with
    | true => simp only [Bool.not_true, Bool.false_eq_true, if_false, List.append_nil, wrap_i64 (n := (i : Int) + 1) (by omega) (by omega)]; rfl
    | false =>
      simp only [Bool.not_false, if_true, Clone_eq uv (by rw [hu.1]; omega), Option.bind_some, List.length_cons, List.length_nil]
      rw [if_pos ⟨by omega, by simp [maxLen]; omega⟩, wrap_i64 (n := (i : Int) + 1) (by omega) (by omega)]
      rfl
  · right
    have q2 : ¬ ((i : Int) < (a.length : Int)) := by omega
    rw [List.take_of_length_le (by omega)] at g2
    have g2 : out = keepA a b := g2
    subst g2
    simp only [q2, decide_false, Bool.false_eq_true, if_false]
    suffices key : ∃ r : List Vv × Fault × Unit, _ = some r ∧ mgQ a b r.1 r.2.1 from by
      obtain ⟨r, h, hq⟩ := key
      refine ⟨r, ?_, hq⟩
      have e := congrArg (Option.map (Sum.inr (α := List Vv × Int × Unit))) h
      exact e
    refine loop_inv (fun s => ∃ k : Nat, s.2.1 = (k : Int) ∧ k ≤ b.length ∧ s.1 = keepA a b ++ (b.take k).filter (fun v => !a.any (p26 v.2.1)) ∧ (b.take k).any (conf a) = false) (fun s => b.length - s.2.1.toNat) _ ?_ (s := (keepA a b, 0, ())) ⟨0, rfl, by omega, by simp, rfl⟩
    rintro ⟨out, a2, ⟨⟩⟩ ⟨k, g1, hk, g2, g3⟩
    simp only at g1 g2
    subst g1
    have hol2 : out.length ≤ 16 + k := by
      rw [g2, List.length_append]
      have h1 : (keepA a b).length ≤ a.length := List.length_filter_le _ _
      have h2 : ((b.take k).filter (fun v => !a.any (p26 v.2.1))).length ≤ k := Nat.le_trans (List.length_filter_le _ _) (by rw [List.length_take]; omega)
      omega
    by_cases hlt' : k < b.length
    · have q3 : ((k : Int) < (b.length : Int)) := by omega
      have hg : b[k]? = some b[k] := List.getElem?_eq_getElem hlt'
      have hmem := List.getElem_mem hlt'
      have hu := vb _ hmem
      have ht : b.take (k + 1) = b.take k ++ [b[k]] := by rw [List.take_add_one, hg]; rfl
      generalize b[k] = u at hg hu ht hmem
      obtain ⟨ux, uv, ⟨⟩⟩ := u
      simp only at hu
      have hi25 := i25_eq a ux uv (by omega) fun x hx => (va x hx).1
      simp only [q3, decide_true, if_true, atC_val hg, hi25, Option.bind_some, c26_eq a ux uv (by omega) (fun x hx => (va x hx).1) hu.1]
      have hcf : conf a (ux, uv, ()) = if idxF (p25 uv) a ≥ 0 then (match a[(idxF (p25 uv) a).toNat]? with | some u => u.1 != ux | none => false) else false := by
        unfold conf idxF
        cases a.findIdx? (p25 uv) with
        | none => rfl
        | some j => simp only [Int.toNat_natCast, show ((j : Int) ≥ 0) from by simp, if_true]; try (cases a[j]? <;> rfl)
      by_cases hcc : conf a (ux, uv, ()) = true
      · right
        have hany : b.any (conf a) = true := List.any_eq_true.2 ⟨_, hmem, hcc⟩
        rw [hcf] at hcc
        split at hcc
        · rename_i hge
          obtain ⟨j, hj⟩ := Int.eq_ofNat_of_zero_le hge
          rw [hj] at hcc
          simp only [Int.toNat_natCast] at hcc
          split at hcc
          · rename_i w hw
            obtain ⟨w1, w2, ⟨⟩⟩ := w
            simp only at hcc
            simp only [hj, show ((j : Int) ≥ 0) = True from by simp, decide_true, if_true, atC_val hw, hcc]
            refine ⟨_, rfl, ?_⟩
            unfold mgQ
            rw [if_pos hany]
          · cases hcc
        · cases hcc
      · left
        have hcc' : conf a (ux, uv, ()) = false := by simpa using hcc
        have hstep : ∀ (o : Option ((List Vv × Int × Unit) ⊕ (List Vv × Fault × Unit))), True := fun _ => trivial
        refine ⟨(keepA a b ++ (b.take (k + 1)).filter (fun v => !a.any (p26 v.2.1)), ((k + 1 : Nat) : Int), ()), ?_, ⟨k + 1, rfl, hlt', rfl, by rw [ht, List.any_append, g3]; simp [hcc']⟩, by simp; omega⟩
        rw [ht, filter_snoc, ← List.append_assoc, ← g2]
        have fin : (if (!(a.any (p26 uv))) = true then
            Option.bind (slices_Clone___int_int__23 (uv, ())) fun r36 => if (out.length + [((ux, r36.1, ()) : Vv)].length) * 32 ≤ 140737488355328 ∧ out.length + [((ux, r36.1, ()) : Vv)].length ≤ maxLen then (some (Sum.inl (out ++ [((ux, r36.1, ()) : Vv)], IntKind.wrap .i64 ((k : Int) + 1), ())) : Option ((List Vv × Int × Unit) ⊕ (List Vv × Fault × Unit))) else none
            else some (.inl (out, IntKind.wrap .i64 ((k : Int) + 1), ()))) = some (.inl (out ++ (if (!a.any (p26 uv)) = true then [((ux, uv, ()) : Vv)] else []), ((k + 1 : Nat) : Int), ())) := by
          rw [wrap_i64 (n := (k : Int) + 1) (by omega) (by omega)]
          cases hany : a.any (p26 uv) with
          | true => simp
          | false =>
            simp only [Bool.not_false, if_true, Clone_eq uv (by rw [hu.1]; omega), Option.bind_some, List.length_cons, List.length_nil]
            rw [if_pos ⟨by omega, by simp [maxLen]; omega⟩]
            rfl
        by_cases hge : idxF (p25 uv) a ≥ 0
        · rw [hcf, if_pos hge] at hcc'
          have hidx : ∃ j : Nat, idxF (p25 uv) a = (j : Int) ∧ ∃ w, a[j]? = some w := by
            unfold idxF at hge ⊢
            cases hfi : a.findIdx? (p25 uv) with
            | none => rw [hfi] at hge; simp at hge
            | some j =>
              obtain ⟨hj, _⟩ := List.findIdx?_eq_some_iff_getElem.1 hfi
              exact ⟨j, rfl, _, List.getElem?_eq_getElem hj⟩
          obtain ⟨j, hj, ⟨w1, w2, ⟨⟩⟩, hw⟩ := hidx
          rw [hj] at hcc'
          simp only [Int.toNat_natCast, hw] at hcc'
          simp only [hj, show ((j : Int) ≥ 0) = True from by simp, decide_true, if_true, atC_val hw, hcc', Bool.false_eq_true, if_false]
          exact fin
        · simp only [hge, decide_false, Bool.false_eq_true, if_false]
          exact fin
    · right
      have q3 : ¬ ((k : Int) < (b.length : Int)) := by omega
      rw [List.take_of_length_le (by omega)] at g2 g3
      have g2 : out = keepA a b ++ keepB a b := g2
      subst g2
      simp only [q3, decide_false, Bool.false_eq_true, if_false]
      by_cases h16 : (keepA a b ++ keepB a b).length > 16
      · have h16' : (((keepA a b ++ keepB a b).length : Nat) : Int) > 16 := by omega
        simp only [h16', decide_true, if_true]
        refine ⟨_, rfl, ?_⟩
        unfold mgQ
        rw [g3, if_neg (by simp), if_pos h16]
      · have h16' : ¬ (((keepA a b ++ keepB a b).length : Nat) : Int) > 16 := by omega
        obtain ⟨s, hsort⟩ := hs g3 (by omega)
        simp only [h16', decide_false, Bool.false_eq_true, if_false, hsort, Option.bind_some]
        refine ⟨(s.1, (0, 0, ()), ()), rfl, ?_⟩
        unfold mgQ
        rw [g3, if_neg (by simp), if_neg h16]
        exact ⟨rfl, s, hsort, rfl⟩
end Go.Proofs.Ytoagphhldhpnmaa.F
end
section
set_option linter.unusedSimpArgs false
set_option linter.unusedVariables false
/- The laws on writes. -/
namespace Go.Proofs.Ytoagphhldhpnmaa.F
open Go Go.Proofs.Ytoagphhldhpnmaa.V

theorem sortOk_eq {l : List Vv} (h : sortOk l) : api_VersionedValue__27_28 (l, ()) = some (sortF l, ()) := by
  unfold api_VersionedValue__27_28
  rw [if_pos h]
theorem sort1 (p : Vv) (h : p.2.1.length = 6) : api_VersionedValue__27_28 ([p], ()) = some ([p], ()) := by
  have hok : sortOk [p] := ⟨by simp, by simpa using h, by simp⟩
  rw [sortOk_eq hok, sortF_of hok (List.Perm.refl _) (by simp)]
theorem sort2 (p q : Vv) (hp : p.2.1.length = 6) (hq : q.2.1.length = 6) (hne : p.2.1 ≠ q.2.1) : api_VersionedValue__27_28 ([p, q], ()) = some (if cmpL q.2.1 p.2.1 < 0 then [q, p] else [p, q], ()) := by
  have hok : sortOk [p, q] := ⟨by simp, by simp [hp, hq], by simpa using hne⟩
  have hn := cmpL_neg q.2.1 p.2.1
  rw [sortOk_eq hok]
  split
  · rename_i h
    rw [sortF_of hok (List.Perm.swap p q []) (by simp [leV]; omega)]
  · rename_i h
    rw [sortF_of hok (List.Perm.refl _) (by simp [leV]; omega)]
theorem Ints_refl (l : List Int) (hl : l.length ≤ 1000000) : changeforgeequal_Ints_32 (l, l, ()) = some (true, ()) := by
  unfold changeforgeequal_Ints_32
  simp only [bne_self_eq_false, Bool.false_eq_true, if_false]
  refine (loop_val (fun s => ∃ i : Nat, s.1 = (i : Int) ∧ i ≤ l.length) (fun s => l.length - s.1.toNat) (fun s => (true, ())) ?_ (s := (0, ())) ⟨0, rfl, by omega⟩)
  rintro ⟨a1, ⟨⟩⟩ ⟨i, h1, hi⟩
  simp only at h1
  subst h1
  by_cases hlt : i < l.length
  · left
    have h2 : ((i : Int) < (l.length : Int)) := by omega
    have hg : l[i]? = some l[i] := List.getElem?_eq_getElem hlt
    refine ⟨((i + 1 : Nat), ()), ?_, ⟨i + 1, rfl, hlt⟩, rfl, by simp; omega⟩
    simp only [h2, decide_true, if_true, atC_val hg, bne_self_eq_false, Bool.false_eq_true, if_false, wrap_i64 (n := (i : Int) + 1) (by omega) (by omega)]
    rfl
  · right
    have h2 : ¬ ((i : Int) < (l.length : Int)) := by omega
    simp only [h2, decide_false, Bool.false_eq_true, if_false]
    rfl
theorem Values_refl (l : List Vv) (hl : l.length ≤ 1000000) (hv : ∀ u ∈ l, u.2.1.length ≤ 1000000) : changeforgeequal_Values_15 (l, l, ()) = some (true, ()) := by
  unfold changeforgeequal_Values_15
  simp only [bne_self_eq_false, Bool.false_eq_true, if_false]
  refine (loop_val (fun s => ∃ i : Nat, s.1 = (i : Int) ∧ i ≤ l.length) (fun s => l.length - s.1.toNat) (fun s => (true, ())) ?_ (s := (0, ())) ⟨0, rfl, by omega⟩)
  rintro ⟨a1, ⟨⟩⟩ ⟨i, h1, hi⟩
  simp only at h1
  subst h1
  by_cases hlt : i < l.length
  · left
    have h2 : ((i : Int) < (l.length : Int)) := by omega
    have hg : l[i]? = some l[i] := List.getElem?_eq_getElem hlt
    have hu := hv _ (List.getElem_mem hlt)
    generalize l[i] = u at hg hu
    refine ⟨((i + 1 : Nat), ()), ?_, ⟨i + 1, rfl, hlt⟩, rfl, by simp; omega⟩
    simp only [h2, decide_true, if_true, atC_val hg, bne_self_eq_false, Bool.false_eq_true, if_false, Ints_refl _ hu, Option.bind_some, Bool.not_true, wrap_i64 (n := (i : Int) + 1) (by omega) (by omega)]
    rfl
  · right
    have h2 : ¬ ((i : Int) < (l.length : Int)) := by omega
    simp only [h2, decide_false, Bool.false_eq_true, if_false]
    rfl
theorem okR_nil : okR [] := ⟨by simp, fun i v h => by simp at h⟩
theorem first_eq : changeforgelaw2_first_16 () = some (true, ()) := by
  unfold changeforgelaw2_first_16
  obtain ⟨y, f, h, hq⟩ := Write_eq [] 0 7
  have hw : multivalue_Write_9 ([], 0, 7, ()) = some ([(7, [1, 0, 0, 0, 0, 0], ())], (0, 0, ()), ()) := by
    obtain ⟨f', hf, hcase⟩ := Validate_eq []
    obtain ⟨rfl, _⟩ : f' = (0, 0, ()) ∧ okR [] := hcase.elim id fun h => (h.2 okR_nil).elim
    unfold multivalue_Write_9
    have w1 : IntKind.wrap .i64 1 = 1 := by decide
    simp [hf]
    rw [loopC_eq]
    simp [atC, w1]
  simp only [hw, Option.bind_some, BEq.rfl, if_true]
  rw [Values_refl _ (by simp) (by intro u hu; simp at hu; subst hu; simp)]
  rfl
/-- The register that a write leaves is valid. -/
theorem okR_one {l : List Vv} {r v : Int} {y : List Vv} (h : WOk l r v y) : okR y := by
  obtain ⟨hok, k, rfl, hk, h0, h1, hne, rfl⟩ := h
  obtain ⟨hw, _⟩ := wF_ok l (okR_vec hok)
  refine ⟨by simp, fun i u hu => ?_⟩
  cases i with
  | zero =>
    simp only [List.getElem?_cons_zero, Option.some.injEq] at hu; subst hu
    have hb := hw.2 _ (getD_mem (l := wF l) (j := k) (by rw [hw.1]; exact hk))
    have hset : ((wF l).set k ((wF l).getD k 0 + 1))[k]? = some ((wF l).getD k 0 + 1) := List.getElem?_set_self (by rw [hw.1]; exact hk)
    refine ⟨h0, h1, ⟨by simp [hw.1], fun x hx => ?_⟩, fun hz => ?_, fun u h => by omega, fun u hu => by simp at hu⟩
    · rcases List.mem_or_eq_of_mem_set hx with hx | rfl
      · exact hw.2 x hx
      · omega
    · have := hz _ (List.mem_of_getElem? hset)
      omega
  | succ i => simp at hu
end Go.Proofs.Ytoagphhldhpnmaa.F
end
section
set_option linter.unusedSimpArgs false
set_option linter.unusedVariables false
/- The laws MultivalueWriteWins and MultivalueConcurrent over plain values. -/
namespace Go.Proofs.Ytoagphhldhpnmaa.F
open Go Go.Proofs.Ytoagphhldhpnmaa.V

def vecF (l : List Vv) (k : Nat) : List Int := (wF l).set k ((wF l).getD k 0 + 1)
theorem vec_get {l : List Vv} (hw : (wF l).length = 6) {k j : Nat} (hk : k < 6) : (vecF l k).getD j 0 = if j = k then (wF l).getD k 0 + 1 else (wF l).getD j 0 := by
  unfold vecF
  rw [List.getD_eq_getElem?_getD]
  by_cases h : j = k
  · subst h; rw [List.getElem?_set_self (by omega), if_pos rfl]; rfl
  · rw [List.getElem?_set_ne (fun e => h e.symm), if_neg h, ← List.getD_eq_getElem?_getD]
theorem vec_len {l : List Vv} (hw : (wF l).length = 6) (k : Nat) : (vecF l k).length = 6 := by unfold vecF; simp [hw]
theorem WriteWins_eq (l : List Vv) (r v : Int) : changeforgelaw2_MultivalueWriteWins_5 (l, r, v, ()) = some (true, ()) := by
  obtain ⟨y, f, hW, hcase⟩ := Write_eq l r v
  unfold changeforgelaw2_MultivalueWriteWins_5
  simp only [hW, Option.bind_some, first_eq]
  rcases hcase with hne | ⟨rfl, hok⟩
  · have : (f.1 != 0) = true := by simpa using hne
    simp [this]
  · have hy := okR_one hok
    obtain ⟨hl, k, rfl, hk, h0, h1, hne, rfl⟩ := hok
    have hy : okR [(v, vecF l k, ())] := hy
    show (if ((0 : Int) != 0) = true then _ else _) = _
    simp only [bne_self_eq_false, Bool.false_eq_true, if_false]
    obtain ⟨hw, hcov⟩ := wF_ok l (okR_vec hl)
    have hge : ∀ u ∈ l, ∀ j, j < 6 → u.2.1.getD j 0 ≤ (wF l).getD j 0 := fun u hu j hj => hcov u hu j (by rw [hw.1]; exact hj)
    have hA : keepA l [(v, vecF l k, ())] = [] := by
      unfold keepA
      rw [List.filter_eq_nil_iff]
      intro u hu
      have hc : Cov (vecF l k) u.2.1 := fun j hj => by
        rw [vec_len hw.1] at hj
        rw [vec_get hw.1 hk]
        have := hge u hu j hj
        split
        · rename_i e; subst e; omega
        · exact this
      have hn : ¬ vecF l k = u.2.1 := fun e => by
        have h1 := vec_get hw.1 hk (j := k)
        rw [if_pos rfl, e] at h1
        have := hge u hu k hk
        omega
      simp [p20, hc, hn]
    have hnc : ∀ u ∈ l, ¬ Cov u.2.1 (vecF l k) := fun u hu hc => by
      have h1 := hc k (by rw [(okR_vec hl u hu).1]; exact hk)
      rw [vec_get hw.1 hk, if_pos rfl] at h1
      have := hge u hu k hk
      omega
    have hB : keepB l [(v, vecF l k, ())] = [(v, vecF l k, ())] := by
      unfold keepB
      have : l.any (p26 (vecF l k)) = false := by rw [List.any_eq_false]; intro u hu; simp [p26, hnc u hu]
      simp [this]
    have hcf : ([(v, vecF l k, ())] : List Vv).any (conf l) = false := by
      have : conf l (v, vecF l k, ()) = false := by
        unfold conf
        have : l.findIdx? (p25 (vecF l k)) = none := by
          rw [List.findIdx?_eq_none_iff]
          intro u hu
          have : ¬ u.2.1 = vecF l k := fun e => hnc u hu (by rw [e]; exact fun j _ => Int.le_refl _)
          simp [p25, this]
        rw [this]
      simp [this]
    obtain ⟨z, g, hM, hq⟩ := Merge_eq l [(v, vecF l k, ())] hl hy fun _ _ => ⟨_, by rw [hA, hB]; exact sort1 _ (by simp only; rw [vec_len hw.1])⟩
    unfold mgQ at hq
    rw [hcf, if_neg (by simp), hA, hB, if_neg (by simp)] at hq
    obtain ⟨rfl, s, hs, rfl⟩ := hq
    rw [List.nil_append, sort1 _ (by simp only; rw [vec_len hw.1])] at hs
    injection hs with hs
    subst hs
    have hV : changeforgeequal_Values_15 ([(v, vecF l k, ())], [(v, vecF l k, ())], ()) = some (true, ()) := Values_refl _ (by simp) fun u hu => by simp at hu; subst hu; simp only; rw [vec_len hw.1]; omega
    have hM : multivalue_Merge_11 (l, [(v, (wF l).set k ((wF l).getD k 0 + 1), ())], ()) = some ([(v, vecF l k, ())], (0, 0, ()), ()) := hM
    have hV : changeforgeequal_Values_15 ([(v, vecF l k, ())], [(v, (wF l).set k ((wF l).getD k 0 + 1), ())], ()) = some (true, ()) := hV
    simp only [hM, hV, Option.bind_some]
    simp [atC]
def elemOk (u : Vv) : Prop := 0 ≤ u.1 ∧ u.1 ≤ 1000000000 ∧ vecOk u.2.1 ∧ ¬ ∀ x ∈ u.2.1, x = 0
theorem okR_two {p q : Vv} (hp : elemOk p) (hq : elemOk q) (h : cmpL p.2.1 q.2.1 < 0) (h1 : ¬ Cov p.2.1 q.2.1) (h2 : ¬ Cov q.2.1 p.2.1) : okR [p, q] := by
  refine ⟨by simp, fun i u hu => ?_⟩
  match i with
  | 0 =>
    simp only [List.getElem?_cons_zero, Option.some.injEq] at hu; subst hu
    exact ⟨hp.1, hp.2.1, hp.2.2.1, hp.2.2.2, fun u h => by omega, fun u hu => by simp at hu⟩
  | 1 =>
    simp only [List.getElem?_cons_succ, List.getElem?_cons_zero, Option.some.injEq] at hu; subst hu
    refine ⟨hq.1, hq.2.1, hq.2.2.1, hq.2.2.2, fun u _ hu => ?_, fun u hu => ?_⟩
    · simp only [Nat.sub_self, List.getElem?_cons_zero, Option.some.injEq] at hu; subst hu; exact h
    · simp at hu; subst hu; exact ⟨h1, h2⟩
  | i + 2 => simp at hu
theorem okR_elem {u : Vv} (h : okR [u]) : elemOk u := by
  have := h.2 0 u rfl
  exact ⟨this.1, this.2.1, this.2.2.1, this.2.2.2.1⟩
theorem Concurrent_eq (l : List Vv) (r m s n : Int) : changeforgelaw2_MultivalueConcurrent_6 (l, r, m, s, n, ()) = some (true, ()) := by
  obtain ⟨y1, f1, hW1, hc1⟩ := Write_eq l r m
  obtain ⟨y2, f2, hW2, hc2⟩ := Write_eq l s n
  unfold changeforgelaw2_MultivalueConcurrent_6
  simp only [hW1, hW2, Option.bind_some, first_eq]
  rcases hc1 with hne | ⟨rfl, ok1⟩
  · have : (f1.1 != 0) = true := by simpa using hne
    simp [this]
  · rcases hc2 with hne | ⟨rfl, ok2⟩
    · have : (f2.1 != 0) = true := by simpa using hne
      simp [this]
    · have hy1 := okR_one ok1
      have hy2 := okR_one ok2
      obtain ⟨hl, k1, rfl, hk1, a0, a1, an, rfl⟩ := ok1
      obtain ⟨_, k2, rfl, hk2, b0, b1, bn, rfl⟩ := ok2
      have hy1 : okR [(m, vecF l k1, ())] := hy1
      have hy2 : okR [(n, vecF l k2, ())] := hy2
      obtain ⟨hw, _⟩ := wF_ok l (okR_vec hl)
      have e1 : ([(m, (wF l).set k1 ((wF l).getD k1 0 + 1), ())] : List Vv) = [(m, vecF l k1, ())] := rfl
      have e2 : ([(n, (wF l).set k2 ((wF l).getD k2 0 + 1), ())] : List Vv) = [(n, vecF l k2, ())] := rfl
      simp only [e1, e2, bne_self_eq_false, Bool.false_eq_true, if_false]
      have refl : ∀ v, Cov v v := fun v j _ => Int.le_refl _
      by_cases hk : k1 = k2
      · subst hk
        have hA : keepA [(m, vecF l k1, ())] [(n, vecF l k1, ())] = [(m, vecF l k1, ())] := by simp [keepA, p20]
        have hB : keepB [(m, vecF l k1, ())] [(n, vecF l k1, ())] = [] := by simp [keepB, p26, refl]
        have hcf : ([(n, vecF l k1, ())] : List Vv).any (conf [(m, vecF l k1, ())]) = (m != n) := by
          simp [conf, p25, List.findIdx?_cons]
        obtain ⟨z, g, hM, hq⟩ := Merge_eq [(m, vecF l k1, ())] [(n, vecF l k1, ())] hy1 hy2 fun _ _ => ⟨_, by rw [hA, hB]; exact sort1 _ (by simp only; rw [vec_len hw.1])⟩
        unfold mgQ at hq
        rw [hcf, hA, hB] at hq
        have hV : changeforgeequal_Values_15 ([(m, vecF l k1, ())], [(m, vecF l k1, ())], ()) = some (true, ()) := Values_refl _ (by simp) fun u hu => by simp at hu; subst hu; simp only; rw [vec_len hw.1]; omega
        by_cases hmn : m = n
        · subst hmn
          rw [if_neg (by simp), if_neg (by simp)] at hq
          obtain ⟨rfl, s, hs, rfl⟩ := hq
          rw [List.append_nil, sort1 _ (by simp only; rw [vec_len hw.1])] at hs
          injection hs with hs
          subst hs
          simp [hM, hV]
        · rw [if_pos (by simpa using hmn)] at hq
          obtain ⟨c, j, ⟨⟩⟩ := g
          simp only at hq
          subst hq
          simp [hM, hmn]
      · have hv12 : ¬ Cov (vecF l k2) (vecF l k1) := fun h => by
          have := h k1 (by rw [vec_len hw.1]; exact hk1)
          rw [vec_get hw.1 hk1, vec_get hw.1 hk2, if_pos rfl, if_neg hk] at this
          omega
        have hv21 : ¬ Cov (vecF l k1) (vecF l k2) := fun h => by
          have := h k2 (by rw [vec_len hw.1]; exact hk2)
          rw [vec_get hw.1 hk2, vec_get hw.1 hk1, if_pos rfl, if_neg (fun e => hk e.symm)] at this
          omega
        have hne : ¬ vecF l k1 = vecF l k2 := fun e => hv12 (by rw [e]; exact refl _)
        have hA : keepA [(m, vecF l k1, ())] [(n, vecF l k2, ())] = [(m, vecF l k1, ())] := by simp [keepA, p20, hv12]
        have hB : keepB [(m, vecF l k1, ())] [(n, vecF l k2, ())] = [(n, vecF l k2, ())] := by simp [keepB, p26, hv21]
        have hcf : ([(n, vecF l k2, ())] : List Vv).any (conf [(m, vecF l k1, ())]) = false := by
          simp [conf, p25, List.findIdx?_cons, hne]
        obtain ⟨z, g, hM, hq⟩ := Merge_eq [(m, vecF l k1, ())] [(n, vecF l k2, ())] hy1 hy2 fun _ _ => ⟨_, by rw [hA, hB]; exact sort2 _ _ (by simp only; rw [vec_len hw.1]) (by simp only; rw [vec_len hw.1]) hne⟩
        unfold mgQ at hq
        rw [hcf, hA, hB, if_neg (by simp), if_neg (by simp)] at hq
        obtain ⟨rfl, s, hs, rfl⟩ := hq
        rw [List.singleton_append, sort2 _ _ (by simp only; rw [vec_len hw.1]) (by simp only; rw [vec_len hw.1]) hne] at hs
        injection hs with hs
        subst hs
        have hp := okR_elem hy1
        have hq := okR_elem hy2
        have hz : okR (if cmpL (vecF l k2) (vecF l k1) < 0 then [(n, vecF l k2, ()), (m, vecF l k1, ())] else [(m, vecF l k1, ()), (n, vecF l k2, ())]) := by
          split
          · rename_i h; exact okR_two hq hp h hv12 hv21
          · rename_i h
            have h0 : cmpL (vecF l k2) (vecF l k1) ≠ 0 := fun e => hne (cmpL_zero _ _ e).symm
            have := cmpL_neg (vecF l k1) (vecF l k2)
            exact okR_two hp hq (by simp only; omega) hv21 hv12
        obtain ⟨f, hV, hcase⟩ := Validate_eq (if cmpL (vecF l k2) (vecF l k1) < 0 then [(n, vecF l k2, ()), (m, vecF l k1, ())] else [(m, vecF l k1, ()), (n, vecF l k2, ())])
        obtain ⟨rfl, _⟩ : f = (0, 0, ()) ∧ _ := hcase.elim id fun h => (h.2 hz).elim
        have hlen : (if cmpL (vecF l k2) (vecF l k1) < 0 then [((n, vecF l k2, ()) : Vv), (m, vecF l k1, ())] else [(m, vecF l k1, ()), (n, vecF l k2, ())]).length = 2 := by split <;> rfl
        have hkk : ((k1 : Int) == (k2 : Int)) = false := by simp; omega
        generalize (if cmpL (vecF l k2) (vecF l k1) < 0 then [((n, vecF l k2, ()) : Vv), (m, vecF l k1, ())] else [(m, vecF l k1, ()), (n, vecF l k2, ())]) = zz at hM hV hlen
        simp [hM, hkk, hV, hlen]
end Go.Proofs.Ytoagphhldhpnmaa.F
end
section
set_option linter.unusedSimpArgs false
set_option linter.unusedVariables false
/- Merging registers: what comes out. -/
namespace Go.Proofs.Ytoagphhldhpnmaa.F
open Go Go.Proofs.Ytoagphhldhpnmaa.V

theorem Cov.refl (v : List Int) : Cov v v := fun _ _ => Int.le_refl _
theorem Cov.trans {a b c : List Int} (hab : a.length = b.length) (h1 : Cov a b) (h2 : Cov b c) : Cov a c := fun i hi => by
  have := h1 i hi
  have := h2 i (by omega)
  omega
theorem Cov.eq {a b : List Int} (ha : a.length = 6) (hb : b.length = 6) (h1 : Cov a b) (h2 : Cov b a) : a = b := ext6 ha hb fun j hj => by
  have := h1 j (by omega); have := h2 j (by omega); omega
/-- The vectors of a register: apart. -/
theorem okR_apart {l : List Vv} (h : okR l) {i j : Nat} {u v : Vv} (hi : l[i]? = some u) (hj : l[j]? = some v) (hij : i < j) : ¬ Cov u.2.1 v.2.1 ∧ ¬ Cov v.2.1 u.2.1 := by
  refine (h.2 j v hj).2.2.2.2.2 u (List.mem_of_getElem? (i := i) ?_)
  rw [List.getElem?_take, if_pos hij]; exact hi
theorem okR_cov {l : List Vv} (h : okR l) {u v : Vv} (hu : u ∈ l) (hv : v ∈ l) (hc : Cov u.2.1 v.2.1) : u = v := by
  obtain ⟨i, hi⟩ := List.mem_iff_getElem?.1 hu
  obtain ⟨j, hj⟩ := List.mem_iff_getElem?.1 hv
  rcases Nat.lt_trichotomy i j with hij | rfl | hij
  · exact absurd hc (okR_apart h hi hj hij).1
  · rw [hi] at hj; injection hj
  · exact absurd hc (okR_apart h hj hi hij).2
theorem okR_lt {l : List Vv} (h : okR l) : ∀ (i j : Nat) (u v : Vv), l[i]? = some u → l[j]? = some v → i < j → cmpL u.2.1 v.2.1 < 0 := by
  intro i j u v hi hj hij
  induction j generalizing v with
  | zero => omega
  | succ j ih =>
    have hlt : j + 1 < l.length := (List.getElem?_eq_some_iff.1 hj).1
    have hw : l[j]? = some l[j] := List.getElem?_eq_getElem (by omega)
    have h1 := (h.2 (j + 1) v hj).2.2.2.2.1 _ (by omega) hw
    rcases Nat.lt_or_eq_of_le (Nat.le_of_lt_succ hij) with h2 | h2
    · exact cmpL_lt_trans _ _ _ (ih _ hw h2) h1
    · subst h2; rw [hi] at hw; injection hw with hw; rw [hw]; exact h1
theorem okR_pair {l : List Vv} (h : okR l) : l.Pairwise fun u v => u.2.1 ≠ v.2.1 := by
  rw [List.pairwise_iff_getElem]
  intro i j hi hj hij e
  have := okR_lt h i j _ _ (List.getElem?_eq_getElem hi) (List.getElem?_eq_getElem hj) hij
  rw [e, cmpL_self] at this; omega
theorem keepA_mem {a b : List Vv} {u : Vv} : u ∈ keepA a b ↔ u ∈ a ∧ ∀ v ∈ b, Cov v.2.1 u.2.1 → v.2.1 = u.2.1 := by
  simp only [keepA, List.mem_filter, Bool.not_eq_true', List.any_eq_false, p20, Bool.and_eq_true, decide_eq_true_eq, Bool.not_eq_true', decide_eq_false_iff_not, not_and, Decidable.not_not]
theorem keepB_mem {a b : List Vv} {v : Vv} : v ∈ keepB a b ↔ v ∈ b ∧ ∀ u ∈ a, ¬ Cov u.2.1 v.2.1 := by
  simp only [keepB, List.mem_filter, Bool.not_eq_true', List.any_eq_false, p26, decide_eq_true_eq]
theorem keep_ok {a b : List Vv} (ha : okR a) (hb : okR b) (hl : (keepA a b ++ keepB a b).length ≤ 1000000) : sortOk (keepA a b ++ keepB a b) := by
  refine ⟨hl, fun u hu => ?_, ?_⟩
  · rcases List.mem_append.1 hu with h | h
    · exact (okR_vec ha u (keepA_mem.1 h).1).1
    · exact (okR_vec hb u (keepB_mem.1 h).1).1
  · rw [List.pairwise_append]
    refine ⟨(okR_pair ha).sublist List.filter_sublist, (okR_pair hb).sublist List.filter_sublist, fun u hu v hv e => ?_⟩
    exact (keepB_mem.1 hv).2 u (keepA_mem.1 hu).1 (by rw [e]; exact Cov.refl _)
theorem keep_len (a b : List Vv) (ha : okR a) (hb : okR b) : (keepA a b ++ keepB a b).length ≤ 32 := by
  have h1 : (keepA a b).length ≤ a.length := List.length_filter_le _ _
  have h2 : (keepB a b).length ≤ b.length := List.length_filter_le _ _
  have := ha.1; have := hb.1
  rw [List.length_append]; omega
noncomputable def mrgF (a b : List Vv) : List Vv := sortF (keepA a b ++ keepB a b)
/-- Merge, whole. -/
theorem Merge_full (a b : List Vv) : ∃ y f, multivalue_Merge_11 (a, b, ()) = some (y, f, ()) ∧ (¬ f.1 = 0 ∨ (f = (0, 0, ()) ∧ okR a ∧ okR b ∧ b.any (conf a) = false ∧ (keepA a b ++ keepB a b).length ≤ 16 ∧ y = mrgF a b)) := by
  by_cases h : okR a ∧ okR b
  · obtain ⟨ha, hb⟩ := h
    have hl := keep_len a b ha hb
    have hok := keep_ok ha hb (by omega)
    obtain ⟨y, f, hM, hq⟩ := Merge_eq a b ha hb fun _ _ => ⟨_, sortOk_eq hok⟩
    refine ⟨y, f, hM, ?_⟩
    unfold mgQ at hq
    by_cases h1 : b.any (conf a) = true
    · rw [if_pos h1] at hq; exact .inl (by omega)
    · rw [if_neg h1] at hq
      by_cases h2 : (keepA a b ++ keepB a b).length > 16
      · rw [if_pos h2] at hq; exact .inl (by omega)
      · rw [if_neg h2] at hq
        obtain ⟨rfl, s, hs, rfl⟩ := hq
        rw [sortOk_eq hok] at hs
        injection hs with hs
        subst hs
        exact .inr ⟨rfl, ha, hb, by simpa using h1, by omega, rfl⟩
  · obtain ⟨y, f, h1, h2⟩ := Merge_bad a b (by
      by_cases ha : okR a
      · exact .inr fun hb => h ⟨ha, hb⟩
      · exact .inl ha)
    exact ⟨y, f, h1, .inl h2⟩
theorem mrgF_mem {a b : List Vv} {u : Vv} : u ∈ mrgF a b ↔ u ∈ keepA a b ∨ u ∈ keepB a b := by
  unfold mrgF
  rw [(sortF_perm _).mem_iff, List.mem_append]
/-- Nothing is lost. -/
theorem mrgF_cov {a b : List Vv} (ha : okR a) (hb : okR b) {w : Vv} (hw : w ∈ a ∨ w ∈ b) : ∃ x ∈ mrgF a b, Cov x.2.1 w.2.1 := by
  have la := fun u hu => (okR_vec ha u hu).1
  have lb := fun u hu => (okR_vec hb u hu).1
  rcases hw with hw | hw
  · by_cases hk : w ∈ keepA a b
    · exact ⟨w, mrgF_mem.2 (.inl hk), Cov.refl _⟩
    · have : ∃ u ∈ b, Cov u.2.1 w.2.1 ∧ u.2.1 ≠ w.2.1 := by
        apply Classical.byContradiction
        intro hn
        refine hk (keepA_mem.2 ⟨hw, fun u hu hc => ?_⟩)
        apply Classical.byContradiction
        intro hne
        exact hn ⟨u, hu, hc, hne⟩
      obtain ⟨u, hu, hc, hne⟩ := this
      refine ⟨u, mrgF_mem.2 (.inr (keepB_mem.2 ⟨hu, fun u' hu' hc' => ?_⟩)), hc⟩
      have := okR_cov ha hu' hw (hc'.trans (by rw [la u' hu', lb u hu]) hc)
      subst this
      exact hne (Cov.eq (lb u hu) (la u' hw) hc hc')
  · by_cases hk : w ∈ keepB a b
    · exact ⟨w, mrgF_mem.2 (.inr hk), Cov.refl _⟩
    · have : ∃ u ∈ a, Cov u.2.1 w.2.1 := by
        apply Classical.byContradiction
        intro hn
        exact hk (keepB_mem.2 ⟨hw, fun u hu hc => hn ⟨u, hu, hc⟩⟩)
      obtain ⟨u, hu, hc⟩ := this
      refine ⟨u, mrgF_mem.2 (.inl (keepA_mem.2 ⟨hu, fun v hv hc' => ?_⟩)), hc⟩
      have := okR_cov hb hv hw (hc'.trans (by rw [lb v hv, la u hu]) hc)
      subst this
      exact Cov.eq (lb v hw) (la u hu) hc' hc
end Go.Proofs.Ytoagphhldhpnmaa.F
end
section
set_option linter.unusedSimpArgs false
set_option linter.unusedVariables false
/- The laws MultivalueCovers and MultivalueResolves over plain values. -/
namespace Go.Proofs.Ytoagphhldhpnmaa.F
open Go Go.Proofs.Ytoagphhldhpnmaa.V

def covN (a b : List Int) (i : Nat) : Bool := decide (∀ j, j < i → b.getD j 0 ≤ a.getD j 0)
theorem covN_succ (a b : List Int) (i : Nat) : covN a b (i + 1) = (covN a b i && decide (b.getD i 0 ≤ a.getD i 0)) := by
  rw [Bool.eq_iff_iff]
  simp only [covN, Bool.and_eq_true, decide_eq_true_eq]
  constructor
  · intro h; exact ⟨fun j hj => h j (by omega), h i (by omega)⟩
  · rintro ⟨h1, h2⟩ j hj
    by_cases e : j = i
    · subst e; exact h2
    · exact h1 j (by omega)
theorem covN_all {a b : List Int} : covN a b a.length = decide (Cov a b) := rfl
theorem Relation_eq (a b : List Int) (h : a.length = b.length) (hl : a.length ≤ 1000000) : changeforgeref2_Relation_17 (a, b, ()) = some (decide (Cov a b), decide (Cov b a), ()) := by
  unfold changeforgeref2_Relation_17
  simp only []
  refine (loop_val (fun s => ∃ i : Nat, s.2.2.1 = (i : Int) ∧ i ≤ a.length ∧ s.1 = covN a b i ∧ s.2.1 = covN b a i) (fun s => a.length - s.2.2.1.toNat) (fun _ => (decide (Cov a b), decide (Cov b a), ())) ?_ (s := (true, true, 0, ())) ⟨0, rfl, by omega, by simp [covN], by simp [covN]⟩)
  rintro ⟨x, y, a3, ⟨⟩⟩ ⟨i, h1, hi, h2, h3⟩
  simp only at h1 h2 h3
  subst h1
  by_cases hlt : i < a.length
  · left
    have q2 : ((i : Int) < (a.length : Int)) := by omega
    have hg : a[i]? = some (a.getD i 0) := by rw [List.getD_eq_getElem?_getD, List.getElem?_eq_getElem hlt]; rfl
    have hg' : b[i]? = some (b.getD i 0) := by rw [List.getD_eq_getElem?_getD, List.getElem?_eq_getElem (by omega)]; rfl
    refine ⟨(covN a b (i + 1), covN b a (i + 1), ((i + 1 : Nat) : Int), ()), ?_, ⟨i + 1, rfl, hlt, rfl, rfl⟩, rfl, by simp; omega⟩
    rw [covN_succ, covN_succ, ← h2, ← h3]
    simp only [q2, decide_true, if_true, atC_val hg, atC_val hg', wrap_i64 (n := (i : Int) + 1) (by omega) (by omega)]
    cases x <;> cases y <;> rfl
  · right
    have q2 : ¬ ((i : Int) < (a.length : Int)) := by omega
    have e : i = a.length := by omega
    subst e
    rw [covN_all] at h2
    have h3 : y = decide (Cov b a) := by rw [h3, h]; rfl
    subst h2 h3
    simp only [q2, decide_false, Bool.false_eq_true, if_false]
    rfl
theorem Covers_eq (a b : List Vv) (i : Int) (hl : (a.length + b.length) * 32 ≤ 140737488355328) : changeforgelaw2_MultivalueCovers_7 (a, b, i, ()) = some (true, ()) := by
  obtain ⟨y, f, hM, hcase⟩ := Merge_full a b
  unfold changeforgelaw2_MultivalueCovers_7
  simp only [hM, Option.bind_some, first_eq, List.length_nil, Nat.zero_add, List.nil_append]
  rw [if_pos ⟨by omega, by simp [maxLen]; omega⟩, if_pos ⟨hl, by simp [maxLen]; omega⟩]
  rcases hcase with hne | ⟨rfl, ha, hb, _, _, rfl⟩
  · have : (f.1 != 0) = true := by simpa using hne
    simp [this]
  · simp only [bne_self_eq_false, Bool.false_eq_true, if_false]
    by_cases h0 : i < 0
    · simp [h0]
    · by_cases h1 : i ≥ ((a ++ b).length : Int)
      · have h1' := h1
        simp only [h0, h1', decide_true, decide_false, Bool.false_eq_true, if_false, if_true]
      · obtain ⟨i, rfl⟩ := Int.eq_ofNat_of_zero_le (show 0 ≤ i from by omega)
        have hlt : i < (a ++ b).length := by omega
        have hg : (a ++ b)[i]? = some (a ++ b)[i] := List.getElem?_eq_getElem hlt
        have hmem : (a ++ b)[i] ∈ a ++ b := List.getElem_mem hlt
        generalize (a ++ b)[i] = w at hg hmem
        obtain ⟨x, hx, hc⟩ := mrgF_cov ha hb (List.mem_append.1 hmem)
        have hw6 : w.2.1.length = 6 := (List.mem_append.1 hmem).elim (fun h => (okR_vec ha w h).1) fun h => (okR_vec hb w h).1
        have hy6 : ∀ u ∈ mrgF a b, u.2.1.length = 6 := fun u hu => (mrgF_mem.1 hu).elim (fun h => (okR_vec ha u (keepA_mem.1 h).1).1) fun h => (okR_vec hb u (keepB_mem.1 h).1).1
        have hyl : (mrgF a b).length ≤ 1000000 := by
          unfold mrgF; rw [(sortF_perm _).length_eq]; have := keep_len a b ha hb; omega
        simp only [h0, h1, decide_false, Bool.false_eq_true, if_false]
        generalize mrgF a b = y at hx hy6 hyl
        refine (loop_val (fun s => ∃ k : Nat, s.1 = (k : Int) ∧ k ≤ y.length ∧ x ∈ y.drop k) (fun s => y.length - s.1.toNat) (fun _ => (true, ())) ?_ (s := (0, ())) ⟨0, rfl, by omega, hx⟩)
        rintro ⟨a1, ⟨⟩⟩ ⟨k, g1, hk, hd⟩
        simp only at g1
        subst g1
        have hkl : k < y.length := by
          rcases Nat.lt_or_ge k y.length with h | h
          · exact h
          · rw [List.drop_eq_nil_of_le h] at hd; cases hd
        have q2 : ((k : Int) < (y.length : Int)) := by omega
        have hgk : y[k]? = some y[k] := List.getElem?_eq_getElem hkl
        have hdk : y.drop k = y[k] :: y.drop (k + 1) := List.drop_eq_getElem_cons hkl
        have hu6 := hy6 _ (List.getElem_mem hkl)
        generalize y[k] = u at hgk hdk hu6
        rw [hdk] at hd
        simp only [q2, decide_true, if_true, atC_val hgk, atC_val hg, Relation_eq u.2.1 w.2.1 (by omega) (by omega), Option.bind_some, decide_eq_true_eq]
        by_cases hcu : Cov u.2.1 w.2.1
        · right; rw [if_pos hcu]
        · left
          rw [if_neg hcu]
          refine ⟨(((k + 1 : Nat) : Int), ()), by rw [wrap_i64 (n := (k : Int) + 1) (by omega) (by omega)]; rfl, ⟨k + 1, rfl, hkl, ?_⟩, trivial, by simp; omega⟩
          rcases List.mem_cons.1 hd with e | hd
          · subst e; exact absurd hc hcu
          · exact hd
/-- A value that supersedes all. -/
theorem Merge_top {l : List Vv} {n : Vv} (hl : okR l) (hn : okR [n]) (hc : ∀ u ∈ l, Cov n.2.1 u.2.1 ∧ ¬ Cov u.2.1 n.2.1) :
    multivalue_Merge_11 (l, [n], ()) = some ([n], (0, 0, ()), ()) ∧ multivalue_Merge_11 ([n], l, ()) = some ([n], (0, 0, ()), ()) := by
  have hn6 : n.2.1.length = 6 := (okR_vec hn n (by simp)).1
  have hne : ∀ u ∈ l, ¬ u.2.1 = n.2.1 := fun u hu e => (hc u hu).2 (by rw [e]; exact Cov.refl _)
  constructor
  · have hA : keepA l [n] = [] := by
      unfold keepA
      rw [List.filter_eq_nil_iff]
      intro u hu
      have h1 := (hc u hu).1
      have h2 : ¬ n.2.1 = u.2.1 := fun e => hne u hu e.symm
      simp [p20, h1, h2]
    have hB : keepB l [n] = [n] := by
      unfold keepB
      have : l.any (p26 n.2.1) = false := by rw [List.any_eq_false]; intro u hu; simp [p26, (hc u hu).2]
      simp [this]
    have hcf : ([n] : List Vv).any (conf l) = false := by
      have : conf l n = false := by
        unfold conf
        have : l.findIdx? (p25 n.2.1) = none := by
          rw [List.findIdx?_eq_none_iff]
          intro u hu
          simp [p25, hne u hu]
        rw [this]
      simp [this]
    obtain ⟨z, g, hM, hq⟩ := Merge_eq l [n] hl hn fun _ _ => ⟨_, by rw [hA, hB]; exact sort1 _ hn6⟩
    unfold mgQ at hq
    rw [hcf, if_neg (by simp), hA, hB, if_neg (by simp)] at hq
    obtain ⟨rfl, s, hs, rfl⟩ := hq
    rw [List.nil_append, sort1 _ hn6] at hs
    injection hs with hs
    subst hs
    exact hM
  · have hA : keepA [n] l = [n] := by
      unfold keepA
      have : l.any (p20 n.2.1) = false := by rw [List.any_eq_false]; intro u hu; simp [p20, (hc u hu).2]
      simp [this]
    have hB : keepB [n] l = [] := by
      unfold keepB
      rw [List.filter_eq_nil_iff]
      intro u hu
      simp [p26, (hc u hu).1]
    have hcf : l.any (conf [n]) = false := by
      rw [List.any_eq_false]
      intro v hv
      have : ¬ n.2.1 = v.2.1 := fun e => hne v hv e.symm
      simp [conf, p25, List.findIdx?_cons, this]
    obtain ⟨z, g, hM, hq⟩ := Merge_eq [n] l hn hl fun _ _ => ⟨_, by rw [hA, hB]; exact sort1 _ hn6⟩
    unfold mgQ at hq
    rw [hcf, if_neg (by simp), hA, hB, if_neg (by simp)] at hq
    obtain ⟨rfl, s, hs, rfl⟩ := hq
    rw [List.append_nil, sort1 _ hn6] at hs
    injection hs with hs
    subst hs
    exact hM
theorem Resolves_eq (a b : List Vv) (r v : Int) : changeforgelaw2_MultivalueResolves_8 (a, b, r, v, ()) = some (true, ()) := by
  obtain ⟨x, f, hM, hcase⟩ := Merge_full a b
  obtain ⟨y, g, hW, hcase2⟩ := Write_eq x r v
  unfold changeforgelaw2_MultivalueResolves_8
  simp only [hM, hW, Option.bind_some, first_eq]
  rcases hcase with hne | ⟨rfl, ha, hb, _, _, rfl⟩
  · have : (f.1 != 0) = true := by simpa using hne
    simp [this]
  · rcases hcase2 with hne | ⟨rfl, hok⟩
    · have : (g.1 != 0) = true := by simpa using hne
      simp [this]
    · have hy := okR_one hok
      obtain ⟨hx, k, rfl, hk, h0, h1, hne, rfl⟩ := hok
      have hy : okR [(v, vecF (mrgF a b) k, ())] := hy
      obtain ⟨hw, hcov⟩ := wF_ok (mrgF a b) (okR_vec hx)
      have hge : ∀ u ∈ mrgF a b, ∀ j, j < 6 → u.2.1.getD j 0 ≤ (wF (mrgF a b)).getD j 0 := fun u hu j hj => hcov u hu j (by rw [hw.1]; exact hj)
      have top : ∀ w, (w ∈ a ∨ w ∈ b) → Cov (vecF (mrgF a b) k) w.2.1 ∧ ¬ Cov w.2.1 (vecF (mrgF a b) k) := by
        intro w hwm
        obtain ⟨u, hu, hc⟩ := mrgF_cov ha hb hwm
        have hw6 : w.2.1.length = 6 := hwm.elim (fun h => (okR_vec ha w h).1) fun h => (okR_vec hb w h).1
        have hu6 := (okR_vec hx u hu).1
        refine ⟨fun j hj => ?_, fun h => ?_⟩
        · rw [vec_len hw.1] at hj
          have q1 := hc j (by omega)
          have q2 := hge u hu j hj
          rw [vec_get hw.1 hk]
          split
          · rename_i e; subst e; omega
          · omega
        · have q0 := h k (by omega)
          rw [vec_get hw.1 hk, if_pos rfl] at q0
          have q1 := hc k (by omega)
          have q2 := hge u hu k hk
          omega
      have m1 := (Merge_top (n := (v, vecF (mrgF a b) k, ())) ha hy fun u hu => top u (.inl hu)).2
      have m2 := (Merge_top (n := (v, vecF (mrgF a b) k, ())) hb hy fun u hu => top u (.inr hu)).1
      have hV : changeforgeequal_Values_15 ([(v, vecF (mrgF a b) k, ())], [(v, vecF (mrgF a b) k, ())], ()) = some (true, ()) := Values_refl _ (by simp) fun u hu => by simp at hu; subst hu; simp only; rw [vec_len hw.1]; omega
      have e1 : ([(v, (wF (mrgF a b)).set k ((wF (mrgF a b)).getD k 0 + 1), ())] : List Vv) = [(v, vecF (mrgF a b) k, ())] := rfl
      simp only [e1, m1, m2, hV, Option.bind_some, bne_self_eq_false, Bool.false_eq_true, if_false, BEq.rfl, if_true]
end Go.Proofs.Ytoagphhldhpnmaa.F
end
section
set_option linter.unusedSimpArgs false
set_option linter.unusedVariables false
/- The law MultivalueSemilattice over plain values. -/
namespace Go.Proofs.Ytoagphhldhpnmaa.F
open Go Go.Proofs.Ytoagphhldhpnmaa.V

/-- No two values under one vector. -/
def noConf (a b : List Vv) : Prop := ∀ u ∈ a, ∀ v ∈ b, u.2.1 = v.2.1 → u.1 = v.1
theorem noConf.symm {a b : List Vv} (h : noConf a b) : noConf b a := fun u hu v hv e => (h v hv u hu e.symm).symm
theorem okR_vecEq {l : List Vv} (h : okR l) {u v : Vv} (hu : u ∈ l) (hv : v ∈ l) (e : u.2.1 = v.2.1) : u = v := okR_cov h hu hv (by rw [e]; exact Cov.refl _)
theorem conf_iff {a : List Vv} (ha : okR a) (v : Vv) : conf a v = true ↔ ∃ u ∈ a, u.2.1 = v.2.1 ∧ u.1 ≠ v.1 := by
  unfold conf
  cases hf : a.findIdx? (p25 v.2.1) with
  | none =>
    rw [List.findIdx?_eq_none_iff] at hf
    constructor
    · intro h; cases h
    · rintro ⟨u, hu, e, _⟩
      have := hf u hu
      simp [p25, e] at this
  | some i =>
    obtain ⟨hi, hp, _⟩ := List.findIdx?_eq_some_iff_getElem.1 hf
    have hg : a[i]? = some a[i] := List.getElem?_eq_getElem hi
    have hmem := List.getElem_mem hi
    generalize a[i] = w at hg hmem hp
    have hw : w.2.1 = v.2.1 := by simpa [p25] using hp
    simp only [hg, bne_iff_ne, ne_eq]
    constructor
    · intro h; exact ⟨w, hmem, hw, h⟩
    · rintro ⟨u, hu, e, hne⟩
      have := okR_vecEq ha hu hmem (by rw [e, hw])
      subst this; exact hne
theorem any_conf_iff {a b : List Vv} (ha : okR a) : b.any (conf a) = false ↔ noConf a b := by
  rw [List.any_eq_false]
  constructor
  · intro h u hu v hv e
    apply Classical.byContradiction
    intro hne
    exact h v hv ((conf_iff ha v).2 ⟨u, hu, e, hne⟩)
  · intro h v hv hc
    obtain ⟨u, hu, e, hne⟩ := (conf_iff ha v).1 hc
    exact hne (h u hu v hv e)
theorem pair_eq {u v : Vv} (h1 : u.1 = v.1) (h2 : u.2.1 = v.2.1) : u = v := by
  obtain ⟨a, b, ⟨⟩⟩ := u; obtain ⟨c, d, ⟨⟩⟩ := v; simp only at h1 h2; rw [h1, h2]
/-- What is in a merge: what nothing else supersedes. -/
theorem mrgF_iff {a b : List Vv} (ha : okR a) (hb : okR b) (hc : noConf a b) {w : Vv} : w ∈ mrgF a b ↔ (w ∈ a ∨ w ∈ b) ∧ ∀ u, (u ∈ a ∨ u ∈ b) → Cov u.2.1 w.2.1 → u.2.1 = w.2.1 := by
  rw [mrgF_mem]
  constructor
  · rintro (h | h)
    · obtain ⟨h1, h2⟩ := keepA_mem.1 h
      exact ⟨.inl h1, fun u hu hcov => hu.elim (fun hu => by rw [okR_cov ha hu h1 hcov]) fun hu => h2 u hu hcov⟩
    · obtain ⟨h1, h2⟩ := keepB_mem.1 h
      exact ⟨.inr h1, fun u hu hcov => hu.elim (fun hu => absurd hcov (h2 u hu)) fun hu => by rw [okR_cov hb hu h1 hcov]⟩
  · rintro ⟨h1, h2⟩
    have inA : w ∈ a → w ∈ keepA a b := fun h => keepA_mem.2 ⟨h, fun v hv hcov => h2 v (.inr hv) hcov⟩
    rcases h1 with h1 | h1
    · exact .inl (inA h1)
    · by_cases hex : ∃ u ∈ a, Cov u.2.1 w.2.1
      · obtain ⟨u, hu, hcov⟩ := hex
        have e := h2 u (.inl hu) hcov
        have : u = w := pair_eq (hc u hu w h1 e) e
        subst this
        exact .inl (inA hu)
      · exact .inr (keepB_mem.2 ⟨h1, fun u hu hcov => hex ⟨u, hu, hcov⟩⟩)
/-- Sorted lists of the same members. -/
theorem sortF_ext {l m : List Vv} (hl : sortOk l) (hm : sortOk m) (h : ∀ w, w ∈ l ↔ w ∈ m) : sortF l = sortF m := by
  have nd : ∀ {k : List Vv}, sortOk k → k.Nodup := fun hk => hk.2.2.imp fun hne e => hne (by rw [e])
  have hp : l.Perm m := (List.perm_ext_iff_of_nodup (nd hl) (nd hm)).2 h
  exact sortF_of hl ((sortF_perm m).trans hp.symm) (sortF_sorted m)
theorem mrgF_len (a b : List Vv) : (mrgF a b).length = (keepA a b ++ keepB a b).length := (sortF_perm _).length_eq
theorem mrgF_okR {a b : List Vv} (ha : okR a) (hb : okR b) (hc : noConf a b) (hl : (keepA a b ++ keepB a b).length ≤ 16) : okR (mrgF a b) := by
  have hso := keep_ok ha hb (by omega)
  have hsorted := sortF_sorted (keepA a b ++ keepB a b)
  have hpair : (mrgF a b).Pairwise fun u v => u.2.1 ≠ v.2.1 := (sortF_perm _).symm.pairwise hso.2.2 (fun h e => h e.symm)
  have hlt : (mrgF a b).Pairwise fun u v => cmpL u.2.1 v.2.1 < 0 := by
    refine (List.Pairwise.and hsorted hpair).imp fun {u v} ⟨h1, h2⟩ => ?_
    simp only [leV, decide_eq_true_eq] at h1
    rcases Int.lt_or_eq_of_le h1 with h | h
    · exact h
    · exact absurd (cmpL_zero _ _ h) h2
  have hel : ∀ u ∈ mrgF a b, elemOk u := by
    intro u hu
    have : u ∈ a ∨ u ∈ b := ((mrgF_iff ha hb hc).1 hu).1
    rcases this with h | h
    · obtain ⟨j, hj⟩ := List.mem_iff_getElem?.1 h
      have := ha.2 j u hj; exact ⟨this.1, this.2.1, this.2.2.1, this.2.2.2.1⟩
    · obtain ⟨j, hj⟩ := List.mem_iff_getElem?.1 h
      have := hb.2 j u hj; exact ⟨this.1, this.2.1, this.2.2.1, this.2.2.2.1⟩
  refine ⟨by rw [mrgF_len]; exact hl, fun i v hv => ?_⟩
  have hvm := List.mem_of_getElem? hv
  obtain ⟨e1, e2, e3, e4⟩ := hel v hvm
  have hiv := (List.getElem?_eq_some_iff.1 hv)
  refine ⟨e1, e2, e3, e4, fun u h0 hu => ?_, fun u hu => ?_⟩
  · obtain ⟨hi', rfl⟩ := List.getElem?_eq_some_iff.1 hu
    obtain ⟨hi, rfl⟩ := hiv
    exact List.pairwise_iff_getElem.1 hlt (i - 1) i hi' hi (by omega)
  · obtain ⟨j, hj⟩ := List.mem_iff_getElem?.1 hu
    rw [List.getElem?_take] at hj
    split at hj
    · rename_i hji
      obtain ⟨hj', rfl⟩ := List.getElem?_eq_some_iff.1 hj
      obtain ⟨hi, rfl⟩ := hiv
      have hne := List.pairwise_iff_getElem.1 hpair j i hj' hi hji
      have m1 := (mrgF_iff ha hb hc).1 (List.getElem_mem hj')
      have m2 := (mrgF_iff ha hb hc).1 (List.getElem_mem hi)
      exact ⟨fun h => hne (m2.2 _ m1.1 h), fun h => hne (m1.2 _ m2.1 h).symm⟩
    · cases hj
/-- When Merge succeeds, and what it yields. -/
theorem Merge_iff (a b : List Vv) : ∃ y f, multivalue_Merge_11 (a, b, ()) = some (y, f, ()) ∧ ((f.1 = 0 ∧ f = (0, 0, ()) ∧ okR a ∧ okR b ∧ noConf a b ∧ (mrgF a b).length ≤ 16 ∧ y = mrgF a b) ∨ (¬ f.1 = 0 ∧ ¬ (okR a ∧ okR b ∧ noConf a b ∧ (mrgF a b).length ≤ 16))) := by
  by_cases h : okR a ∧ okR b
  · obtain ⟨ha, hb⟩ := h
    have hl := keep_len a b ha hb
    have hok := keep_ok ha hb (by omega)
    obtain ⟨y, f, hM, hq⟩ := Merge_eq a b ha hb fun _ _ => ⟨_, sortOk_eq hok⟩
    refine ⟨y, f, hM, ?_⟩
    unfold mgQ at hq
    by_cases h1 : b.any (conf a) = true
    · rw [if_pos h1] at hq
      exact .inr ⟨by omega, fun h => by rw [(any_conf_iff ha).2 h.2.2.1] at h1; cases h1⟩
    · rw [if_neg h1] at hq
      by_cases h2 : (keepA a b ++ keepB a b).length > 16
      · rw [if_pos h2] at hq
        exact .inr ⟨by omega, fun h => by have := h.2.2.2; rw [mrgF_len] at this; omega⟩
      · rw [if_neg h2] at hq
        obtain ⟨rfl, s, hs, rfl⟩ := hq
        rw [sortOk_eq hok] at hs
        injection hs with hs
        subst hs
        exact .inl ⟨rfl, rfl, ha, hb, (any_conf_iff ha).1 (by simpa using h1), by rw [mrgF_len]; omega, rfl⟩
  · obtain ⟨y, f, h1, h2⟩ := Merge_bad a b (by
      by_cases ha : okR a
      · exact .inr fun hb => h ⟨ha, hb⟩
      · exact .inl ha)
    exact ⟨y, f, h1, .inr ⟨h2, fun hh => h ⟨hh.1, hh.2.1⟩⟩⟩
theorem mrgF_ext {a b c d : List Vv} (ha : okR a) (hb : okR b) (hc : okR c) (hd : okR d) (h : ∀ w, w ∈ mrgF a b ↔ w ∈ mrgF c d) : mrgF a b = mrgF c d := by
  refine sortF_ext (keep_ok ha hb (by have := keep_len a b ha hb; omega)) (keep_ok hc hd (by have := keep_len c d hc hd; omega)) fun w => ?_
  have := h w
  rw [mrgF_mem, mrgF_mem] at this
  rw [List.mem_append, List.mem_append]; exact this
theorem mrgF_comm {a b : List Vv} (ha : okR a) (hb : okR b) (hc : noConf a b) : mrgF a b = mrgF b a := by
  refine mrgF_ext ha hb hb ha fun w => ?_
  rw [mrgF_iff ha hb hc, mrgF_iff hb ha hc.symm]
  exact ⟨fun ⟨h1, h2⟩ => ⟨h1.symm, fun u hu => h2 u hu.symm⟩, fun ⟨h1, h2⟩ => ⟨h1.symm, fun u hu => h2 u hu.symm⟩⟩
theorem noConf_self {x : List Vv} (h : okR x) : noConf x x := fun u hu v hv e => by rw [okR_vecEq h hu hv e]
theorem sorted_self {x : List Vv} (h : okR x) : sortF x = x := by
  refine sortF_of ⟨by have := h.1; omega, fun u hu => (okR_vec h u hu).1, okR_pair h⟩ (List.Perm.refl _) ?_
  rw [List.pairwise_iff_getElem]
  intro i j hi hj hij
  have := okR_lt h i j _ _ (List.getElem?_eq_getElem hi) (List.getElem?_eq_getElem hj) hij
  simp only [leV, decide_eq_true_eq]; omega
theorem mrgF_self {x : List Vv} (h : okR x) : mrgF x x = x := by
  have hso : sortOk x := ⟨by have := h.1; omega, fun u hu => (okR_vec h u hu).1, okR_pair h⟩
  have : mrgF x x = sortF x := by
    refine sortF_ext (keep_ok h h (by have := keep_len x x h h; omega)) hso fun w => ?_
    have := mrgF_iff h h (noConf_self h) (w := w)
    rw [mrgF_mem] at this
    rw [List.mem_append, this]
    exact ⟨fun ⟨h1, _⟩ => h1.elim id id, fun hw => ⟨.inl hw, fun u hu hc => by rw [okR_cov h (hu.elim id id) hw hc]⟩⟩
  rw [this, sorted_self h]
theorem mrgF_left {a b c : List Vv} (ha : okR a) (hb : okR b) (hx : okR (mrgF a b)) (hc : okR c) (n1 : noConf a b) (n2 : noConf (mrgF a b) c) {w : Vv} :
    w ∈ mrgF (mrgF a b) c ↔ (w ∈ a ∨ w ∈ b ∨ w ∈ c) ∧ ∀ u, (u ∈ a ∨ u ∈ b ∨ u ∈ c) → Cov u.2.1 w.2.1 → u.2.1 = w.2.1 := by
  have l6 : ∀ u, (u ∈ a ∨ u ∈ b ∨ u ∈ c) → u.2.1.length = 6 := fun u hu => hu.elim (fun h => (okR_vec ha u h).1) fun h => h.elim (fun h => (okR_vec hb u h).1) fun h => (okR_vec hc u h).1
  rw [mrgF_iff hx hc n2]
  constructor
  · rintro ⟨h1, h2⟩
    have hwm : w ∈ a ∨ w ∈ b ∨ w ∈ c := h1.elim (fun h => (((mrgF_iff ha hb n1).1 h).1).elim .inl fun h => .inr (.inl h)) fun h => .inr (.inr h)
    refine ⟨hwm, fun u hu hcov => ?_⟩
    have inAB : (u ∈ a ∨ u ∈ b) → u.2.1 = w.2.1 := by
      intro hu
      obtain ⟨x0, hx0, hcx⟩ := mrgF_cov ha hb hu
      have hu6 := l6 u (hu.elim .inl fun h => .inr (.inl h))
      have hx6 := (okR_vec hx x0 hx0).1
      have e := h2 x0 (.inl hx0) (hcx.trans (by rw [hx6, hu6]) hcov)
      exact Cov.eq hu6 (l6 w hwm) hcov (by rw [← e]; exact hcx)
    rcases hu with hu | hu | hu
    · exact inAB (.inl hu)
    · exact inAB (.inr hu)
    · exact h2 u (.inr hu) hcov
  · rintro ⟨h1, h2⟩
    refine ⟨?_, fun u hu hcov => ?_⟩
    · rcases h1 with h | h | h
      · exact .inl ((mrgF_iff ha hb n1).2 ⟨.inl h, fun u hu => h2 u (hu.elim .inl fun h => .inr (.inl h))⟩)
      · exact .inl ((mrgF_iff ha hb n1).2 ⟨.inr h, fun u hu => h2 u (hu.elim .inl fun h => .inr (.inl h))⟩)
      · exact .inr h
    · refine h2 u ?_ hcov
      exact hu.elim (fun h => (((mrgF_iff ha hb n1).1 h).1).elim .inl fun h => .inr (.inl h)) fun h => .inr (.inr h)
theorem mrgF_assoc {a b c : List Vv} (ha : okR a) (hb : okR b) (hc : okR c) (n1 : noConf a b) (hx : okR (mrgF a b)) (n2 : noConf (mrgF a b) c) (n3 : noConf b c) (hv : okR (mrgF b c)) (n4 : noConf a (mrgF b c)) :
    mrgF (mrgF a b) c = mrgF a (mrgF b c) := by
  rw [mrgF_comm ha hv n4]
  refine mrgF_ext hx hc hv ha fun w => ?_
  rw [mrgF_left ha hb hx hc n1 n2, mrgF_left hb hc hv ha n3 n4.symm]
  have e : ∀ u : Vv, (u ∈ a ∨ u ∈ b ∨ u ∈ c) ↔ (u ∈ b ∨ u ∈ c ∨ u ∈ a) := fun u => ⟨fun h => by rcases h with h | h | h <;> simp [h], fun h => by rcases h with h | h | h <;> simp [h]⟩
  simp only [e]
theorem Semilattice_eq (a b c : List Vv) : changeforgelaw2_MultivalueSemilattice_4 (a, b, c, ()) = some (true, ()) := by
  obtain ⟨x, f, hM1, q1⟩ := Merge_iff a b
  obtain ⟨y, g, hM2, q2⟩ := Merge_iff b a
  unfold changeforgelaw2_MultivalueSemilattice_4
  simp only [hM1, hM2, Option.bind_some, first_eq]
  rcases q1 with ⟨f0, rfl, ha, hb, n1, l1, rfl⟩ | ⟨f0, hno⟩
  · have hcomm := mrgF_comm ha hb n1
    rcases q2 with ⟨g0, rfl, _, _, _, _, rfl⟩ | ⟨g0, hno⟩
    · have hx := mrgF_okR ha hb n1 (by rw [← mrgF_len]; exact l1)
      obtain ⟨z, h, hM3, q3⟩ := Merge_iff (mrgF a b) (mrgF a b)
      obtain ⟨u, i, hM4, q4⟩ := Merge_iff (mrgF a b) c
      obtain ⟨v, j, hM5, q5⟩ := Merge_iff b c
      obtain ⟨w, k, hM6, q6⟩ := Merge_iff a v
      have hself := mrgF_self hx
      have hz : h = (0, 0, ()) ∧ z = mrgF a b := by
        rcases q3 with ⟨_, rfl, _, _, _, _, rfl⟩ | ⟨_, hno⟩
        · exact ⟨rfl, hself⟩
        · exact absurd ⟨hx, hx, noConf_self hx, by rw [hself]; exact l1⟩ hno
      obtain ⟨rfl, rfl⟩ := hz
      have refl : ∀ l : List Vv, okR l → changeforgeequal_Values_15 (l, l, ()) = some (true, ()) := fun l hl => Values_refl l (by have := hl.1; omega) fun u hu => by have := (okR_vec hl u hu).1; omega
      have r1 := refl _ hx
      simp only [hM3, hM4, hM5, hM6, Option.bind_some, ← hcomm, hself, r1, bne_self_eq_false, Bool.false_eq_true, if_false, Bool.not_true]
      rcases q4 with ⟨i0, rfl, _, hc, n2, l2, rfl⟩ | ⟨i0, _⟩
      · rcases q5 with ⟨j0, rfl, _, _, n3, l3, rfl⟩ | ⟨j0, _⟩
        · have hv := mrgF_okR hb hc n3 (by rw [← mrgF_len]; exact l3)
          rcases q6 with ⟨k0, rfl, _, _, n4, l4, rfl⟩ | ⟨k0, _⟩
          · have hass := mrgF_assoc ha hb hc n1 hx n2 n3 hv n4
            have hr := refl _ (mrgF_okR hx hc n2 (by rw [← mrgF_len]; exact l2))
            rw [hass] at hr
            simp only [hass, hr, Option.bind_some, bne_self_eq_false, Bool.false_eq_true, if_false, if_true]
          · have : (k.1 != 0) = true := by simpa using k0
            simp [this]
        · have : (j.1 != 0) = true := by simpa using j0
          simp [this]
      · have : (i.1 != 0) = true := by simpa using i0
        simp [this]
    · exact absurd ⟨hb, ha, n1.symm, by rw [← hcomm]; exact l1⟩ hno
  · have h1 : (f.1 != 0) = true := by simpa using f0
    have h2 : (f.1 == 0) = false := by simpa using f0
    rcases q2 with ⟨g0, rfl, hb, ha, n1, l1, rfl⟩ | ⟨g0, _⟩
    · exact absurd ⟨ha, hb, n1.symm, by rw [mrgF_comm ha hb n1.symm]; exact l1⟩ hno
    · have h3 : (g.1 == 0) = false := by simpa using g0
      simp [h1, h2, h3]
end Go.Proofs.Ytoagphhldhpnmaa.F
end
section
set_option linter.unusedSimpArgs false
set_option linter.unusedVariables false
/- What the functions compute, to the fault: registers. -/
namespace Go.Proofs.Ytoagphhldhpnmaa.F
open Go Go.Proofs.Ytoagphhldhpnmaa.V

open Classical in
noncomputable def codeF (l : List Vv) (i : Nat) (v : Vv) : Int :=
  if v.1 < 0 ∨ v.1 > 1000000000 then 3
  else if v.2.1.length ≠ 6 then 9
  else if ¬ (∀ y ∈ v.2.1, 0 ≤ y ∧ y ≤ 1000000000) then 3
  else if (∀ y ∈ v.2.1, y = 0) ∨ (∃ u, 0 < i ∧ l[i - 1]? = some u ∧ 0 ≤ cmpL u.2.1 v.2.1) then 5
  else if ∃ u ∈ l.take i, Cov u.2.1 v.2.1 ∨ Cov v.2.1 u.2.1 then 19 else 0
theorem codeF_zero {l : List Vv} {i : Nat} {v : Vv} (h : codeF l i v = 0) : v.2.1.length = 6 := by
  unfold codeF at h
  split at h
  · cases h
  · split at h
    · cases h
    · rename_i h'; simpa using h'
open Classical in
theorem code_exact (l : List Vv) (i : Nat) (v : Vv) (hv : l[i]? = some v) (hi : i ≤ 1000000) (hl : ∀ u ∈ l.take i, u.2.1.length = 6) : multivalue_code_31 (l, (i : Int), ()) = some (codeF l i v, ()) := by
  obtain ⟨x, vec, ⟨⟩⟩ := v
  have hlt : i < l.length := (List.getElem?_eq_some_iff.1 hv).1
  unfold multivalue_code_31
  simp only [atC_val hv]
  by_cases h1 : x < 0
  · simp only [h1, decide_true, if_true]
    rw [codeF, if_pos (.inl h1)]
  · by_cases h2 : x > 1000000000
    · simp only [h1, h2, decide_true, decide_false, Bool.false_eq_true, if_false, if_true]
      rw [codeF, if_pos (.inr h2)]
    · by_cases h3 : vec.length = 6
      · have h3' : ((vec.length : Int) != 6) = false := by simp; omega
        simp only [h1, h2, h3', decide_false, Bool.false_eq_true, if_false]
        -- behind the entries
        have hc0 : codeF l i (x, vec, ()) = if ¬ (∀ y ∈ vec, 0 ≤ y ∧ y ≤ 1000000000) then 3 else if (∀ y ∈ vec, y = 0) ∨ (∃ u, 0 < i ∧ l[i - 1]? = some u ∧ 0 ≤ cmpL u.2.1 vec) then 5 else if ∃ u ∈ l.take i, Cov u.2.1 vec ∨ Cov vec u.2.1 then 19 else 0 := by
          rw [codeF, if_neg (by simp only; omega), if_neg (by simpa using h3)]
        suffices key : ∃ r : Int × Unit, _ = some r ∧ r.1 = codeF l i (x, vec, ()) from by
          obtain ⟨⟨c, ⟨⟩⟩, h, hq⟩ := key
          simp only at hq
          subst hq
          exact h
        refine loop_inv (fun s => ∃ k : Nat, s.1 = (k : Int) ∧ k ≤ vec.length ∧ ∀ y ∈ vec.take k, 0 ≤ y ∧ y ≤ 1000000000) (fun s => vec.length - s.1.toNat) (fun r : Int × Unit => r.1 = codeF l i (x, vec, ())) ?_ (s := (0, ())) ⟨0, rfl, by omega, fun y hy => by simp at hy⟩
        rintro ⟨a1, ⟨⟩⟩ ⟨k, g1, hk, hall⟩
        simp only at g1
        subst g1
        by_cases hkl : k < vec.length
        · have g2 : ((k : Int) < (vec.length : Int)) := by omega
          have hg : vec[k]? = some vec[k] := List.getElem?_eq_getElem hkl
          have hmem := List.getElem_mem hkl
          have ht : vec.take (k + 1) = vec.take k ++ [vec[k]] := by rw [List.take_add_one, hg]; rfl
          generalize vec[k] = y at hg hmem ht
          simp only [g2, decide_true, if_true, atC_val hg]
          by_cases h4 : y < 0
          · right
            simp only [h4, decide_true, if_true]
            refine ⟨_, rfl, ?_⟩
            rw [hc0, if_pos (fun h => by have := (h y hmem).1; omega)]
          · by_cases h5 : y > 1000000000
            · right
              simp only [h4, h5, decide_true, decide_false, Bool.false_eq_true, if_false, if_true]
              refine ⟨_, rfl, ?_⟩
              rw [hc0, if_pos (fun h => by have := (h y hmem).2; omega)]
            · left
              refine ⟨((k + 1 : Nat), ()), ?_, ⟨k + 1, rfl, hkl, fun z hz => ?_⟩, by simp; omega⟩
              · simp only [h4, h5, decide_false, Bool.false_eq_true, if_false, wrap_i64 (n := (k : Int) + 1) (by omega) (by omega)]; rfl
              · rw [ht, List.mem_append, List.mem_singleton] at hz
                rcases hz with hz | rfl
                · exact hall z hz
                · omega
        · right
          have g2 : ¬ ((k : Int) < (vec.length : Int)) := by omega
          rw [List.take_of_length_le (by omega)] at hall
          rw [if_neg (fun h => h hall)] at hc0
          obtain ⟨m, hm, hmz⟩ := Max_eq vec (fun e => by rw [e] at h3; simp at h3) (by omega) fun y hy => (hall y hy).1
          simp only [g2, decide_false, Bool.false_eq_true, if_false, hm, Option.bind_some]
          by_cases h4 : m = 0
          · simp only [h4, BEq.rfl, if_true]
            refine ⟨_, rfl, ?_⟩
            rw [hc0, if_pos (.inl (hmz.1 h4))]
          · have h4' : (m == 0) = false := by simpa using h4
            simp only [h4', Bool.false_eq_true, if_false]
            have hnz : ¬ ∀ x ∈ vec, x = 0 := fun h => h4 (hmz.2 h)
            -- the row ahead
            have rest : (¬ ∃ u, 0 < i ∧ l[i - 1]? = some u ∧ 0 ≤ cmpL u.2.1 vec) → ∃ r : Int × Unit, (if 0 ≤ (0 : Int) ∧ (0 : Int) ≤ (i : Int) ∧ (i : Int) ≤ (l.length : Int) then
                loopC (fun (s1 : Int × Unit) => if decide (s1.1 < ((List.drop (Int.toNat (0 : Int)) (List.take (Int.toNat (i : Int)) l)).length : Int)) = true then
                  atC (List.drop (Int.toNat (0 : Int)) (List.take (Int.toNat (i : Int)) l)) s1.1 fun y15 =>
                    Option.bind (multivalue_covers_21 (y15.2.1, vec, ())) fun r19 => if r19.1 = true then (if true = true then some (Sum.inr ((19 : Int), ())) else some (.inl (IntKind.wrap .i64 (s1.1 + 1), ()))) else Option.bind (multivalue_covers_21 (vec, y15.2.1, ())) fun r20 => if r20.1 = true then some (.inr (19, ())) else some (.inl (IntKind.wrap .i64 (s1.1 + 1), ()))
                  else Option.map .inr (some ((0 : Int), ()))) (0, ())
                else none) = some r ∧ r.1 = codeF l i (x, vec, ()) := by
              intro hprev
              rw [if_neg (fun h => h.elim hnz hprev)] at hc0
              rw [if_pos (by omega)]
              simp only [Int.toNat_natCast, Int.toNat_zero, List.drop_zero]
              have hti : (l.take i).length = i := by rw [List.length_take]; omega
              refine loop_inv (fun s => ∃ k : Nat, s.1 = (k : Int) ∧ k ≤ i ∧ ∀ u ∈ l.take k, ¬ Cov u.2.1 vec ∧ ¬ Cov vec u.2.1) (fun s => i - s.1.toNat) (fun r : Int × Unit => r.1 = codeF l i (x, vec, ())) ?_ (s := (0, ())) ⟨0, rfl, by omega, fun y hy => by simp at hy⟩
              rintro ⟨a1, ⟨⟩⟩ ⟨k, g1, hk, hcov⟩
              simp only at g1
              subst g1
              by_cases hkl : k < i
              · have g2 : ((k : Int) < (((l.take i).length : Nat) : Int)) := by omega
                have hg : (l.take i)[k]? = some l[k] := by rw [List.getElem?_take, if_pos hkl, List.getElem?_eq_getElem]
                have hmem : l[k] ∈ l.take i := List.mem_of_getElem? hg
                have ht : l.take (k + 1) = l.take k ++ [l[k]] := by rw [List.take_add_one, List.getElem?_eq_getElem (by omega)]; rfl
                generalize l[k] = u at hg hmem ht
                have hul := hl u hmem
                simp only [g2, decide_true, if_true, atC_val hg, covers_eq u.2.1 vec (by omega) (by omega), covers_eq vec u.2.1 (by omega) (by omega), Option.bind_some, decide_eq_true_eq]
                by_cases c1 : Cov u.2.1 vec
                · right
                  rw [if_pos c1]
                  refine ⟨_, rfl, ?_⟩
                  rw [hc0, if_pos ⟨u, hmem, .inl c1⟩]
                · rw [if_neg c1]
                  by_cases c2 : Cov vec u.2.1
                  · right
                    rw [if_pos c2]
                    refine ⟨_, rfl, ?_⟩
                    rw [hc0, if_pos ⟨u, hmem, .inr c2⟩]
                  · left
                    rw [if_neg c2]
                    refine ⟨((k + 1 : Nat), ()), ?_, ⟨k + 1, rfl, hkl, fun z hz => ?_⟩, by simp; omega⟩
                    · rw [wrap_i64 (n := (k : Int) + 1) (by omega) (by omega)]; rfl
                    · rw [ht, List.mem_append, List.mem_singleton] at hz
                      rcases hz with hz | rfl
                      · exact hcov z hz
                      · exact ⟨c1, c2⟩
              · right
                have g2 : ¬ ((k : Int) < (((l.take i).length : Nat) : Int)) := by omega
                simp only [g2, decide_false, Bool.false_eq_true, if_false]
                refine ⟨_, rfl, ?_⟩
                rw [show k = i from by omega] at hcov
                rw [hc0, if_neg (fun ⟨u, hu, h⟩ => h.elim (hcov u hu).1 (hcov u hu).2)]
            by_cases h5 : (i : Int) > 0
            · have hw : IntKind.wrap .i64 ((i : Int) - 1) = ((i - 1 : Nat) : Int) := by rw [wrap_i64 (by omega) (by omega)]; omega
              obtain ⟨u, hu⟩ : ∃ u, l[i - 1]? = some u := ⟨_, List.getElem?_eq_getElem (by omega)⟩
              have hmem : u ∈ l.take i := List.mem_of_getElem? (i := i - 1) (by rw [List.getElem?_take, if_pos (by omega)]; exact hu)
              simp only [h5, decide_true, if_true, hw, atC_val hu, Compare_eq u.2.1 vec (by have := hl u hmem; omega), Option.bind_some]
              by_cases h6 : cmpL u.2.1 vec ≥ 0
              · simp only [h6, decide_true, if_true]
                refine ⟨_, rfl, ?_⟩
                rw [hc0, if_pos (.inr ⟨u, by omega, hu, h6⟩)]
              · obtain ⟨r, hr, hq⟩ := rest fun ⟨u', _, hu', hle⟩ => by rw [hu] at hu'; injection hu' with hu'; subst hu'; omega
                simp only [h6, decide_false, Bool.false_eq_true, if_false]
                refine ⟨r, ?_, hq⟩
                have e := congrArg (Option.map (Sum.inr (α := Int × Unit))) hr
                exact e
            · obtain ⟨r, hr, hq⟩ := rest fun ⟨u', h', _⟩ => by omega
              simp only [h5, decide_false, Bool.false_eq_true, if_false]
              refine ⟨r, ?_, hq⟩
              have e := congrArg (Option.map (Sum.inr (α := Int × Unit))) hr
              exact e
      · have h3' : ((vec.length : Int) != 6) = true := by simp; omega
        simp only [h1, h2, h3', decide_false, Bool.false_eq_true, if_false, if_true]
        rw [codeF, if_neg (by simp only; omega), if_pos h3]
noncomputable def valfrom (l : List Vv) : Nat → Nat → Fault
  | 0, _ => (0, 0, ())
  | n + 1, i => match l[i]? with | some v => if codeF l i v ≠ 0 then (codeF l i v, (i : Int), ()) else valfrom l n (i + 1) | none => (0, 0, ())
noncomputable def valF (l : List Vv) : Fault := if l.length > 16 then (2, -1, ()) else valfrom l l.length 0
theorem Validate_exact (l : List Vv) : multivalue_Validate_13 (l, ()) = some (valF l, ()) := by
  unfold multivalue_Validate_13 valF
  by_cases hl : l.length > 16
  · have : (l.length : Int) > 16 := by omega
    simp [hl, this]
  · have h1 : ¬ (l.length : Int) > 16 := by omega
    simp only [h1, hl, decide_false, Bool.false_eq_true, if_false]
    refine (loop_val (fun s => ∃ k : Nat, s.1 = (k : Int) ∧ k ≤ l.length ∧ ∀ j v, j < k → l[j]? = some v → codeF l j v = 0) (fun s => l.length - s.1.toNat) (fun s => (valfrom l (l.length - s.1.toNat) s.1.toNat, ())) ?_ (s := (0, ())) ⟨0, rfl, by omega, fun j v hj => by omega⟩)
    rintro ⟨a1, ⟨⟩⟩ ⟨k, g1, hk, hall⟩
    simp only at g1
    subst g1
    by_cases hkl : k < l.length
    · have g2 : ((k : Int) < (l.length : Int)) := by omega
      have hg : l[k]? = some l[k] := List.getElem?_eq_getElem hkl
      generalize l[k] = v at hg
      have hc := code_exact l k v hg (by omega) fun u hu => by
        obtain ⟨j, hj⟩ := List.mem_iff_getElem?.1 hu
        rw [List.getElem?_take] at hj
        split at hj
        · rename_i hjk; exact codeF_zero (hall j u hjk hj)
        · cases hj
      have hv : valfrom l (l.length - k) k = if codeF l k v ≠ 0 then (codeF l k v, (k : Int), ()) else valfrom l (l.length - (k + 1)) (k + 1) := by
        rw [show l.length - k = (l.length - (k + 1)) + 1 by omega, valfrom, hg]
      simp only [g2, decide_true, if_true, hc, Option.bind_some, Int.toNat_natCast, hv]
      by_cases hz : codeF l k v = 0
      · left
        have hz' : (codeF l k v != 0) = false := by simpa using hz
        refine ⟨((k + 1 : Nat), ()), by simp only [hz', Bool.false_eq_true, if_false]; rw [wrap_i64 (n := (k : Int) + 1) (by omega) (by omega)]; rfl, ⟨k + 1, rfl, hkl, fun j w hj hw => ?_⟩, by simp [hz], by simp; omega⟩
        by_cases e : j = k
        · subst e; rw [hg] at hw; injection hw with hw; subst hw; exact hz
        · exact hall j w (by omega) hw
      · right
        have hz' : (codeF l k v != 0) = true := by simpa using hz
        simp only [hz', if_true, ne_eq, hz, not_false_eq_true]
    · right
      have g2 : ¬ ((k : Int) < (l.length : Int)) := by omega
      simp only [g2, decide_false, Bool.false_eq_true, if_false, Int.toNat_natCast, show l.length - k = 0 by omega, valfrom]
      rfl
end Go.Proofs.Ytoagphhldhpnmaa.F
end
section
set_option linter.unusedSimpArgs false
set_option linter.unusedVariables false
/- What the reference computes: registers. -/
namespace Go.Proofs.Ytoagphhldhpnmaa.F
open Go Go.Proofs.Ytoagphhldhpnmaa.V

theorem valF_cases (l : List Vv) : (valF l = (0, 0, ()) ∧ okR l) ∨ (¬ (valF l).1 = 0 ∧ ¬ okR l) := by
  obtain ⟨f, hf, hc⟩ := Validate_eq l
  rw [Validate_exact] at hf
  injection hf with hf
  injection hf with hf _
  subst hf
  exact hc
theorem AtV_eq (a b : Int) : changeforgeref1_At_18 (a, b, ()) = some ((a, b, ()), ()) := rfl
theorem less_eq (a b : List Int) (h : a.length = b.length) (hl : a.length ≤ 1000000) : changeforgeref2_less_30 (a, b, ()) = some (decide (cmpL a b < 0), ()) := by
  unfold changeforgeref2_less_30
  simp only []
  refine (loop_val (fun s => ∃ i : Nat, s.1 = (i : Int) ∧ i ≤ a.length ∧ cmpL a b = cmpL (a.drop i) (b.drop i)) (fun s => a.length - s.1.toNat) (fun s => (decide (cmpL a b < 0), ())) ?_ (s := (0, ())) ⟨0, rfl, by omega, rfl⟩)
  rintro ⟨a1, ⟨⟩⟩ ⟨i, h1, hi, hc⟩
  simp only at h1
  subst h1
  by_cases hlt : i < a.length
  · have h2 : ((i : Int) < (a.length : Int)) := by omega
    have hg : a[i]? = some a[i] := List.getElem?_eq_getElem hlt
    have hd : a.drop i = a[i] :: a.drop (i + 1) := List.drop_eq_getElem_cons hlt
    have hlt' : i < b.length := by omega
    have hg' : b[i]? = some b[i] := List.getElem?_eq_getElem hlt'
    have hd' : b.drop i = b[i] :: b.drop (i + 1) := List.drop_eq_getElem_cons hlt'
    generalize a[i] = x at hg hd
    generalize b[i] = y at hg' hd'
    rw [hd, hd'] at hc
    simp only [cmpL] at hc
    simp only [h2, decide_true, if_true, atC_val hg, atC_val hg']
    by_cases hxy : x = y
    · subst hxy
      left
      simp only [Int.lt_irrefl, if_false] at hc
      refine ⟨((i + 1 : Nat), ()), ?_, ⟨i + 1, rfl, hlt, hc⟩, trivial, by simp; omega⟩
      simp only [bne_self_eq_false, Bool.false_eq_true, if_false, wrap_i64 (n := (i : Int) + 1) (by omega) (by omega)]
      rfl
    · right
      have hne : (x != y) = true := by simpa using hxy
      simp only [hne, if_true]
      by_cases h3 : x < y
      · rw [if_pos h3] at hc
        simp [hc, h3]
      · rw [if_neg h3, if_pos (by omega)] at hc
        simp [hc, h3]
  · right
    have h2 : ¬ ((i : Int) < (a.length : Int)) := by omega
    rw [List.drop_eq_nil_of_le (show a.length ≤ i from by omega), List.drop_eq_nil_of_le (show b.length ≤ i from by omega)] at hc
    simp only [h2, decide_false, Bool.false_eq_true, if_false, hc, cmpL]
    rfl
open Classical in
theorem ValuesFault_eq (l : List Vv) : changeforgeref2_ValuesFault_14 (l, ()) = some (valF l, ()) := by
  unfold changeforgeref2_ValuesFault_14 valF
  by_cases hl : l.length > 16
  · have : (l.length : Int) > 16 := by omega
    simp [hl, this, AtV_eq]
  · have h1 : ¬ (l.length : Int) > 16 := by omega
    simp only [h1, hl, decide_false, Bool.false_eq_true, if_false, AtV_eq, Option.bind_some]
    refine (loop_val (fun s => ∃ k : Nat, s.1 = (k : Int) ∧ k ≤ l.length ∧ ∀ j v, j < k → l[j]? = some v → codeF l j v = 0) (fun s => l.length - s.1.toNat) (fun s => (valfrom l (l.length - s.1.toNat) s.1.toNat, ())) ?_ (s := (0, ())) ⟨0, rfl, by omega, fun j v hj => by omega⟩)
    rintro ⟨a1, ⟨⟩⟩ ⟨i, g1, hi, hall⟩
    simp only at g1
    subst g1
    by_cases hil : i < l.length
    · have g2 : ((i : Int) < (l.length : Int)) := by omega
      have hv0 : l[i]? = some l[i] := List.getElem?_eq_getElem hil
      generalize l[i] = v at hv0
      have hu6 : ∀ u ∈ l.take i, u.2.1.length = 6 := fun u hu => by
        obtain ⟨j, hj⟩ := List.mem_iff_getElem?.1 hu
        rw [List.getElem?_take] at hj
        split at hj
        · rename_i hjk; exact codeF_zero (hall j u hjk hj)
        · cases hj
      have hvf : valfrom l (l.length - i) i = if codeF l i v ≠ 0 then (codeF l i v, (i : Int), ()) else valfrom l (l.length - (i + 1)) (i + 1) := by
        rw [show l.length - i = (l.length - (i + 1)) + 1 by omega, valfrom, hv0]
      have hnext : codeF l i v = 0 → ∀ j w, j < i + 1 → l[j]? = some w → codeF l j w = 0 := by
        intro hz j w hj hw
        by_cases e : j = i
        · subst e; rw [hv0] at hw; injection hw with hw; subst hw; exact hz
        · exact hall j w (by omega) hw
      obtain ⟨x, vec, ⟨⟩⟩ := v
      simp only [g2, decide_true, if_true, atC_val hv0, Int.toNat_natCast, hvf]
      by_cases c1 : x < 0
      · right
        have hc : codeF l i (x, vec, ()) = 3 := by rw [codeF, if_pos (.inl c1)]
        simp [c1, hc]
      · by_cases c2 : x > 1000000000
        · right
          have hc : codeF l i (x, vec, ()) = 3 := by rw [codeF, if_pos (.inr c2)]
          simp [c1, c2, hc]
        · by_cases c3 : vec.length = 6
          · have c3' : ((vec.length : Int) != 6) = false := by simp; omega
            have hc0 : codeF l i (x, vec, ()) = if ¬ (∀ y ∈ vec, 0 ≤ y ∧ y ≤ 1000000000) then 3 else if (∀ y ∈ vec, y = 0) ∨ (∃ u, 0 < i ∧ l[i - 1]? = some u ∧ 0 ≤ cmpL u.2.1 vec) then 5 else if ∃ u ∈ l.take i, Cov u.2.1 vec ∨ Cov vec u.2.1 then 19 else 0 := by
              rw [codeF, if_neg (by simp only; omega), if_neg (by simpa using c3)]
            simp only [c1, c2, c3', decide_false, Bool.false_eq_true, if_false]
            -- the result of the round
            generalize hR : (if codeF l i (x, vec, ()) ≠ 0 then (codeF l i (x, vec, ()), (i : Int), ()) else valfrom l (l.length - (i + 1)) (i + 1)) = Rr
            have key : ∀ (o : Option ((Int × Unit) ⊕ (Fault × Unit))), (o = some (if codeF l i (x, vec, ()) ≠ 0 then .inr ((codeF l i (x, vec, ()), (i : Int), ()), ()) else .inl (((i + 1 : Nat) : Int), ()))) →
                (∃ s' : Int × Unit, o = some (.inl s') ∧ (∃ k : Nat, s'.1 = (k : Int) ∧ k ≤ l.length ∧ ∀ j w, j < k → l[j]? = some w → codeF l j w = 0) ∧ (valfrom l (l.length - s'.1.toNat) s'.1.toNat, ()) = (Rr, ()) ∧ l.length - s'.1.toNat < l.length - i) ∨ o = some (.inr (Rr, ())) := by
              intro o ho
              subst ho
              by_cases hz : codeF l i (x, vec, ()) = 0
              · left
                refine ⟨(((i + 1 : Nat) : Int), ()), by simp [hz], ⟨i + 1, rfl, hil, hnext hz⟩, ?_, by simp only [Int.toNat_natCast]; omega⟩
                rw [← hR]; simp [hz]
              · right
                rw [← hR]; simp [hz]
            apply key
            clear key hR
            refine (loop_val (fun s => s.1 = (i : Int) ∧ s.2.2.2.2.1 = vec ∧ ∃ k : Nat, s.2.2.1 = (k : Int) ∧ k ≤ vec.length ∧ s.2.1 = decide (∀ y ∈ vec.take k, y = 0) ∧ ∀ y ∈ vec.take k, 0 ≤ y ∧ y ≤ 1000000000) (fun s => vec.length - s.2.2.1.toNat) (fun _ => if codeF l i (x, vec, ()) ≠ 0 then Sum.inr ((codeF l i (x, vec, ()), (i : Int), ()), ()) else Sum.inl (((i + 1 : Nat) : Int), ())) ?_ (s := ((i : Int), true, 0, x, vec, ())) ⟨rfl, rfl, 0, rfl, by omega, by simp, by simp⟩)
            rintro ⟨b1, b2, b3, b4, b5, ⟨⟩⟩ ⟨e1, e2, k, e3, hk, e4, e5⟩
            simp only at e1 e2 e3 e4 e5
            subst e1 e2 e3
            by_cases hkl : k < b5.length
            · have q3 : ((k : Int) < (b5.length : Int)) := by omega
              have hg : b5[k]? = some b5[k] := List.getElem?_eq_getElem hkl
              have hmem := List.getElem_mem hkl
              have ht : b5.take (k + 1) = b5.take k ++ [b5[k]] := by rw [List.take_add_one, hg]; rfl
              generalize b5[k] = y at hg hmem ht
              simp only [q3, decide_true, if_true, atC_val hg]
              by_cases c4 : y < 0
              · right
                have hc : codeF l i (x, b5, ()) = 3 := by rw [hc0, if_pos (fun h => by have := (h y hmem).1; omega)]
                simp [c4, hc]
              · by_cases c5 : y > 1000000000
                · right
                  have hc : codeF l i (x, b5, ()) = 3 := by rw [hc0, if_pos (fun h => by have := (h y hmem).2; omega)]
                  simp [c4, c5, hc]
                · left
                  refine ⟨((i : Int), decide (∀ z ∈ b5.take (k + 1), z = 0), ((k + 1 : Nat) : Int), b4, b5, ()), ?_, ⟨rfl, rfl, k + 1, rfl, hkl, by dsimp only; congr, fun z hz => ?_⟩, trivial, by simp; omega⟩
                  · have hz : decide (∀ z ∈ b5.take (k + 1), z = 0) = (b2 && decide (y = 0)) := by
                      rw [ht, e4, Bool.eq_iff_iff]
                      simp only [List.mem_append, List.mem_singleton, decide_eq_true_eq, Bool.and_eq_true]
                      exact ⟨fun h => ⟨fun z hz => h z (.inl hz), h y (.inr rfl)⟩, fun ⟨h1, h2⟩ z hz => hz.elim (h1 z) fun e => by rw [e]; exact h2⟩
                    rw [hz]
                    simp only [c4, c5, decide_false, Bool.false_eq_true, if_false, wrap_i64 (n := (k : Int) + 1) (by omega) (by omega)]
                    have hy0 : (y == 0) = decide (y = 0) := by by_cases h : y = 0 <;> simp [h]
                    cases b2 with
                    | true => simp [hy0]
                    | false => simp
                  · rw [ht, List.mem_append, List.mem_singleton] at hz
                    rcases hz with hz | rfl
                    · exact e5 z hz
                    · omega
            · right
              have q3 : ¬ ((k : Int) < (b5.length : Int)) := by omega
              rw [List.take_of_length_le (by omega)] at e4 e5
              rw [if_neg (fun h => h e5)] at hc0
              simp only [q3, decide_false, Bool.false_eq_true, if_false]
              suffices key : _ = some (if codeF l i (x, b5, ()) ≠ 0 then Sum.inr ((codeF l i (x, b5, ()), (i : Int), ()), ()) else Sum.inl (((i + 1 : Nat) : Int), ())) from congrArg (Option.map Sum.inr) key
              -- behind the row ahead
              have rest : (¬ ((∀ y ∈ b5, y = 0) ∨ ∃ u, 0 < i ∧ l[i - 1]? = some u ∧ 0 ≤ cmpL u.2.1 b5)) → loopC (fun (s4 : Int × Int × Int × List Int × Unit) =>
                  if decide (s4.2.1 < s4.1) = true then
                   atC l s4.2.1 fun y29 =>
                    Option.bind (changeforgeref2_Relation_17 (s4.2.2.2.1, y29.2.1, ())) fun r31 =>
                     if r31.1 = true then (if true = true then some (.inr (.inr ((19, s4.1, ()), ()))) else some (.inl (s4.1, IntKind.wrap .i64 (s4.2.1 + 1), s4.2.2.1, s4.2.2.2.1, ())))
                     else (if r31.2.1 = true then some (.inr (.inr ((19, s4.1, ()), ()))) else some (.inl (s4.1, IntKind.wrap .i64 (s4.2.1 + 1), s4.2.2.1, s4.2.2.2.1, ())))
                  else Option.map .inr (some (.inl (IntKind.wrap .i64 (s4.1 + 1), ()))))
                  ((i : Int), 0, b4, b5, ()) = some (if codeF l i (x, b5, ()) ≠ 0 then (Sum.inr ((codeF l i (x, b5, ()), (i : Int), ()), ()) : (Int × Unit) ⊕ (Fault × Unit)) else Sum.inl (((i + 1 : Nat) : Int), ())) := by
                intro hno
                rw [if_neg hno] at hc0
                have hti : (l.take i).length = i := by rw [List.length_take]; omega
                refine (loop_val (fun s => s.1 = (i : Int) ∧ s.2.2.2.1 = b5 ∧ ∃ m : Nat, s.2.1 = (m : Int) ∧ m ≤ i ∧ ∀ u ∈ l.take m, ¬ Cov u.2.1 b5 ∧ ¬ Cov b5 u.2.1) (fun s => i - s.2.1.toNat) (fun _ => if codeF l i (x, b5, ()) ≠ 0 then Sum.inr ((codeF l i (x, b5, ()), (i : Int), ()), ()) else Sum.inl (((i + 1 : Nat) : Int), ())) ?_ (s := ((i : Int), 0, b4, b5, ())) ⟨rfl, rfl, 0, rfl, by omega, by simp⟩)
                rintro ⟨d1, d2, d3, d4, ⟨⟩⟩ ⟨f1, f2, m, f3, hm, f4⟩
                simp only at f1 f2 f3
                subst f1 f2 f3
                by_cases hml : m < i
                · have q4 : ((m : Int) < (i : Int)) := by omega
                  have hg : l[m]? = some l[m] := List.getElem?_eq_getElem (by omega)
                  have ht : l.take (m + 1) = l.take m ++ [l[m]] := by rw [List.take_add_one, hg]; rfl
                  have hmem : l[m] ∈ l.take i := List.mem_of_getElem? (i := m) (by rw [List.getElem?_take, if_pos hml]; exact hg)
                  generalize l[m] = u at hg ht hmem
                  have h6 := hu6 u hmem
                  simp only [q4, decide_true, if_true, atC_val hg, Relation_eq d4 u.2.1 (by omega) (by omega), Option.bind_some, decide_eq_true_eq]
                  by_cases k1 : Cov d4 u.2.1
                  · right
                    have hc : codeF l i (x, d4, ()) = 19 := by rw [hc0, if_pos ⟨u, hmem, .inr k1⟩]
                    simp [k1, hc]
                  · by_cases k2 : Cov u.2.1 d4
                    · right
                      have hc : codeF l i (x, d4, ()) = 19 := by rw [hc0, if_pos ⟨u, hmem, .inl k2⟩]
                      simp [k1, k2, hc]
                    · left
                      refine ⟨((i : Int), ((m + 1 : Nat) : Int), d3, d4, ()), ?_, ⟨rfl, rfl, m + 1, rfl, hml, fun w hw => ?_⟩, trivial, by simp; omega⟩
                      · simp only [k1, k2, if_false, wrap_i64 (n := (m : Int) + 1) (by omega) (by omega)]; rfl
                      · rw [ht, List.mem_append, List.mem_singleton] at hw
                        rcases hw with hw | rfl
                        · exact f4 w hw
                        · exact ⟨k2, k1⟩
                · right
                  have q4 : ¬ ((m : Int) < (i : Int)) := by omega
                  rw [show m = i by omega] at f4
                  have hc : codeF l i (x, d4, ()) = 0 := by rw [hc0, if_neg (fun ⟨u, hu, h⟩ => h.elim (f4 u hu).1 (f4 u hu).2)]
                  simp only [q4, decide_false, Bool.false_eq_true, if_false, hc, wrap_i64 (n := (i : Int) + 1) (by omega) (by omega)]
                  rfl
              by_cases hz : ∀ y ∈ b5, y = 0
              · have hb2 : b2 = true := by rw [e4]; simpa using hz
                have hc : codeF l i (x, b5, ()) = 5 := by rw [hc0, if_pos (.inl hz)]
                simp [hb2, hc]
              · have hb2 : b2 = false := by rw [e4]; simpa using hz
                simp only [hb2, Bool.false_eq_true, if_false]
                by_cases h5 : (i : Int) > 0
                · have hw : IntKind.wrap .i64 ((i : Int) - 1) = ((i - 1 : Nat) : Int) := by rw [wrap_i64 (by omega) (by omega)]; omega
                  obtain ⟨u, hu⟩ : ∃ u, l[i - 1]? = some u := ⟨_, List.getElem?_eq_getElem (by omega)⟩
                  have hmem : u ∈ l.take i := List.mem_of_getElem? (i := i - 1) (by rw [List.getElem?_take, if_pos (by omega)]; exact hu)
                  have h6 := hu6 u hmem
                  simp only [h5, decide_true, if_true, hw, atC_val hu, less_eq u.2.1 b5 (by omega) (by omega), Option.bind_some]
                  by_cases h7 : cmpL u.2.1 b5 < 0
                  · simp only [h7, decide_true, Bool.not_true, Bool.false_eq_true, if_false]
                    exact rest fun h => h.elim hz fun ⟨u', _, hu', hle⟩ => by rw [hu] at hu'; injection hu' with hu'; subst hu'; omega
                  · have hc : codeF l i (x, b5, ()) = 5 := by rw [hc0, if_pos (.inr ⟨u, by omega, hu, by omega⟩)]
                    simp [h7, hc]
                · simp only [h5, decide_false, Bool.false_eq_true, if_false]
                  exact rest fun h => h.elim hz fun ⟨u', h', _⟩ => by omega
          · right
            have c3' : ((vec.length : Int) != 6) = true := by simp; omega
            have hc : codeF l i (x, vec, ()) = 9 := by rw [codeF, if_neg (by simp only; omega), if_pos c3]
            simp [c1, c2, c3', hc]
    · right
      have g2 : ¬ ((i : Int) < (l.length : Int)) := by omega
      simp only [g2, decide_false, Bool.false_eq_true, if_false, Int.toNat_natCast, show l.length - i = 0 by omega, valfrom]
      rfl
end Go.Proofs.Ytoagphhldhpnmaa.F
end
section
set_option linter.unusedSimpArgs false
set_option linter.unusedVariables false
/- What writing computes, to the fault, in the program and in the reference. -/
namespace Go.Proofs.Ytoagphhldhpnmaa.F
open Go Go.Proofs.Ytoagphhldhpnmaa.V

open Classical in
noncomputable def writeF (l : List Vv) (r v : Int) : List Vv × Fault × Unit :=
  if ¬ (valF l).1 = 0 then ([], valF l, ())
  else if r < 0 ∨ r ≥ 6 then ([], (3, -2, ()), ())
  else if v < 0 ∨ v > 1000000000 then ([], (3, -3, ()), ())
  else if (wF l).getD r.toNat 0 = 1000000000 then ([], (10, -1, ()), ())
  else ([(v, (wF l).set r.toNat ((wF l).getD r.toNat 0 + 1), ())], (0, 0, ()), ())
open Classical in
theorem Write_exact (l : List Vv) (r v : Int) : multivalue_Write_9 (l, r, v, ()) = some (writeF l r v) := by
  have hf := Validate_exact l
  have hcase := valF_cases l
  unfold writeF
  generalize valF l = f at hf hcase
  unfold multivalue_Write_9
  simp only [hf, Option.bind_some]
  rcases hcase with ⟨rfl, hok⟩ | ⟨hne, _⟩
  · simp only [BEq.rfl, Bool.and_self, Bool.not_true, Bool.false_eq_true, if_false]
    by_cases h1 : r < 0
    · simp only [h1, decide_true, if_true]
      simp
    · by_cases h2 : r ≥ 6
      · simp only [h1, h2, decide_true, decide_false, Bool.false_eq_true, if_false, if_true]
        simp
      · by_cases h3 : v < 0
        · simp only [h1, h2, h3, decide_true, decide_false, Bool.false_eq_true, if_false, if_true]
          simp
        · by_cases h4 : v > 1000000000
          · simp only [h1, h2, h3, h4, decide_true, decide_false, Bool.false_eq_true, if_false, if_true]
            simp
          · simp only [h1, h2, h3, h4, decide_false, Bool.false_eq_true, if_false]
            rw [if_pos (by omega)]
            have hrep : List.replicate (Int.toNat 6) (0 : Int) = wF [] := rfl
            rw [hrep]
            obtain ⟨k, rfl⟩ := Int.eq_ofNat_of_zero_le (show 0 ≤ r from by omega)
            have hall := okR_vec hok
            obtain ⟨hwok, _⟩ := wF_ok l hall
            simp only [not_true, if_false, false_or, Int.toNat_natCast]
            suffices key : ∃ r : List Vv × Fault × Unit, _ = some r ∧ r = (if (wF l).getD k 0 = 1000000000 then ([], (10, -1, ()), ()) else ([(v, (wF l).set k ((wF l).getD k 0 + 1), ())], (0, 0, ()), ())) from by
              obtain ⟨r, h, hq⟩ := key; rw [← hq]; exact h
            refine loop_inv (fun s => ∃ i : Nat, s.2.1 = (i : Int) ∧ i ≤ l.length ∧ s.1 = wF (l.take i)) (fun s => l.length - s.2.1.toNat) _ ?_ (s := (wF [], 0, ())) ⟨0, rfl, by omega, rfl⟩
            rintro ⟨w, a2, ⟨⟩⟩ ⟨i, g1, hi, g2⟩
            simp only at g1 g2
            subst g1 g2
            have hl16 := hok.1
            by_cases hlt : i < l.length
            · left
              have q2 : ((i : Int) < (l.length : Int)) := by omega
              have hg : l[i]? = some l[i] := List.getElem?_eq_getElem hlt
              have hu := hall _ (List.getElem_mem hlt)
              have ht : l.take (i + 1) = l.take i ++ [l[i]] := by rw [List.take_add_one, hg]; rfl
              generalize l[i] = u at hg hu ht
              obtain ⟨ux, uv, ⟨⟩⟩ := u
              simp only at hu
              have hwi := (wF_ok (l.take i) fun x hx => hall x (List.mem_of_mem_take hx)).1
              refine ⟨(wF (l.take (i + 1)), ((i + 1 : Nat) : Int), ()), ?_, ⟨i + 1, rfl, hlt, rfl⟩, by simp; omega⟩
              simp only [q2, decide_true, if_true, atC_val hg]
              rw [ht, wF_snoc]
              generalize wF (l.take i) = w0 at hwi
              have hres : ∀ w', w'.length = 6 → (∀ j, j < 6 → w'.getD j 0 = mx2 (w0.getD j 0) (uv.getD j 0)) → w' = mx w0 uv := fun w' h h' => ext6 h (mx_len _ _) fun j hj => by rw [h' j hj, mx_get _ _ hj]
              refine (loop_val (fun s => s.2.1 = (i : Int) ∧ s.2.2.1 = uv ∧ s.2.2.2.1 = (uv.length : Int) ∧ ∃ j : Nat, s.2.2.2.2.1 = (j : Int) ∧ j ≤ 6 ∧ s.1.length = 6 ∧ (∀ m, m < j → s.1.getD m 0 = mx2 (w0.getD m 0) (uv.getD m 0)) ∧ ∀ m, j ≤ m → s.1.getD m 0 = w0.getD m 0) (fun s => 6 - s.2.2.2.2.1.toNat) (fun s => Sum.inl (mx w0 uv, ((i + 1 : Nat) : Int), ())) ?_ (s := (w0, (i : Int), uv, (uv.length : Int), 0, ())) ⟨rfl, rfl, rfl, 0, rfl, by omega, hwi.1, fun m hm => by omega, fun m _ => rfl⟩)
              rintro ⟨c1, c2, c3, c4, c5, ⟨⟩⟩ ⟨e1, e2, e3, j, e4, hj, e5, e6, e7⟩
              simp only at e1 e2 e3 e4 e5 e6 e7
              subst e1 e2 e3 e4
              by_cases hjl : j < 6
              · left
                have q3 : ((j : Int) < (c3.length : Int)) := by rw [hu.1]; omega
                have hg1 : c3[j]? = some (c3.getD j 0) := by rw [List.getD_eq_getElem?_getD, List.getElem?_eq_getElem (by rw [hu.1]; omega)]; rfl
                have hg2 : c1[j]? = some (c1.getD j 0) := by rw [List.getD_eq_getElem?_getD, List.getElem?_eq_getElem (by omega)]; rfl
                have q4 : 0 ≤ (j : Int) ∧ (j : Int) < (c1.length : Int) := by omega
                refine ⟨(c1.set j (mx2 (c1.getD j 0) (c3.getD j 0)), (i : Int), c3, (c3.length : Int), ((j + 1 : Nat) : Int), ()), ?_, ⟨rfl, rfl, rfl, j + 1, rfl, hjl, by simp [e5], fun m hm => ?_, fun m hm => ?_⟩, rfl, by simp; omega⟩
                · simp only [q3, decide_true, if_true, atC_val hg1, q4, and_self, atC_val hg2, Int.toNat_natCast, wrap_i64 (n := (j : Int) + 1) (by omega) (by omega)]
                  rfl
                · rw [List.getD_eq_getElem?_getD]
                  by_cases em : m = j
                  · subst em; rw [List.getElem?_set_self (by omega), e7 m (by omega)]; rfl
                  · rw [List.getElem?_set_ne (fun e => em e.symm), ← List.getD_eq_getElem?_getD]; exact e6 m (by omega)
                · rw [List.getD_eq_getElem?_getD, List.getElem?_set_ne (by omega), ← List.getD_eq_getElem?_getD]; exact e7 m (by omega)
              · right
                have q3 : ¬ ((j : Int) < (c3.length : Int)) := by rw [hu.1]; omega
                rw [hres c1 e5 fun m hm => e6 m (by omega)]
                simp only [q3, decide_false, Bool.false_eq_true, if_false, wrap_i64 (n := (i : Int) + 1) (by omega) (by omega)]
                rfl
            · right
              have q2 : ¬ ((i : Int) < (l.length : Int)) := by omega
              rw [List.take_of_length_le (by omega)]
              have hk6 : k < (wF l).length := by rw [hwok.1]; omega
              have q4 : 0 ≤ (k : Int) ∧ (k : Int) < ((wF l).length : Int) := by omega
              have hg2 : (wF l)[k]? = some ((wF l).getD k 0) := by rw [List.getD_eq_getElem?_getD, List.getElem?_eq_getElem hk6]; rfl
              have hb := hwok.2 _ (getD_mem hk6)
              simp only [q2, decide_false, Bool.false_eq_true, if_false, q4, and_self, if_true, atC_val hg2, Int.toNat_natCast]
              by_cases h5 : (wF l).getD k 0 = 1000000000
              · have h5' : ((wF l).getD k 0 == 1000000000) = true := by simpa using h5
                simp only [h5', if_true]
                exact ⟨_, rfl, by rw [if_pos h5]⟩
              · have h5' : ((wF l).getD k 0 == 1000000000) = false := by simpa using h5
                simp only [h5', Bool.false_eq_true, if_false, wrap_i64 (n := (wF l).getD k 0 + 1) (by omega) (by omega)]
                exact ⟨_, rfl, by rw [if_neg h5]⟩
  · have := fz f hne
    obtain ⟨c, j, ⟨⟩⟩ := f
    simp only at this
    simp only [this, Bool.not_false, if_true]
    simp only at hne
    simp only [hne, not_false_eq_true, if_true]
theorem wF_get (l : List Vv) (i : Nat) (hi : i < l.length) (u : Vv) (hu : l[i]? = some u) (k : Nat) (hk : k < 6) : (wF (l.take (i + 1))).getD k 0 = mx2 ((wF (l.take i)).getD k 0) (u.2.1.getD k 0) := by
  rw [List.take_add_one, hu]
  show (wF (l.take i ++ [u])).getD k 0 = _
  rw [wF_snoc, mx_get _ _ hk]
def bmp (l : List Int) (r : Int) (j : Nat) : Int := if (j : Int) = r then l.getD j 0 + 1 else l.getD j 0
theorem bmp_set {l : List Int} (hl : l.length = 6) (r : Nat) (hr : r < 6) : (List.range 6).map (bmp l (r : Int)) = l.set r (l.getD r 0 + 1) := by
  refine ext6 (by simp) (by simp [hl]) fun j hj => ?_
  rw [List.getD_eq_getElem?_getD, List.getElem?_map, List.getElem?_range hj, List.getD_eq_getElem?_getD]
  by_cases e : j = r
  · subst e; rw [List.getElem?_set_self (by omega)]; simp [bmp]
  · rw [List.getElem?_set_ne (fun h => e h.symm)]
    have : ¬ (j : Int) = (r : Int) := by omega
    simp [bmp, this]
open Classical in
theorem Written_exact (l : List Vv) (r v : Int) : changeforgeref2_Written_10 (l, r, v, ()) = some (writeF l r v) := by
  have hf := ValuesFault_eq l
  have hcase := valF_cases l
  unfold writeF
  generalize valF l = f at hf hcase
  unfold changeforgeref2_Written_10
  simp only [hf, Option.bind_some, AtV_eq]
  rcases hcase with ⟨rfl, hok⟩ | ⟨hne, _⟩
  · simp only [bne_self_eq_false, Bool.false_eq_true, if_false]
    by_cases h1 : r < 0
    · simp only [h1, decide_true, if_true]
      simp
    · by_cases h2 : r ≥ 6
      · simp only [h1, h2, decide_true, decide_false, Bool.false_eq_true, if_false, if_true]
        simp
      · by_cases h3 : v < 0
        · simp only [h1, h2, h3, decide_true, decide_false, Bool.false_eq_true, if_false, if_true]
          simp
        · by_cases h4 : v > 1000000000
          · simp only [h1, h2, h3, h4, decide_true, decide_false, Bool.false_eq_true, if_false, if_true]
            simp
          · simp only [h1, h2, h3, h4, decide_false, Bool.false_eq_true, if_false]
            obtain ⟨k, rfl⟩ := Int.eq_ofNat_of_zero_le (show 0 ≤ r from by omega)
            have hall := okR_vec hok
            obtain ⟨hwok, _⟩ := wF_ok l hall
            have hl16 := hok.1
            simp only [not_true, if_false, false_or, Int.toNat_natCast]
            suffices key : ∃ r : List Vv × Fault × Unit, _ = some r ∧ r = (if (wF l).getD k 0 = 1000000000 then ([], (10, -1, ()), ()) else ([(v, (wF l).set k ((wF l).getD k 0 + 1), ())], (0, 0, ()), ())) from by
              obtain ⟨r, h, hq⟩ := key; rw [← hq]; exact h
            refine loop_inv (fun s => ∃ i : Nat, s.2.1 = (i : Int) ∧ i ≤ 6 ∧ s.1 = (List.range i).map (bmp (wF l) (k : Int))) (fun s => 6 - s.2.1.toNat) _ ?_ (s := ([], 0, ())) ⟨0, rfl, by omega, rfl⟩
            rintro ⟨w, a2, ⟨⟩⟩ ⟨i, g1, hi, g2⟩
            simp only at g1 g2
            subst g1 g2
            by_cases hlt : i < 6
            · left
              have q2 : ((i : Int) < 6) := by omega
              have hb := hwok.2 _ (getD_mem (l := wF l) (j := i) (by rw [hwok.1]; exact hlt))
              refine ⟨((List.range (i + 1)).map (bmp (wF l) (k : Int)), ((i + 1 : Nat) : Int), ()), ?_, ⟨i + 1, rfl, hlt, rfl⟩, by simp; omega⟩
              simp only [q2, decide_true, if_true]
              generalize hws : (List.range i).map (bmp (wF l) (k : Int)) = ws
              have hwl : ws.length = i := by rw [← hws]; simp
              have hnx : (List.range (i + 1)).map (bmp (wF l) (k : Int)) = ws ++ [bmp (wF l) (k : Int) i] := by rw [List.range_succ, List.map_append, hws]; rfl
              rw [hnx]
              refine (loop_val (fun s => s.1 = ws ∧ s.2.1 = (i : Int) ∧ ∃ m : Nat, s.2.2.2.1 = (m : Int) ∧ m ≤ l.length ∧ s.2.2.1 = (wF (l.take m)).getD i 0) (fun s => l.length - s.2.2.2.1.toNat) (fun s => Sum.inl (ws ++ [bmp (wF l) (k : Int) i], ((i + 1 : Nat) : Int), ())) ?_ (s := (ws, (i : Int), 0, 0, ())) ⟨rfl, rfl, 0, rfl, by omega, by
                have : ∀ j, j < 6 → ([0, 0, 0, 0, 0, 0] : List Int).getD j 0 = 0 := by decide
                exact (this i hlt).symm⟩)
              rintro ⟨c1, c2, c3, c4, ⟨⟩⟩ ⟨e1, e2, m, e4, hm, e3⟩
              simp only at e1 e2 e3 e4
              subst e1 e2 e4
              by_cases hml : m < l.length
              · left
                have q3 : ((m : Int) < (l.length : Int)) := by omega
                have hg : l[m]? = some l[m] := List.getElem?_eq_getElem hml
                have hu := hall _ (List.getElem_mem hml)
                have hget := wF_get l m hml l[m] hg i hlt
                generalize l[m] = u at hg hu hget
                have hg1 : u.2.1[i]? = some (u.2.1.getD i 0) := by rw [List.getD_eq_getElem?_getD, List.getElem?_eq_getElem (by rw [hu.1]; exact hlt)]; rfl
                refine ⟨(c1, (i : Int), (wF (l.take (m + 1))).getD i 0, ((m + 1 : Nat) : Int), ()), ?_, ⟨rfl, rfl, m + 1, rfl, hml, rfl⟩, rfl, by simp; omega⟩
                rw [hget, ← e3]
                simp only [q3, decide_true, if_true, atC_val hg, atC_val hg1, decide_eq_true_eq, wrap_i64 (n := (m : Int) + 1) (by omega) (by omega)]
                unfold mx2
                split <;> rfl
              · right
                have q3 : ¬ ((m : Int) < (l.length : Int)) := by omega
                rw [List.take_of_length_le (by omega)] at e3
                subst e3
                have hbm : bmp (wF l) (k : Int) i = if ((i : Int) == (k : Int)) = true then (wF l).getD i 0 + 1 else (wF l).getD i 0 := by unfold bmp; simp
                rw [hbm]
                simp only [q3, decide_false, Bool.false_eq_true, if_false, wrap_i64 (n := (i : Int) + 1) (by omega) (by omega), wrap_i64 (n := (wF l).getD i 0 + 1) (by omega) (by omega), List.length_cons, List.length_nil]
                have hmax : c1.length + (0 + 1) ≤ maxLen := by simp [maxLen]; omega
                have hmx : (c1.length + (0 + 1)) * 8 ≤ 140737488355328 := by omega
                cases hik : ((i : Int) == (k : Int)) with
                | true => simp only [if_true]; rw [if_pos ⟨hmx, hmax⟩]; rfl
                | false => simp only [Bool.false_eq_true, if_false]; rw [if_pos ⟨hmx, hmax⟩]; rfl
            · right
              have q2 : ¬ ((i : Int) < 6) := by omega
              have e6 : i = 6 := by omega
              subst e6
              rw [bmp_set hwok.1 k (by omega)]
              have hset : ((wF l).set k ((wF l).getD k 0 + 1))[k]? = some ((wF l).getD k 0 + 1) := List.getElem?_set_self (by rw [hwok.1]; omega)
              have hb := hwok.2 _ (getD_mem (l := wF l) (j := k) (by rw [hwok.1]; omega))
              simp only [q2, decide_false, Bool.false_eq_true, if_false, atC_val hset]
              by_cases h5 : (wF l).getD k 0 = 1000000000
              · rw [if_pos h5]
                have : (wF l).getD k 0 + 1 > 1000000000 := by omega
                simp only [this, decide_true, if_true]
                exact ⟨_, rfl, rfl⟩
              · rw [if_neg h5]
                have : ¬ (wF l).getD k 0 + 1 > 1000000000 := by omega
                simp only [this, decide_false, Bool.false_eq_true, if_false]
                exact ⟨_, rfl, rfl⟩
  · have : (f.1 != 0) = true := by simpa using hne
    simp only [this, if_true, hne, not_false_eq_true]
end Go.Proofs.Ytoagphhldhpnmaa.F
end
section
set_option linter.unusedSimpArgs false
set_option linter.unusedVariables false
/- That they do: printed by a program of ours. -/
namespace Go.Proofs.Ytoagphhldhpnmaa.F
open Go Go.Proofs.Ytoagphhldhpnmaa.V
set_option maxRecDepth 100000
set_option linter.unusedVariables false

/- changeforge/changeforgelaw2.MultivalueCovers -/
def changeforgelaw2_MultivalueCovers_7_h : List (Nat × SS × Nat) := [(125, ⟨us 60, [], [.t 23, .t 21, .t 19]⟩, 0), (250, ⟨[.unk, .unk, .d (.v 2)] ++ us 4 ++ [.d (.v 3), .unk, .grow 35 2 9, .d (.v 11)] ++ us 49, [], [.t 23, .t 21, .t 19]⟩, 1), (60, ⟨[.unk, .unk, .d (.v 2)] ++ us 4 ++ [.d (.v 3), .unk, .grow 35 2 9] ++ us 26 ++ [.d (.v 10)] ++ us 23, [], [.t 23, .t 21, .t 19]⟩, 1)]
theorem changeforgelaw2_MultivalueCovers_7_ok : Fn.Ok Try.prog ⟨7, [(.sl (.p (.int .i64) (.p (.sl (.int .i64)) .e))), (.sl (.p (.int .i64) (.p (.sl (.int .i64)) .e))), (.int .i64)], [.bool], changeforgelaw2_MultivalueCovers_7⟩ :=
  Fn.of (c := ⟨Try.prog, [(11, 2), (16, 1), (17, 2)], [], [], changeforgelaw2_MultivalueCovers_7_h⟩) (fs := [⟨11, [(.sl (.p (.int .i64) (.p (.sl (.int .i64)) .e))), (.sl (.p (.int .i64) (.p (.sl (.int .i64)) .e)))], [(.sl (.p (.int .i64) (.p (.sl (.int .i64)) .e))), (.p (.int .i64) (.p (.int .i64) .e))], multivalue_Merge_11⟩, ⟨16, [], [.bool], changeforgelaw2_first_16⟩, ⟨17, [(.sl (.int .i64)), (.sl (.int .i64))], [.bool, .bool], changeforgeref2_Relation_17⟩]) (gs := []) (an := [(.int .i64), (.int .i64), (.sl (.p (.int .i64) (.p (.sl (.int .i64)) .e))), (.sl (.p (.int .i64) (.p (.sl (.int .i64)) .e))), (.sl (.p (.int .i64) (.p (.sl (.int .i64)) .e))), .bool, (.int .i64), (.int .i64), .bool, (.p (.int .i64) (.p (.sl (.int .i64)) .e)), (.sl (.int .i64)), (.p (.int .i64) (.p (.sl (.int .i64)) .e)), (.sl (.int .i64)), (.int .i64), .bool, .bool, (.int .i64), .bool]) (by kernel_rfl) Try.func7 (by kernel_rfl) (by kernel_rfl) (by simp only [List.forall_mem_cons, List.not_mem_nil, false_implies, implies_true, and_true]; exact ⟨multivalue_Merge_11_ok, changeforgelaw2_first_16_ok, changeforgeref2_Relation_17_ok⟩) (fun _ h => by cases h) (by kernel_rfl)


/- changeforge/changeforgelaw2.MultivalueResolves -/
def changeforgelaw2_MultivalueResolves_8_h : List (Nat × SS × Nat) := [(254, ⟨us 8 ++ [.d (.v 21)] ++ us 63, [], []⟩, 1), (60, ⟨[.d (.v 0), .d (.v 1)] ++ us 9 ++ [.d (.v 8)] ++ us 25 ++ [.d (.v 12)] ++ us 34, [], []⟩, 1)]
theorem changeforgelaw2_MultivalueResolves_8_ok : Fn.Ok Try.prog ⟨8, [(.sl (.p (.int .i64) (.p (.sl (.int .i64)) .e))), (.sl (.p (.int .i64) (.p (.sl (.int .i64)) .e))), (.int .i64), (.int .i64)], [.bool], changeforgelaw2_MultivalueResolves_8⟩ :=
  Fn.of (c := ⟨Try.prog, [(11, 2), (9, 2), (16, 1), (15, 1)], [], [], changeforgelaw2_MultivalueResolves_8_h⟩) (fs := [⟨11, [(.sl (.p (.int .i64) (.p (.sl (.int .i64)) .e))), (.sl (.p (.int .i64) (.p (.sl (.int .i64)) .e)))], [(.sl (.p (.int .i64) (.p (.sl (.int .i64)) .e))), (.p (.int .i64) (.p (.int .i64) .e))], multivalue_Merge_11⟩, ⟨9, [(.sl (.p (.int .i64) (.p (.sl (.int .i64)) .e))), (.int .i64), (.int .i64)], [(.sl (.p (.int .i64) (.p (.sl (.int .i64)) .e))), (.p (.int .i64) (.p (.int .i64) .e))], multivalue_Write_9⟩, ⟨16, [], [.bool], changeforgelaw2_first_16⟩, ⟨15, [(.sl (.p (.int .i64) (.p (.sl (.int .i64)) .e))), (.sl (.p (.int .i64) (.p (.sl (.int .i64)) .e)))], [.bool], changeforgeequal_Values_15⟩]) (gs := []) (an := [(.int .i64), (.int .i64), (.int .i64), (.int .i64), .bool, (.int .i64), (.int .i64), (.int .i64), (.int .i64), .bool, .bool, .bool, .bool, .bool]) (by kernel_rfl) Try.func8 (by kernel_rfl) (by kernel_rfl) (by simp only [List.forall_mem_cons, List.not_mem_nil, false_implies, implies_true, and_true]; exact ⟨multivalue_Merge_11_ok, multivalue_Write_9_ok, changeforgelaw2_first_16_ok, changeforgeequal_Values_15_ok⟩) (fun _ h => by cases h) (by kernel_rfl)

end Go.Proofs.Ytoagphhldhpnmaa.F
end
