/- Texts of ours, put together: PG, PH, PI. -/
import Derived.Test.YtfepfapfogpfkaaK4
section
/- What the functions compute, said shortly: equality of stacks with themselves. -/
namespace Go.Proofs.Ytfepfapfogpfkaa.F
open Go Go.Proofs.Ytfepfapfogpfkaa.V

theorem toList_beq (s : ByteArray) : (ByteArray.toList s == ByteArray.toList s) = true := by simp
theorem Strings_refl (l : List ByteArray) (hl : l.length ≤ 1000000) : changeforgeequal_Strings_17 (l, l, ()) = some (true, ()) := by
  unfold changeforgeequal_Strings_17
  simp only [bne_self_eq_false, Bool.false_eq_true, if_false]
  refine (loop_val (fun s => ∃ i : Nat, s.1 = (i : Int) ∧ i ≤ l.length) (fun s => l.length - s.1.toNat) (fun s => (true, ())) ?_ (s := (0, ())) ⟨0, rfl, by omega⟩)
  rintro ⟨a1, ⟨⟩⟩ ⟨i, h1, hi⟩
  simp only at h1
  subst h1
  by_cases hlt : i < l.length
  · left
    have h2 : ((i : Int) < (l.length : Int)) := by omega
    have hg : l[i]? = some l[i] := List.getElem?_eq_getElem hlt
    refine ⟨((i + 1 : Nat), ()), ?_, ⟨i + 1, rfl, hlt⟩, rfl, by simp; omega⟩
    simp only [h2, decide_true, if_true, atC_val hg, toList_beq, Bool.not_true, Bool.false_eq_true, if_false, wrap_i64 (n := (i : Int) + 1) (by omega) (by omega)]
    rfl
  · right
    have h2 : ¬ ((i : Int) < (l.length : Int)) := by omega
    simp only [h2, decide_false, Bool.false_eq_true, if_false]
    rfl
theorem Patch_refl (p : Patch) (hp : okP p) : changeforgeequal_Patch_31 (p, p, ()) = some (true, ()) := by
  obtain ⟨l, ⟨⟩⟩ := p
  obtain ⟨hl, hh⟩ := hp
  simp only at hl hh
  unfold changeforgeequal_Patch_31
  simp only [bne_self_eq_false, Bool.false_eq_true, if_false]
  refine (loop_val (fun s => ∃ i : Nat, s.1 = (i : Int) ∧ i ≤ l.length) (fun s => l.length - s.1.toNat) (fun s => (true, ())) ?_ (s := (0, ())) ⟨0, rfl, by omega⟩)
  rintro ⟨a1, ⟨⟩⟩ ⟨i, h1, hi⟩
  simp only at h1
  subst h1
  by_cases hlt : i < l.length
  · left
    have h2 : ((i : Int) < (l.length : Int)) := by omega
    have hg : l[i]? = some l[i] := List.getElem?_eq_getElem hlt
    have hx := hh _ (List.getElem_mem hlt)
    generalize l[i] = x at hg hx
    refine ⟨((i + 1 : Nat), ()), ?_, ⟨i + 1, rfl, hlt⟩, rfl, by simp; omega⟩
    simp only [h2, decide_true, if_true, atC_val hg, bne_self_eq_false, Bool.false_eq_true, if_false, Strings_refl _ hx.1, Strings_refl _ hx.2, Option.bind_some, Bool.not_true, wrap_i64 (n := (i : Int) + 1) (by omega) (by omega)]
    rfl
  · right
    have h2 : ¬ ((i : Int) < (l.length : Int)) := by omega
    simp only [h2, decide_false, Bool.false_eq_true, if_false]
    rfl
theorem Patches_refl (l : List Patch) (hl : l.length ≤ 1000000) (hh : ∀ p ∈ l, okP p) : changeforgeequal_Patches_14 (l, l, ()) = some (true, ()) := by
  unfold changeforgeequal_Patches_14
  simp only [bne_self_eq_false, Bool.false_eq_true, if_false]
  refine (loop_val (fun s => ∃ i : Nat, s.1 = (i : Int) ∧ i ≤ l.length) (fun s => l.length - s.1.toNat) (fun s => (true, ())) ?_ (s := (0, ())) ⟨0, rfl, by omega⟩)
  rintro ⟨a1, ⟨⟩⟩ ⟨i, h1, hi⟩
  simp only at h1
  subst h1
  by_cases hlt : i < l.length
  · left
    have h2 : ((i : Int) < (l.length : Int)) := by omega
    have hg : l[i]? = some l[i] := List.getElem?_eq_getElem hlt
    have hx := hh _ (List.getElem_mem hlt)
    generalize l[i] = x at hg hx
    obtain ⟨x, ⟨⟩⟩ := x
    refine ⟨((i + 1 : Nat), ()), ?_, ⟨i + 1, rfl, hlt⟩, rfl, by simp; omega⟩
    simp only [h2, decide_true, if_true, atC_val hg, Patch_refl _ hx, Bool.false_eq_true, if_false, Option.bind_some, Bool.not_true, wrap_i64 (n := (i : Int) + 1) (by omega) (by omega)]
    rfl
  · right
    have h2 : ¬ ((i : Int) < (l.length : Int)) := by omega
    simp only [h2, decide_false, Bool.false_eq_true, if_false]
    rfl
end Go.Proofs.Ytfepfapfogpfkaa.F
end
section
/- What the functions compute, said shortly: the law's own example. -/
namespace Go.Proofs.Ytfepfapfogpfkaa.F
open Go Go.Proofs.Ytfepfapfogpfkaa.V

def sa : ByteArray := ⟨#[97]⟩
def sb : ByteArray := ⟨#[98]⟩
def pa : Patch := ([(0, [], [sa], ())], ())
def pb : Patch := ([(1, [], [sb], ())], ())
theorem sF_ab : sF [pa, pb] = (0, 0, ()) := by decide
theorem sF_a : sF [pa] = (0, 0, ()) := by decide
theorem pF_a : pF pa = (0, 0, ()) := by decide
theorem Drop_ab : stack_Drop_12 ([pa, pb], 1, ()) = some ([pa], true, (0, 0, ()), ()) := by
  unfold stack_Drop_12
  have h1 : posF 2 1 (-2) = (0, 0, ()) := by decide
  have h2 : moveF [pa, pb] 1 1 = ([pa, pb], true, (0, 0, ()), ()) := by
    unfold moveF
    rw [if_pos sF_ab]
    rfl
  have w : IntKind.wrap .i64 1 = 1 := by decide
  simp [stack_Validate_eq, sF_ab, position_eq, h1, Move_eq, w, h2]
theorem Equal_nil : slices_Equal___string_string__43 ([], [], ()) = some (true, ()) := by
  unfold slices_Equal___string_string__43
  simp only []
  rw [loopC_eq]
  simp
theorem ApplyP_a : textpatch_Apply_19 (pa, [], ()) = some ([sa], (0, 0, ()), ()) := by
  unfold textpatch_Apply_19
  have hc : code [] = 0 := by decide
  have hE : textpatch_End_42 ((0, [], [sa], ()), ()) = some (0, ()) := by rw [End_eq _ (by decide) (by decide) (by decide)]; rfl
  have w : IntKind.wrap .i64 1 = 1 := by decide
  have e : ((pa.1, ()) : Patch) = pa := rfl
  simp only [textpatch_Validate_eq, e, pF_a, lines_Code_eq, hc, Option.bind_some, BEq.rfl, Bool.and_self, Bool.not_true, Bool.false_eq_true, if_false, bne_self_eq_false]
  rw [loopC_eq]
  simp [pa, atC, hE, Equal_nil, maxLen, w]
  rw [loopC_eq]
  simp
theorem Apply_a : stack_Apply_16 ([], [pa], ()) = some ([sa], (0, 0, ()), ()) := by
  unfold stack_Apply_16
  have hc : code [] = 0 := by decide
  have w : IntKind.wrap .i64 1 = 1 := by decide
  simp only [stack_Validate_eq, sF_a, lines_Code_eq, hc, Option.bind_some, Clone_eq [] (by decide), BEq.rfl, Bool.and_self, Bool.not_true, Bool.false_eq_true, if_false, bne_self_eq_false]
  rw [loopC_eq]
  have e : ((pa.1, ()) : Patch) = pa := rfl
  simp [atC, e, ApplyP_a, w]
  rw [loopC_eq]
  simp
theorem dropped_eq : changeforgelaw2_dropped_15 () = some (true, ()) := by
  unfold changeforgelaw2_dropped_15 changeforgelaw2_single_32
  have hD := Drop_ab
  have hA := Apply_a
  have hP : changeforgeequal_Patches_14 ([pa], [pa], ()) = some (true, ()) := Patches_refl _ (by decide) (by intro p hp; simp at hp; subst hp; exact bd_ok (pF_bd pF_a))
  have hS : changeforgeequal_Strings_17 ([sa], [sa], ()) = some (true, ()) := Strings_refl _ (by decide)
  unfold pa pb sa sb at *
  simp [hD, hA, hP, hS]
end Go.Proofs.Ytfepfapfogpfkaa.F
end
section
/- The law StackNeighbors over plain values. -/
namespace Go.Proofs.Ytfepfapfogpfkaa.F
open Go Go.Proofs.Ytfepfapfogpfkaa.V

theorem sfrom_code : ∀ {l : List Patch} {i : Int}, (sfrom l i).1 = 0 → sfrom l i = (0, 0, ())
  | [], _, _ => rfl
  | p :: l, i, e => by
    simp only [sfrom] at e ⊢
    split at e
    · rename_i h; rw [if_pos h]; exact sfrom_code e
    · rename_i h; exact absurd (pF_code e) h
theorem sF_code {l : List Patch} (e : (sF l).1 = 0) : sF l = (0, 0, ()) := by
  unfold sF at e ⊢
  split at e
  · cases e
  · rename_i h; rw [if_neg h]; exact sfrom_code e
theorem posF_code {n i k : Int} (e : (posF n i k).1 = 0) : posF n i k = (0, 0, ()) := by
  unfold posF at e ⊢
  split at e
  · cases e
  · rename_i h; rw [if_neg h]
theorem comF_cases {p q : Patch} (hc : chF p q = (0, 0, ())) : (∃ a b, comF p q = (a, b, true, (0, 0, ()), ()) ∧ pF a = (0, 0, ()) ∧ pF b = (0, 0, ())) ∨ comF p q = (E0, E0, false, (10, -1, ()), ()) ∨ comF p q = (E0, E0, false, (0, 0, ()), ()) := by
  unfold comF
  rw [if_pos hc]
  by_cases h1 : inF (newsF p.1 0) (oldsF q.1) = true
  · rw [if_pos h1]
    simp only []
    by_cases h2 : pF (shiftL q.1 p.1 (newsF p.1 0) (-1), ()) = (0, 0, ())
    · rw [if_pos h2]
      by_cases h3 : pF (shiftL p.1 (shiftL q.1 p.1 (newsF p.1 0) (-1)) (oldsF (shiftL q.1 p.1 (newsF p.1 0) (-1))) 1, ()) = (0, 0, ())
      · rw [if_pos h3]; exact .inl ⟨_, _, rfl, h2, h3⟩
      · rw [if_neg h3]; exact .inr (.inl rfl)
    · rw [if_neg h2]; exact .inr (.inl rfl)
  · rw [if_neg h1]; exact .inr (.inr rfl)
theorem comF_ok {p q : Patch} (hp : pF p = (0, 0, ())) (hq : pF q = (0, 0, ())) : ((comF p q).2.2.1 = true → (comF p q).2.2.2.1 = (0, 0, ()) ∧ pF (comF p q).1 = (0, 0, ()) ∧ pF (comF p q).2.1 = (0, 0, ())) ∧ ((comF p q).2.2.2.1.1 = 0 → (comF p q).2.2.2.1 = (0, 0, ())) := by
  have hc : chF p q = (0, 0, ()) := by unfold chF; rw [if_pos hp, if_pos hq]
  rcases comF_cases hc with ⟨a, b, h, h1, h2⟩ | h | h
  · rw [h]; exact ⟨fun _ => ⟨rfl, h1, h2⟩, fun _ => rfl⟩
  · rw [h]; exact ⟨fun h => by simp at h, fun h => by simp at h⟩
  · rw [h]; exact ⟨fun h => by simp at h, fun _ => rfl⟩
theorem set2 {α : Type} (l : List α) (i : Nat) (a b : α) (hi : i + 1 < l.length) : (l.set i a).set (i + 1) b = l.take i ++ [a, b] ++ l.drop (i + 2) := by
  apply List.ext_getElem?
  intro j
  rw [List.append_assoc, List.getElem?_append, List.length_take, Nat.min_eq_left (by omega)]
  by_cases h1 : j < i
  · rw [if_pos h1, List.getElem?_set_ne (by omega), List.getElem?_set_ne (by omega), List.getElem?_take, if_pos h1]
  · rw [if_neg h1]
    by_cases h2 : j = i
    · subst h2; rw [List.getElem?_set_ne (by omega), List.getElem?_set_self (by omega)]; simp
    · by_cases h3 : j = i + 1
      · subst h3; rw [List.getElem?_set_self (by simp; omega)]; simp [show i + 1 - i = 1 from by omega]
      · rw [List.getElem?_set_ne (by omega), List.getElem?_set_ne (by omega), List.getElem?_append_right (by simp; omega)]
        simp only [List.length_cons, List.length_nil, List.getElem?_drop]
        congr 1; omega

theorem Neighbors_eq (l : List Patch) (i : Int) (hl : l.length * 24 ≤ 281474976710656) (h0 : -9223372036854775808 ≤ i) (h1 : i ≤ 9223372036854775807) : changeforgelaw2_StackNeighbors_6 (l, i, ()) = some (true, ()) := by
  unfold changeforgelaw2_StackNeighbors_6
  have hwl : IntKind.wrap .i64 ((l.length : Int) - 1) = (l.length : Int) - 1 := wrap_i64 (by omega) (by omega)
  simp only [Move_eq, dropped_eq, Option.bind_some, hwl]
  by_cases hf : (moveF l i (IntKind.wrap .i64 (i + 1))).2.2.1.1 = 0
  · simp only [hf, bne_self_eq_false, Bool.false_eq_true, if_false]
    by_cases hi : i < 0
    · simp [hi]
    · by_cases hi' : i ≥ (l.length : Int) - 1
      · simp [hi, hi']
      · simp only [hi, hi', decide_false, Bool.false_eq_true, if_false]
        obtain ⟨n, rfl⟩ := Int.eq_ofNat_of_zero_le (show 0 ≤ i from by omega)
        have hn : n + 1 < l.length := by omega
        have hw : IntKind.wrap .i64 ((n : Int) + 1) = ((n + 1 : Nat) : Int) := by rw [wrap_i64 (by omega) (by omega)]; rfl
        have hw2 : IntKind.wrap .i64 ((n : Int) + 2) = ((n + 2 : Nat) : Int) := by rw [wrap_i64 (by omega) (by omega)]; rfl
        have g1 : l[n]? = some (l.getD n E0) := by rw [List.getD_eq_getElem?_getD, List.getElem?_eq_getElem (by omega)]; rfl
        have g2 : l[n + 1]? = some (l.getD (n + 1) E0) := by rw [List.getD_eq_getElem?_getD, List.getElem?_eq_getElem (by omega)]; rfl
        simp only [hw, hw2] at hf ⊢
        have hs : sF l = (0, 0, ()) := by
          unfold moveF at hf
          split at hf
          · assumption
          · exact sF_code hf
        obtain ⟨hl12, hall⟩ := sF_bd hs
        have p1 : posF l.length (n : Int) (-2) = (0, 0, ()) := by unfold posF; rw [if_neg (by omega)]
        have p2 : posF l.length ((n + 1 : Nat) : Int) (-3) = (0, 0, ()) := by unfold posF; rw [if_neg (by omega)]
        have hD : Dst n (n + 1) = 0 + 1 := by unfold Dst; rw [if_neg (by omega)]; omega
        have hm : moveF l (n : Int) ((n + 1 : Nat) : Int) = if (swF l n).1 = true then ((swF l n).2.2.1, true, (0, 0, ()), ()) else ([], false, faultF (swF l n).2.1, ()) := by
          unfold moveF
          rw [if_pos hs, if_pos p1, if_pos p2]
          simp only [Int.toNat_natCast]
          rw [hD, mvF_up (by omega) (by omega)]
          rfl
        have hpn : pF (l.getD n E0) = (0, 0, ()) := hall _ (List.mem_of_getElem? g1)
        have hqn : pF (l.getD (n + 1) E0) = (0, 0, ()) := hall _ (List.mem_of_getElem? g2)
        obtain ⟨c1, c2⟩ := comF_ok hpn hqn
        rw [hm] at hf ⊢
        simp only [atC_val g1, atC_val g2]
        unfold swF at hf ⊢
        simp only at hf ⊢
        generalize l.getD n E0 = p at g1 c1 c2 hf ⊢
        generalize l.getD (n + 1) E0 = q at g2 c1 c2 hf ⊢
        obtain ⟨p, ⟨⟩⟩ := p
        obtain ⟨q, ⟨⟩⟩ := q
        simp only [Commute_eq, Option.bind_some]
        generalize comF (p, ()) (q, ()) = r at c1 c2 hf ⊢
        obtain ⟨⟨a, ⟨⟩⟩, ⟨b, ⟨⟩⟩, ok, ⟨c, j, ⟨⟩⟩, ⟨⟩⟩ := r
        cases ok with
        | false =>
          simp only [Bool.false_eq_true, if_false] at hf ⊢
          have hc : c = 0 := by
            unfold faultF at hf
            split at hf <;> exact hf
          subst hc
          simp
        | true =>
          obtain ⟨e1, e2, e3⟩ := c1 rfl
          simp only at e1 e2 e3
          injection e1 with e1 e4
          subst e1
          simp only [if_true, bne_self_eq_false, Bool.false_eq_true, if_false, BEq.rfl, Bool.not_true]
          have q1 : (0 : Int) ≤ 0 ∧ (0 : Int) ≤ (n : Int) ∧ (n : Int) ≤ (l.length : Int) := by omega
          have q2 : (0 : Int) ≤ ((n + 2 : Nat) : Int) ∧ ((n + 2 : Nat) : Int) ≤ (l.length : Int) ∧ (l.length : Int) ≤ (l.length : Int) := by omega
          rw [if_pos q1]
          simp only [Int.toNat_natCast, Int.toNat_zero, List.drop_zero, List.nil_append, List.length_nil, List.length_take, List.length_append, List.length_cons, List.length_drop, List.take_length, Nat.min_eq_left (show n ≤ l.length from by omega)]
          rw [if_pos ⟨by omega, by simp [maxLen]; omega⟩, if_pos ⟨by omega, by simp [maxLen]; omega⟩, if_pos q2, if_pos ⟨by omega, by simp [maxLen]; omega⟩]
          have hset := set2 l n ((a, ()) : Patch) ((b, ()) : Patch) hn
          rw [hset]
          have hP : changeforgeequal_Patches_14 (l.take n ++ [(a, ()), (b, ())] ++ l.drop (n + 2), l.take n ++ [(a, ()), (b, ())] ++ l.drop (n + 2), ()) = some (true, ()) := by
            refine Patches_refl _ (by simp; omega) fun x hx => ?_
            simp only [List.mem_append, List.mem_cons, List.not_mem_nil, or_false] at hx
            rcases hx with (hx | rfl | rfl) | hx
            · exact bd_ok (pF_bd (hall x (List.mem_of_mem_take hx)))
            · exact bd_ok (pF_bd e2)
            · exact bd_ok (pF_bd e3)
            · exact bd_ok (pF_bd (hall x (List.mem_of_mem_drop hx)))
          rw [hP]
          rfl
  · have hf' : ((moveF l i (IntKind.wrap .i64 (i + 1))).2.2.1.1 != 0) = true := by simpa using hf
    simp [hf']
end Go.Proofs.Ytfepfapfogpfkaa.F
end
