/- Texts of ours, put together: PA, PB, PC, PD, PE, PF, PG, PH, PI, PK, PM, PN, PO, PP, PQ, PR, PS, PT. -/
import Derived.Test.YtfepfapfogpfkaaK4
section
/- What the functions compute, said shortly: lines. -/
namespace Go.Proofs.Ytfepfapfogpfkaa.F
open Go Go.Proofs.Ytfepfapfogpfkaa.V

def nl (s : ByteArray) : Bool := decide (0 ≤ Go.Lib.indexByte s.data.toList 10)
def vfrom : List ByteArray → Int → Int × Int × Unit
  | [], _ => (0, 0, ())
  | s :: r, i => if s.size > 80 then (2, i, ()) else if nl s = true then (5, i, ()) else vfrom r (i + 1)
def vF (l : List ByteArray) : Int × Int × Unit := if l.length > 120 then (2, -1, ()) else vfrom l 0

theorem ContainsRune_nl (s : ByteArray) : strings_ContainsRune_68 (s, 10, ()) = some (nl s, ()) := by
  unfold strings_ContainsRune_68
  simp [nl]

theorem lines_Validate_eq (l : List ByteArray) : lines_Validate_52 (l, ()) = some (vF l, ()) := by
  unfold lines_Validate_52 vF
  by_cases hl : l.length > 120
  · have : ((l.length : Int) > 120) := by omega
    simp [hl, this]
  · have h1 : ¬ ((l.length : Int) > 120) := by omega
    simp only [h1, hl, decide_false, Bool.false_eq_true, if_false]
    refine (loop_val (fun s => ∃ i : Nat, s.1 = (i : Int) ∧ i ≤ l.length) (fun s => l.length - s.1.toNat) (fun s => (vfrom (l.drop s.1.toNat) s.1, ())) ?_ (s := (0, ())) ⟨0, rfl, by omega⟩)
    rintro ⟨_, _⟩ ⟨i, rfl, hi⟩
    by_cases hlt : i < l.length
    · have h2 : ((i : Int) < (l.length : Int)) := by omega
      have hd : l.drop i = l[i] :: l.drop (i + 1) := List.drop_eq_getElem_cons hlt
      simp only [h2, decide_true, if_true, atC_val (List.getElem?_eq_getElem hlt), ContainsRune_nl, Option.bind_some, Int.toNat_natCast, hd, vfrom]
      by_cases h3 : l[i].size > 80
      · have h3' : (80 : Int) < (l[i].size : Int) := by omega
        right; simp [h3, h3']
      · have h3' : ¬ (80 : Int) < (l[i].size : Int) := by omega
        by_cases h4 : nl l[i] = true
        · right; simp [h3, h3', h4, ContainsRune_nl]
        · left
          refine ⟨((i + 1 : Nat), ()), ?_, ⟨i + 1, rfl, hlt⟩, ?_, by simp; omega⟩
          · simp [h3', h4, ContainsRune_nl, wrap_i64 (n := (i : Int) + 1) (by omega) (by omega)]
          · simp [h3, h4]
    · have h2 : ¬ ((i : Int) < (l.length : Int)) := by omega
      right
      simp only [h2, decide_false, Bool.false_eq_true, if_false, Int.toNat_natCast, List.drop_eq_nil_of_le (show l.length ≤ i from by omega), vfrom]
      rfl

end Go.Proofs.Ytfepfapfogpfkaa.F
end
section
/- What the functions compute, said shortly: patches of texts. -/
namespace Go.Proofs.Ytfepfapfogpfkaa.F
open Go Go.Proofs.Ytfepfapfogpfkaa.V

abbrev Hunk := Int × List ByteArray × List ByteArray × Unit
abbrev Patch := List Hunk × Unit
abbrev Fault := Int × Int × Unit
def code (l : List ByteArray) : Int := (vF l).1
theorem lines_Code_eq (l : List ByteArray) : lines_Code_33 (l, ()) = some (code l, ()) := by
  unfold lines_Code_33
  simp [lines_Validate_eq, code]
theorem code_len {l : List ByteArray} (h : code l = 0) : l.length ≤ 120 := by
  unfold code vF at h
  split at h
  · cases h
  · omega
def hc (h : Hunk) (k : Int) : Int :=
  if h.1 < 0 ∨ h.1 > 120 then 3 else if code h.2.1 ≠ 0 then code h.2.1 else if code h.2.2.1 ≠ 0 then code h.2.2.1 else
  if (h.2.1 = [] ∧ h.2.2.1 = []) ∨ h.1 < k then 5 else if h.1 + h.2.1.length > 120 then 3 else 0
theorem len0 {α : Type} (l : List α) : ((l.length : Int) == 0) = l.isEmpty := by cases l <;> simp; omega
theorem End_eq (h : Hunk) (h0 : 0 ≤ h.1) (h1 : h.1 ≤ 4000000000000000000) (h2 : h.2.1.length ≤ 4000000000000000000) : textpatch_End_42 (h, ()) = some (h.1 + h.2.1.length, ()) := by
  unfold textpatch_End_42
  simp only []
  rw [wrap_i64 (by omega) (by omega)]
theorem hunkCode_eq (h : Hunk) (k : Int) : textpatch_hunkCode_55 (h, k, ()) = some (hc h k, ()) := by
  obtain ⟨at_, old, new, ⟨⟩⟩ := h
  unfold textpatch_hunkCode_55 hc
  simp only [lines_Code_eq, Option.bind_some]
  by_cases h1 : at_ < 0
  · simp [h1]
  · by_cases h2 : at_ > 120
    · simp [h1, h2]
    · have h2' : ¬ 120 < at_ := by omega
      by_cases h3 : code old = 0
      · by_cases h4 : code new = 0
        · have hl := code_len h3
          have hE : textpatch_End_42 ((at_, old, new, ()), ()) = some (at_ + old.length, ()) := End_eq _ (by omega) (by omega) (by simp; omega)
          have e1 := len0 old
          have e2 := len0 new
          simp only [h1, h2', h3, h4, e1, e2, hE, decide_false, Bool.false_eq_true, if_false, gt_iff_lt, bne_self_eq_false, or_self, ne_eq, not_true_eq_false, Option.bind_some]
          cases old with
          | nil =>
            cases new with
            | nil => simp
            | cons a l =>
              by_cases h5 : at_ < k
              · simp [h5]
              · have h6 : ¬ (120 : Int) < at_ + (([] : List ByteArray).length : Nat) := by simp; omega
                simp only [List.isEmpty_nil, List.isEmpty_cons, if_true, Bool.false_eq_true, if_false, h5, decide_false, h6, reduceCtorEq, and_false, or_self]
          | cons a l =>
            by_cases h5 : at_ < k
            · simp [h5]
            · by_cases h6 : (120 : Int) < at_ + ((a :: l).length : Nat)
              · simp only [List.isEmpty_cons, Bool.false_eq_true, if_false, h5, decide_false, h6, decide_true, if_true, reduceCtorEq, false_and, or_self]
              · simp only [List.isEmpty_cons, Bool.false_eq_true, if_false, h5, decide_false, h6, reduceCtorEq, false_and, or_self]
        · simp [h1, h2', h3, h4]
      · simp [h1, h2', h3]
theorem hc_zero {h : Hunk} {k : Int} (e : hc h k = 0) : 0 ≤ h.1 ∧ k ≤ h.1 ∧ h.1 + h.2.1.length ≤ 120 ∧ h.2.1.length ≤ 120 ∧ h.2.2.1.length ≤ 120 ∧ code h.2.1 = 0 ∧ code h.2.2.1 = 0 ∧ (h.2.1 ≠ [] ∨ h.2.2.1 ≠ []) := by
  unfold hc at e
  split at e
  · cases e
  · split at e
    · rename_i h1; exact absurd e h1
    · split at e
      · rename_i h1; exact absurd e h1
      · rename_i h1 h2 h3
        have h2 : code h.2.1 = 0 := by simpa using h2
        have h3 : code h.2.2.1 = 0 := by simpa using h3
        have l2 := code_len h2
        have l3 := code_len h3
        split at e
        · cases e
        · split at e
          · cases e
          · rename_i h4 h5
            refine ⟨by omega, by omega, by omega, l2, l3, h2, h3, ?_⟩
            by_cases hn : h.2.1 = []
            · exact .inr fun hn' => h4 (.inl ⟨hn, hn'⟩)
            · exact .inl hn
/-- The first hunk that is not as it should be. -/
def hfrom : List Hunk → Int → Int → Fault
  | [], _, _ => (0, 0, ())
  | h :: r, k, i => if hc h k ≠ 0 then (hc h k, i, ()) else hfrom r (h.1 + h.2.1.length + 1) (i + 1)
def pF (p : Patch) : Fault := if p.1.length > 130 then (2, -1, ()) else hfrom p.1 0 0
theorem textpatch_Validate_eq (p : Patch) : textpatch_Validate_41 (p, ()) = some (pF p, ()) := by
  obtain ⟨l, ⟨⟩⟩ := p
  unfold textpatch_Validate_41 pF
  by_cases hl : l.length > 130
  · have : (130 : Int) < (l.length : Int) := by omega
    simp [hl, this]
  · have h1 : ¬ (130 : Int) < (l.length : Int) := by omega
    simp only [gt_iff_lt, h1, show ¬ 130 < l.length from by omega, decide_false, Bool.false_eq_true, if_false]
    refine (loop_val (fun s => ∃ i : Nat, s.2.1 = (i : Int) ∧ i ≤ l.length) (fun s => l.length - s.2.1.toNat) (fun s => (hfrom (l.drop s.2.1.toNat) s.1 s.2.1, ())) ?_ (s := (0, 0, ())) ⟨0, rfl, by omega⟩)
    rintro ⟨k, _, _⟩ ⟨i, rfl, hi⟩
    by_cases hlt : i < l.length
    · have h2 : ((i : Int) < (l.length : Int)) := by omega
      have hd : l.drop i = l[i] :: l.drop (i + 1) := List.drop_eq_getElem_cons hlt
      generalize hx : l[i] = x at hd
      have hg : l[i]? = some x := by rw [List.getElem?_eq_getElem hlt, hx]
      obtain ⟨at_, old, new, ⟨⟩⟩ := x
      simp only [h2, decide_true, if_true, atC_val hg, hunkCode_eq, Option.bind_some, Int.toNat_natCast, hd, hfrom]
      by_cases h3 : hc (at_, old, new, ()) k = 0
      · left
        have hz := hc_zero h3
        simp only at hz
        have hE : textpatch_End_42 ((at_, old, new, ()), ()) = some (at_ + old.length, ()) := End_eq _ (by simp; omega) (by simp; omega) (by simp; omega)
        refine ⟨(at_ + old.length + 1, (i + 1 : Nat), ()), ?_, ⟨i + 1, rfl, hlt⟩, ?_, by simp; omega⟩
        · simp [h3, hE, wrap_i64 (n := (i : Int) + 1) (by omega) (by omega), wrap_i64 (n := at_ + old.length + 1) (by omega) (by omega)]
        · simp [h3]
      · right; simp [h3]
    · have h2 : ¬ ((i : Int) < (l.length : Int)) := by omega
      right
      simp only [h2, decide_false, Bool.false_eq_true, if_false, Int.toNat_natCast, List.drop_eq_nil_of_le (show l.length ≤ i from by omega), hfrom]
      rfl
/-- The first patch that is not as it should be. -/
def sfrom : List Patch → Int → Fault
  | [], _ => (0, 0, ())
  | p :: r, i => if pF p = (0, 0, ()) then sfrom r (i + 1) else ((pF p).1, i, ())
def sF (l : List Patch) : Fault := if l.length > 12 then (2, -1, ()) else sfrom l 0
end Go.Proofs.Ytfepfapfogpfkaa.F
end
section
/- What the functions compute, said shortly: stacks. -/
namespace Go.Proofs.Ytfepfapfogpfkaa.F
open Go Go.Proofs.Ytfepfapfogpfkaa.V

theorem stack_Validate_eq (l : List Patch) : stack_Validate_23 (l, ()) = some (sF l, ()) := by
  unfold stack_Validate_23 sF
  by_cases hl : l.length > 12
  · have : (12 : Int) < (l.length : Int) := by omega
    simp [hl, this]
  · have h1 : ¬ (12 : Int) < (l.length : Int) := by omega
    simp only [gt_iff_lt, h1, show ¬ 12 < l.length from by omega, decide_false, Bool.false_eq_true, if_false]
    refine (loop_val (fun s => ∃ i : Nat, s.1 = (i : Int) ∧ i ≤ l.length) (fun s => l.length - s.1.toNat) (fun s => (sfrom (l.drop s.1.toNat) s.1, ())) ?_ (s := (0, ())) ⟨0, rfl, by omega⟩)
    rintro ⟨_, _⟩ ⟨i, rfl, hi⟩
    by_cases hlt : i < l.length
    · have h2 : ((i : Int) < (l.length : Int)) := by omega
      have hd : l.drop i = l[i] :: l.drop (i + 1) := List.drop_eq_getElem_cons hlt
      generalize hx : l[i] = x at hd
      have hg : l[i]? = some x := by rw [List.getElem?_eq_getElem hlt, hx]
      obtain ⟨hs, ⟨⟩⟩ := x
      simp only [h2, decide_true, if_true, atC_val hg, textpatch_Validate_eq, Option.bind_some, Int.toNat_natCast, hd, sfrom]
      generalize pF (hs, ()) = F
      obtain ⟨c, j, ⟨⟩⟩ := F
      by_cases h3 : c = 0 ∧ j = 0
      · obtain ⟨rfl, rfl⟩ := h3
        left
        refine ⟨((i + 1 : Nat), ()), ?_, ⟨i + 1, rfl, hlt⟩, ?_, by simp; omega⟩
        · simp [wrap_i64 (n := (i : Int) + 1) (by omega) (by omega)]
        · simp
      · right
        have h3' : ¬ ((c, j, ()) : Fault) = (0, 0, ()) := fun e => h3 (by simpa using e)
        have h3'' : (c == 0 && (j == 0 && true)) = false := by
          rw [Bool.eq_false_iff]; intro e; simp at e; exact h3 e
        simp only [h3'', h3', Bool.not_false, if_true, if_false]
    · have h2 : ¬ ((i : Int) < (l.length : Int)) := by omega
      right
      simp only [h2, decide_false, Bool.false_eq_true, if_false, Int.toNat_natCast, List.drop_eq_nil_of_le (show l.length ≤ i from by omega), sfrom]
      rfl

def posF (n i k : Int) : Fault := if i < 0 ∨ i ≥ n then (3, k, ()) else (0, 0, ())
theorem position_eq (l : List Patch) (i k : Int) : stack_position_24 (l, i, k, ()) = some (posF l.length i k, ()) := by
  unfold stack_position_24 posF
  by_cases h1 : i < 0
  · simp [h1]
  · by_cases h2 : i ≥ (l.length : Int)
    · simp [h1, h2]
    · simp [h1, h2]
def faultF (f : Fault) : Fault := if f.1 = 0 ∧ f.2.1 = 0 then f else (f.1, -1, ())
theorem fault_eq (f : Fault) : stack_fault_27 (f, ()) = some (faultF f, ()) := by
  obtain ⟨c, j, ⟨⟩⟩ := f
  unfold stack_fault_27 faultF
  by_cases h : c = 0 ∧ j = 0
  · obtain ⟨rfl, rfl⟩ := h; simp
  · have : (c == 0 && (j == 0 && true)) = false := by
      rw [Bool.eq_false_iff]; intro e; simp at e; exact h e
    simp only [this, h, Bool.not_false, if_true, if_false]

theorem Clone_eq (l : List ByteArray) (h : l.length ≤ 1000000) : slices_Clone___string_string__34 (l, ()) = some (l, ()) := by
  unfold slices_Clone___string_string__34
  simp only []
  rw [nilC_val]
  · simp [maxLen]; omega
  · rintro rfl; simp [maxLen]
theorem Moved_eq (h : Hunk) (k : Int) (h1 : h.2.1.length ≤ 1000000) (h2 : h.2.2.1.length ≤ 1000000) : textpatch_Moved_49 (h, k, ()) = some ((k, h.2.1, h.2.2.1, ()), ()) := by
  unfold textpatch_Moved_49
  simp [Clone_eq _ h1, Clone_eq _ h2]

/-- Small enough. -/
def okH (h : Hunk) : Prop := h.2.1.length ≤ 1000000 ∧ h.2.2.1.length ≤ 1000000
def okP (p : Patch) : Prop := p.1.length ≤ 1000000 ∧ ∀ h ∈ p.1, okH h
theorem clone_eq (l : List Patch) (hl : l.length ≤ 1000000) (hp : ∀ p ∈ l, okP p) : stack_clone_25 (l, ()) = some (l, ()) := by
  unfold stack_clone_25
  simp only []
  refine (loop_val (fun s => ∃ i : Nat, s.2.1 = (i : Int) ∧ i ≤ l.length ∧ s.1 = l.take i) (fun s => l.length - s.2.1.toNat) (fun s => (l, ())) ?_ (s := ([], 0, ())) ⟨0, rfl, by omega, rfl⟩)
  rintro ⟨_, _, _⟩ ⟨i, rfl, hi, rfl⟩
  by_cases hlt : i < l.length
  · left
    have h2 : ((i : Int) < (l.length : Int)) := by omega
    have hg : l[i]? = some l[i] := List.getElem?_eq_getElem hlt
    have hpi := hp _ (List.getElem_mem hlt)
    have ht : l.take (i + 1) = l.take i ++ [l[i]] := by rw [List.take_add_one, hg]; rfl
    generalize l[i] = x at hg hpi ht
    obtain ⟨hs, ⟨⟩⟩ := x
    have hlen : (l.take i).length = i := by rw [List.length_take]; omega
    refine ⟨(l.take (i + 1), (i + 1 : Nat), ()), ?_, ⟨i + 1, rfl, hlt, rfl⟩, rfl, by simp; omega⟩
    simp only [h2, decide_true, if_true, atC_val hg]
    refine (loop_val (fun s => s.1 = l.take i ∧ s.2.1 = (i : Int) ∧ s.2.2.1 = hs ∧ s.2.2.2.1 = (hs.length : Int) ∧ ∃ j : Nat, s.2.2.2.2.1 = (j : Int) ∧ j ≤ hs.length ∧ s.2.2.2.2.2.1 = hs.take j) (fun s => hs.length - s.2.2.2.2.1.toNat) (fun s => Sum.inl (l.take (i + 1), ((i + 1 : Nat) : Int), ())) ?_ (s := (l.take i, (i : Int), hs, (hs.length : Int), 0, [], ())) ⟨rfl, rfl, rfl, rfl, 0, rfl, by omega, rfl⟩)
    rintro ⟨a1, a2, a3, a4, a5, a6, ⟨⟩⟩ ⟨h1, h3, h4, h5, j, h6, hj, h7⟩
    simp only at h1 h3 h4 h5 h6 h7
    subst h1 h3 h4 h5 h6 h7
    by_cases hjl : j < a3.length
    · left
      have h8 : ((j : Int) < (a3.length : Int)) := by omega
      have hg' : a3[j]? = some a3[j] := List.getElem?_eq_getElem hjl
      have hh := hpi.2 _ (List.getElem_mem hjl)
      have ht' : a3.take (j + 1) = a3.take j ++ [a3[j]] := by rw [List.take_add_one, hg']; rfl
      have hpl := hpi.1
      generalize a3[j] = y at hg' hh ht'
      obtain ⟨at_, old, new, ⟨⟩⟩ := y
      refine ⟨(l.take i, (i : Int), a3, (a3.length : Int), (j + 1 : Nat), a3.take (j + 1), ()), ?_, ⟨rfl, rfl, rfl, rfl, j + 1, rfl, hjl, rfl⟩, rfl, by simp; omega⟩
      have hlj : (a3.take j).length = j := by rw [List.length_take]; omega
      simp only at hpl
      simp only [h8, decide_true, if_true, atC_val hg', Moved_eq (at_, old, new, ()) at_ hh.1 hh.2, Option.bind_some, hlj, List.length_cons, List.length_nil, ← ht', wrap_i64 (n := (j : Int) + 1) (by omega) (by omega)]
      rw [if_pos ⟨by omega, by simp [maxLen]; omega⟩]
      rfl
    · right
      have h8 : ¬ ((j : Int) < (a3.length : Int)) := by omega
      simp only [h8, decide_false, Bool.false_eq_true, if_false, List.take_of_length_le (show a3.length ≤ j from by omega), hlen, List.length_cons, List.length_nil, wrap_i64 (n := (i : Int) + 1) (by omega) (by omega)]
      rw [if_pos ⟨by omega, by simp [maxLen]; omega⟩, ht]
      rfl
  · right
    have h2 : ¬ ((i : Int) < (l.length : Int)) := by omega
    simp only [h2, decide_false, Bool.false_eq_true, if_false, List.take_of_length_le (show l.length ≤ i from by omega)]
    rfl
end Go.Proofs.Ytfepfapfogpfkaa.F
end
section
/- What the functions compute, said shortly: exchanging patches. -/
namespace Go.Proofs.Ytfepfapfogpfkaa.F
open Go Go.Proofs.Ytfepfapfogpfkaa.V

abbrev Span := Int × Int × Unit
/-- A patch within bounds. -/
def bdH (h : Hunk) : Prop := 0 ≤ h.1 ∧ h.1 ≤ 120 ∧ h.2.1.length ≤ 120 ∧ h.2.2.1.length ≤ 120
def bd (p : Patch) : Prop := p.1.length ≤ 130 ∧ ∀ h ∈ p.1, bdH h
theorem hfrom_bd : ∀ {l : List Hunk} {k i : Int}, hfrom l k i = (0, 0, ()) → ∀ h ∈ l, bdH h
  | [], _, _, _, h, hh => by cases hh
  | h :: r, k, i, e, h', hh => by
    simp only [hfrom] at e
    split at e
    · rename_i hne
      injection e with e1 e2
      exact absurd e1 hne
    · rename_i hz
      have hz : hc h k = 0 := by simpa using hz
      rcases List.mem_cons.1 hh with rfl | hh
      · have := hc_zero hz
        exact ⟨this.1, by omega, by omega, by omega⟩
      · exact hfrom_bd e h' hh
theorem pF_bd {p : Patch} (e : pF p = (0, 0, ())) : bd p := by
  unfold pF at e
  split at e
  · injection e with e; cases e
  · exact ⟨by omega, hfrom_bd e⟩
theorem bd_ok {p : Patch} (h : bd p) : okP p := ⟨by have := h.1; omega, fun x hx => by have := h.2 x hx; exact ⟨by have := this.2.2.1; omega, by have := this.2.2.2; omega⟩⟩

def dl (h : Hunk) : Int := (h.2.2.1.length : Int) - h.2.1.length
def sh (l : List Hunk) : Int := (l.map dl).sum
def newsF : List Hunk → Int → List Span
  | [], _ => []
  | h :: r, s => (h.1 + s, h.1 + s + h.2.2.1.length, ()) :: newsF r (s + dl h)
theorem newsF_app : ∀ (l m : List Hunk) (s : Int), newsF (l ++ m) s = newsF l s ++ newsF m (s + sh l)
  | [], m, s => by simp [newsF, sh]
  | h :: l, m, s => by
    simp only [List.cons_append, newsF, newsF_app l m, sh, List.map_cons, List.sum_cons, Int.add_assoc]
theorem newsF_len : ∀ (l : List Hunk) (s : Int), (newsF l s).length = l.length
  | [], _ => rfl
  | h :: l, s => by simp [newsF, newsF_len l]
theorem sh_bd : ∀ {l : List Hunk}, (∀ h ∈ l, bdH h) → -(120 * (l.length : Int)) ≤ sh l ∧ sh l ≤ 120 * (l.length : Int)
  | [], _ => by simp [sh]
  | h :: l, hh => by
    have h1 := sh_bd (l := l) fun x hx => hh x (by simp [hx])
    have h2 := hh h (by simp)
    simp only [sh, List.map_cons, List.sum_cons, List.length_cons] at h1 ⊢
    have := h2.2.2.1
    have := h2.2.2.2
    have e : dl h = (h.2.2.1.length : Int) - h.2.1.length := rfl
    omega
theorem sh_snoc (l : List Hunk) (h : Hunk) : sh (l ++ [h]) = sh l + dl h := by simp [sh]
theorem news_eq (p : Patch) (hp : bd p) : commute_news_37 (p, ()) = some (newsF p.1 0, ()) := by
  obtain ⟨l, ⟨⟩⟩ := p
  obtain ⟨hl, hb⟩ := hp
  simp only at hl hb
  unfold commute_news_37
  simp only []
  refine (loop_val (fun s => ∃ i : Nat, s.2.2.1 = (i : Int) ∧ i ≤ l.length ∧ s.1 = newsF (l.take i) 0 ∧ s.2.1 = sh (l.take i)) (fun s => l.length - s.2.2.1.toNat) (fun s => (newsF l 0, ())) ?_ (s := ([], 0, 0, ())) ⟨0, rfl, by omega, rfl, rfl⟩)
  rintro ⟨a1, a2, a3, ⟨⟩⟩ ⟨i, h1, hi, h2, h3⟩
  simp only at h1 h2 h3
  subst h1 h2 h3
  by_cases hlt : i < l.length
  · left
    have h2 : ((i : Int) < (l.length : Int)) := by omega
    have hg : l[i]? = some l[i] := List.getElem?_eq_getElem hlt
    have hbi := hb _ (List.getElem_mem hlt)
    have ht : l.take (i + 1) = l.take i ++ [l[i]] := by rw [List.take_add_one, hg]; rfl
    generalize l[i] = x at hg hbi ht
    obtain ⟨at_, old, new, ⟨⟩⟩ := x
    obtain ⟨b1, b2, b3, b4⟩ := hbi
    simp only at b1 b2 b3 b4
    have hs := sh_bd (l := l.take i) fun x hx => hb x (List.mem_of_mem_take hx)
    have hlen : (l.take i).length = i := by rw [List.length_take]; omega
    rw [hlen] at hs
    have e1 : sh (l.take (i + 1)) = sh (l.take i) + ((new.length : Int) - old.length) := by rw [ht, sh_snoc]; rfl
    have e2 : newsF (l.take (i + 1)) 0 = newsF (l.take i) 0 ++ [(at_ + sh (l.take i), at_ + sh (l.take i) + new.length, ())] := by rw [ht, newsF_app]; simp [newsF]
    refine ⟨(newsF (l.take (i + 1)) 0, sh (l.take (i + 1)), (i + 1 : Nat), ()), ?_, ⟨i + 1, rfl, hlt, rfl, rfl⟩, rfl, by simp; omega⟩
    generalize sh (l.take i) = S at hs e1 e2
    simp only [h2, decide_true, if_true, atC_val hg, wrap_i64 (n := at_ + S) (by omega) (by omega), wrap_i64 (n := at_ + S + (new.length : Int)) (by omega) (by omega), wrap_i64 (n := (new.length : Int) - (old.length : Int)) (by omega) (by omega), wrap_i64 (n := S + ((new.length : Int) - (old.length : Int))) (by omega) (by omega), wrap_i64 (n := (i : Int) + 1) (by omega) (by omega), newsF_len, hlen, List.length_cons, List.length_nil, ← e2]
    rw [if_pos ⟨by omega, by simp [maxLen]; omega⟩, e1]
    rfl
  · right
    have h2 : ¬ ((i : Int) < (l.length : Int)) := by omega
    simp only [h2, decide_false, Bool.false_eq_true, if_false, List.take_of_length_le (show l.length ≤ i from by omega)]
    rfl

def oldsF (l : List Hunk) : List Span := l.map fun h => (h.1, h.1 + h.2.1.length, ())
theorem olds_eq (p : Patch) (hp : bd p) : commute_olds_38 (p, ()) = some (oldsF p.1, ()) := by
  obtain ⟨l, ⟨⟩⟩ := p
  obtain ⟨hl, hb⟩ := hp
  simp only at hl hb
  unfold commute_olds_38
  simp only []
  refine (loop_val (fun s => ∃ i : Nat, s.2.1 = (i : Int) ∧ i ≤ l.length ∧ s.1 = oldsF (l.take i)) (fun s => l.length - s.2.1.toNat) (fun s => (oldsF l, ())) ?_ (s := ([], 0, ())) ⟨0, rfl, by omega, rfl⟩)
  rintro ⟨a1, a2, ⟨⟩⟩ ⟨i, h1, hi, h2⟩
  simp only at h1 h2
  subst h1 h2
  by_cases hlt : i < l.length
  · left
    have h2 : ((i : Int) < (l.length : Int)) := by omega
    have hg : l[i]? = some l[i] := List.getElem?_eq_getElem hlt
    have hbi := hb _ (List.getElem_mem hlt)
    have ht : l.take (i + 1) = l.take i ++ [l[i]] := by rw [List.take_add_one, hg]; rfl
    generalize l[i] = x at hg hbi ht
    obtain ⟨at_, old, new, ⟨⟩⟩ := x
    obtain ⟨b1, b2, b3, b4⟩ := hbi
    simp only at b1 b2 b3 b4
    have hlen : (oldsF (l.take i)).length = i := by rw [oldsF, List.length_map, List.length_take]; omega
    have e2 : oldsF (l.take (i + 1)) = oldsF (l.take i) ++ [(at_, at_ + old.length, ())] := by rw [ht]; simp [oldsF]
    have hE : textpatch_End_42 ((at_, old, new, ()), ()) = some (at_ + old.length, ()) := End_eq _ (by simp; omega) (by simp; omega) (by simp; omega)
    refine ⟨(oldsF (l.take (i + 1)), (i + 1 : Nat), ()), ?_, ⟨i + 1, rfl, hlt, rfl⟩, rfl, by simp; omega⟩
    simp only [h2, decide_true, if_true, atC_val hg, hE, Option.bind_some, wrap_i64 (n := (i : Int) + 1) (by omega) (by omega), hlen, List.length_cons, List.length_nil, ← e2]
    rw [if_pos ⟨by omega, by simp [maxLen]; omega⟩]
    rfl
  · right
    have h2 : ¬ ((i : Int) < (l.length : Int)) := by omega
    simp only [h2, decide_false, Bool.false_eq_true, if_false, List.take_of_length_le (show l.length ≤ i from by omega)]
    rfl
def apF (x y : Span) : Bool := decide (x.2.1 < y.1) || decide (y.2.1 < x.1)
theorem apart_eq (x y : Span) : commute_apart_53 (x, y, ()) = some (apF x y, ()) := by
  obtain ⟨a, b, ⟨⟩⟩ := x
  obtain ⟨c, d, ⟨⟩⟩ := y
  unfold commute_apart_53 apF
  by_cases h : b < c <;> simp [h]
def inF (a b : List Span) : Bool := a.all fun x => b.all fun y => apF x y
theorem independent_eq (a b : List Span) (ha : a.length ≤ 1000000) (hb : b.length ≤ 1000000) : commute_independent_36 (a, b, ()) = some (inF a b, ()) := by
  unfold commute_independent_36
  simp only []
  refine (loop_val (fun s => ∃ i : Nat, s.1 = (i : Int) ∧ i ≤ a.length) (fun s => a.length - s.1.toNat) (fun s => (inF (a.drop s.1.toNat) b, ())) ?_ (s := (0, ())) ⟨0, rfl, by omega⟩)
  rintro ⟨a1, ⟨⟩⟩ ⟨i, h1, hi⟩
  simp only at h1
  subst h1
  by_cases hlt : i < a.length
  · have h2 : ((i : Int) < (a.length : Int)) := by omega
    have hg : a[i]? = some a[i] := List.getElem?_eq_getElem hlt
    have hd : a.drop i = a[i] :: a.drop (i + 1) := List.drop_eq_getElem_cons hlt
    generalize a[i] = x at hg hd
    obtain ⟨lo, hi', ⟨⟩⟩ := x
    simp only [h2, decide_true, if_true, atC_val hg, Int.toNat_natCast, hd]
    by_cases hall : b.all (fun y => apF (lo, hi', ()) y) = true
    · left
      refine ⟨((i + 1 : Nat), ()), ?_, ⟨i + 1, rfl, hlt⟩, by simp [inF, hall], by simp; omega⟩
      refine (loop_val (fun s => s.1 = (i : Int) ∧ s.2.1 = (b.length : Int) ∧ s.2.2.2.1 = lo ∧ s.2.2.2.2.1 = hi' ∧ ∃ j : Nat, s.2.2.1 = (j : Int) ∧ j ≤ b.length) (fun s => b.length - s.2.2.1.toNat) (fun s => Sum.inl (((i + 1 : Nat) : Int), ())) ?_ (s := ((i : Int), (b.length : Int), 0, lo, hi', ())) ⟨rfl, rfl, rfl, rfl, 0, rfl, by omega⟩)
      rintro ⟨c1, c2, c3, c4, c5, ⟨⟩⟩ ⟨g1, g2, g3, g4, j, g5, hj⟩
      simp only at g1 g2 g3 g4 g5
      subst g1 g2 g3 g4 g5
      by_cases hjl : j < b.length
      · left
        have h8 : ((j : Int) < (b.length : Int)) := by omega
        have hg' : b[j]? = some b[j] := List.getElem?_eq_getElem hjl
        have hy := List.all_eq_true.1 hall _ (List.getElem_mem hjl)
        generalize b[j] = y at hg' hy
        obtain ⟨lo', hi'', ⟨⟩⟩ := y
        refine ⟨((i : Int), (b.length : Int), (j + 1 : Nat), c4, c5, ()), ?_, ⟨rfl, rfl, rfl, rfl, j + 1, rfl, hjl⟩, rfl, by simp; omega⟩
        simp only [h8, decide_true, if_true, atC_val hg', apart_eq, hy, Option.bind_some, Bool.not_true, Bool.false_eq_true, if_false, wrap_i64 (n := (j : Int) + 1) (by omega) (by omega)]
        rfl
      · right
        have h8 : ¬ ((j : Int) < (b.length : Int)) := by omega
        simp only [h8, decide_false, Bool.false_eq_true, if_false, wrap_i64 (n := (i : Int) + 1) (by omega) (by omega)]
        rfl
    · right
      have hres : inF ((lo, hi', ()) :: a.drop (i + 1)) b = false := by simp only [inF, List.all_cons]; rw [Bool.eq_false_iff]; intro e; rw [Bool.and_eq_true] at e; exact hall e.1
      rw [hres]
      refine (loop_val (fun s => s.1 = (i : Int) ∧ s.2.1 = (b.length : Int) ∧ s.2.2.2.1 = lo ∧ s.2.2.2.2.1 = hi' ∧ ∃ j : Nat, s.2.2.1 = (j : Int) ∧ j ≤ b.length ∧ ¬ (b.drop j).all (fun y => apF (lo, hi', ()) y) = true) (fun s => b.length - s.2.2.1.toNat) (fun s => Sum.inr (false, ())) ?_ (s := ((i : Int), (b.length : Int), 0, lo, hi', ())) ⟨rfl, rfl, rfl, rfl, 0, rfl, by omega, hall⟩)
      rintro ⟨c1, c2, c3, c4, c5, ⟨⟩⟩ ⟨g1, g2, g3, g4, j, g5, hj, hn⟩
      simp only at g1 g2 g3 g4 g5
      subst g1 g2 g3 g4 g5
      by_cases hjl : j < b.length
      · have h8 : ((j : Int) < (b.length : Int)) := by omega
        have hg' : b[j]? = some b[j] := List.getElem?_eq_getElem hjl
        have hd' : b.drop j = b[j] :: b.drop (j + 1) := List.drop_eq_getElem_cons hjl
        generalize b[j] = y at hg' hd'
        obtain ⟨lo', hi'', ⟨⟩⟩ := y
        simp only [h8, decide_true, if_true, atC_val hg', apart_eq, Option.bind_some]
        cases hy : apF (c4, c5, ()) (lo', hi'', ()) with
        | true =>
          left
          refine ⟨((i : Int), (b.length : Int), (j + 1 : Nat), c4, c5, ()), ?_, ⟨rfl, rfl, rfl, rfl, j + 1, rfl, hjl, ?_⟩, trivial, by simp; omega⟩
          · simp only [Bool.not_true, Bool.false_eq_true, if_false, wrap_i64 (n := (j : Int) + 1) (by omega) (by omega)]
            rfl
          · rw [hd', List.all_cons, hy, Bool.true_and] at hn; exact hn
        | false => right; rfl
      · exfalso
        rw [List.drop_eq_nil_of_le (by omega)] at hn
        exact hn rfl
  · have h2 : ¬ ((i : Int) < (a.length : Int)) := by omega
    right
    simp only [h2, decide_false, Bool.false_eq_true, if_false, Int.toNat_natCast, List.drop_eq_nil_of_le (show a.length ≤ i from by omega)]
    rfl
end Go.Proofs.Ytfepfapfogpfkaa.F
end
section
/- What the functions compute, said shortly: exchanging patches, whole. -/
namespace Go.Proofs.Ytfepfapfogpfkaa.F
open Go Go.Proofs.Ytfepfapfogpfkaa.V

def growF : List Hunk → List Span → Int → Int
  | h :: r, s :: t, k => (if s.2.1 < k then dl h else 0) + growF r t k
  | _, _, _ => 0
theorem growF_snoc {h : Hunk} {s : Span} {k : Int} : ∀ {l : List Hunk} {m : List Span}, l.length = m.length → growF (l ++ [h]) (m ++ [s]) k = growF l m k + if s.2.1 < k then dl h else 0
  | [], [], _ => by simp [growF]
  | a :: l, b :: m, e => by
    simp only [List.cons_append, growF, growF_snoc (l := l) (m := m) (by simpa using e), Int.add_assoc]
  | [], _ :: _, e => by simp at e
  | _ :: _, [], e => by simp at e
theorem growF_bd {k : Int} : ∀ {l : List Hunk} {m : List Span}, (∀ h ∈ l, bdH h) → -(120 * (l.length : Int)) ≤ growF l m k ∧ growF l m k ≤ 120 * (l.length : Int)
  | [], _, _ => by simp [growF]
  | h :: l, [], _ => by simp only [growF, List.length_cons]; omega
  | h :: l, b :: m, hh => by
    have h1 := growF_bd (k := k) (l := l) (m := m) fun x hx => hh x (by simp [hx])
    have h2 := hh h (by simp)
    have := h2.2.2.1
    have := h2.2.2.2
    have e : dl h = (h.2.2.1.length : Int) - h.2.1.length := rfl
    simp only [growF, List.length_cons]
    split <;> omega
theorem growth_eq (p : Patch) (sp : List Span) (k : Int) (hp : bd p) (hs : sp.length = p.1.length) : commute_growth_54 (p, sp, k, ()) = some (growF p.1 sp k, ()) := by
  obtain ⟨l, ⟨⟩⟩ := p
  obtain ⟨hl, hb⟩ := hp
  simp only at hl hb hs
  unfold commute_growth_54
  simp only []
  refine (loop_val (fun s => ∃ i : Nat, s.2.1 = (i : Int) ∧ i ≤ l.length ∧ s.1 = growF (l.take i) (sp.take i) k) (fun s => l.length - s.2.1.toNat) (fun s => (growF l sp k, ())) ?_ (s := (0, 0, ())) ⟨0, rfl, by omega, rfl⟩)
  rintro ⟨a1, a2, ⟨⟩⟩ ⟨i, h1, hi, h2⟩
  simp only at h1 h2
  subst h1 h2
  by_cases hlt : i < l.length
  · left
    have h2 : ((i : Int) < (l.length : Int)) := by omega
    have hg : l[i]? = some l[i] := List.getElem?_eq_getElem hlt
    have hlt' : i < sp.length := by omega
    have hg' : sp[i]? = some sp[i] := List.getElem?_eq_getElem hlt'
    have hbi := hb _ (List.getElem_mem hlt)
    have ht : l.take (i + 1) = l.take i ++ [l[i]] := by rw [List.take_add_one, hg]; rfl
    have ht' : sp.take (i + 1) = sp.take i ++ [sp[i]] := by rw [List.take_add_one, hg']; rfl
    generalize l[i] = x at hg hbi ht
    generalize sp[i] = y at hg' ht'
    obtain ⟨at_, old, new, ⟨⟩⟩ := x
    obtain ⟨lo, hi', ⟨⟩⟩ := y
    obtain ⟨b1, b2, b3, b4⟩ := hbi
    simp only at b1 b2 b3 b4
    have hlen : (l.take i).length = i := by rw [List.length_take]; omega
    have hlen' : (sp.take i).length = i := by rw [List.length_take]; omega
    have hgb := growF_bd (k := k) (m := sp.take i) (l := l.take i) fun x hx => hb x (List.mem_of_mem_take hx)
    rw [hlen] at hgb
    have e1 : growF (l.take (i + 1)) (sp.take (i + 1)) k = growF (l.take i) (sp.take i) k + if hi' < k then (new.length : Int) - old.length else 0 := by rw [ht, ht', growF_snoc (by rw [hlen, hlen'])]; rfl
    refine ⟨(growF (l.take (i + 1)) (sp.take (i + 1)) k, (i + 1 : Nat), ()), ?_, ⟨i + 1, rfl, hlt, rfl⟩, rfl, by simp; omega⟩
    generalize growF (l.take i) (sp.take i) k = S at hgb e1
    by_cases hk : hi' < k
    · rw [if_pos hk] at e1
      simp only [h2, decide_true, if_true, atC_val hg, atC_val hg', hk, wrap_i64 (n := (new.length : Int) - (old.length : Int)) (by omega) (by omega), wrap_i64 (n := S + ((new.length : Int) - (old.length : Int))) (by omega) (by omega), wrap_i64 (n := (i : Int) + 1) (by omega) (by omega), e1]
      rfl
    · rw [if_neg hk] at e1
      simp only [h2, decide_true, if_true, atC_val hg, atC_val hg', hk, decide_false, Bool.false_eq_true, if_false, wrap_i64 (n := (i : Int) + 1) (by omega) (by omega), e1, Int.add_zero]
      rfl
  · right
    have h2 : ¬ ((i : Int) < (l.length : Int)) := by omega
    simp only [h2, decide_false, Bool.false_eq_true, if_false, List.take_of_length_le (show l.length ≤ i from by omega), List.take_of_length_le (show sp.length ≤ i from by omega)]
    rfl

def shiftL (l by_ : List Hunk) (sp : List Span) (sg : Int) : List Hunk := l.map fun h => (h.1 + sg * growF by_ sp h.1, h.2.1, h.2.2.1, ())
theorem shifted_eq (p q : Patch) (sp : List Span) (sg : Int) (hp : bd p) (hq : bd q) (hs : sp.length = q.1.length) (hsg : sg = 1 ∨ sg = -1) : commute_shifted_40 (p, q, sp, sg, ()) = some ((shiftL p.1 q.1 sp sg, ()), ()) := by
  obtain ⟨l, ⟨⟩⟩ := p
  obtain ⟨m, ⟨⟩⟩ := q
  obtain ⟨hl, hb⟩ := hp
  have hq' := hq
  obtain ⟨hm, hbm⟩ := hq
  simp only at hl hb hm hbm hs
  unfold commute_shifted_40
  simp only []
  refine (loop_val (fun s => ∃ i : Nat, s.1 = (i : Int) ∧ i ≤ l.length ∧ s.2.1 = shiftL (l.take i) m sp sg) (fun s => l.length - s.1.toNat) (fun s => ((shiftL l m sp sg, ()), ())) ?_ (s := (0, [], ())) ⟨0, rfl, by omega, rfl⟩)
  rintro ⟨a1, a2, ⟨⟩⟩ ⟨i, h1, hi, h2⟩
  simp only at h1 h2
  subst h1 h2
  by_cases hlt : i < l.length
  · left
    have h2 : ((i : Int) < (l.length : Int)) := by omega
    have hg : l[i]? = some l[i] := List.getElem?_eq_getElem hlt
    have hbi := hb _ (List.getElem_mem hlt)
    have ht : l.take (i + 1) = l.take i ++ [l[i]] := by rw [List.take_add_one, hg]; rfl
    generalize l[i] = x at hg hbi ht
    obtain ⟨at_, old, new, ⟨⟩⟩ := x
    obtain ⟨b1, b2, b3, b4⟩ := hbi
    simp only at b1 b2 b3 b4
    have hlen : (shiftL (l.take i) m sp sg).length = i := by rw [shiftL, List.length_map, List.length_take]; omega
    have hgb := growF_bd (k := at_) (m := sp) hbm
    have e2 : shiftL (l.take (i + 1)) m sp sg = shiftL (l.take i) m sp sg ++ [(at_ + sg * growF m sp at_, old, new, ())] := by rw [ht]; simp [shiftL]
    have hG : commute_growth_54 ((m, ()), sp, at_, ()) = some (growF m sp at_, ()) := growth_eq (m, ()) sp at_ hq' hs
    refine ⟨((i + 1 : Nat), shiftL (l.take (i + 1)) m sp sg, ()), ?_, ⟨i + 1, rfl, hlt, rfl⟩, rfl, by simp; omega⟩
    generalize growF m sp at_ = S at hgb e2 hG
    have hsS : -(120 * (m.length : Int)) ≤ sg * S ∧ sg * S ≤ 120 * (m.length : Int) := by rcases hsg with rfl | rfl <;> omega
    have hM : ∀ T : Int, textpatch_Moved_49 ((at_, old, new, ()), T, ()) = some ((T, old, new, ()), ()) := fun T => Moved_eq _ _ (by simp; omega) (by simp; omega)
    simp only [h2, decide_true, if_true, atC_val hg, hG, Option.bind_some, wrap_i64 (n := sg * S) (by omega) (by omega), wrap_i64 (n := at_ + sg * S) (by omega) (by omega), hM, hlen, List.length_cons, List.length_nil, wrap_i64 (n := (i : Int) + 1) (by omega) (by omega), ← e2]
    rw [if_pos ⟨by omega, by simp [maxLen]; omega⟩]
    rfl
  · right
    have h2 : ¬ ((i : Int) < (l.length : Int)) := by omega
    simp only [h2, decide_false, Bool.false_eq_true, if_false, List.take_of_length_le (show l.length ≤ i from by omega)]
    rfl
theorem shiftL_len {l by_ : List Hunk} {sp : List Span} {sg : Int} : (shiftL l by_ sp sg).length = l.length := by simp [shiftL]
theorem f0 (f : Fault) : (f.1 == 0 && (f.2.1 == 0 && true)) = decide (f = (0, 0, ())) := by
  obtain ⟨c, j, ⟨⟩⟩ := f
  by_cases h : c = 0 ∧ j = 0
  · obtain ⟨rfl, rfl⟩ := h; rfl
  · rw [decide_eq_false (fun e => h (by simpa using e)), Bool.eq_false_iff]
    intro e; simp at e; exact h e
theorem Fit_eq (p : Patch) : textpatch_Fit_39 (p, ()) = some (if pF p = (0, 0, ()) then (p, (0, 0, ()), ()) else (([], ()), (10, -1, ()), ())) := by
  obtain ⟨l, ⟨⟩⟩ := p
  unfold textpatch_Fit_39
  simp only [textpatch_Validate_eq, Option.bind_some, f0]
  by_cases h : pF (l, ()) = (0, 0, ()) <;> simp [h]
def chF (p q : Patch) : Fault := if pF p = (0, 0, ()) then (if pF q = (0, 0, ()) then (0, 0, ()) else ((pF q).1, -2, ())) else pF p
theorem check_eq (p q : Patch) : commute_check_35 (p, q, ()) = some (chF p q, ()) := by
  obtain ⟨l, ⟨⟩⟩ := p
  obtain ⟨m, ⟨⟩⟩ := q
  unfold commute_check_35 chF
  have e1 := f0 (pF (l, ()))
  have e2 := f0 (pF (m, ()))
  simp only [textpatch_Validate_eq, Option.bind_some]
  generalize pF (l, ()) = f at e1
  generalize pF (m, ()) = g at e2
  obtain ⟨c, j, ⟨⟩⟩ := f
  obtain ⟨d, k, ⟨⟩⟩ := g
  simp only at e1 e2
  simp only [e1, e2]
  by_cases h : ((c, j, ()) : Fault) = (0, 0, ())
  · by_cases h' : ((d, k, ()) : Fault) = (0, 0, ()) <;> simp only [h, h', decide_true, decide_false, Bool.not_true, Bool.not_false, Bool.false_eq_true, if_false, if_true]
  · simp only [h, decide_false, Bool.not_false, if_true, if_false]
theorem chF_zero {p q : Patch} (h : chF p q = (0, 0, ())) : pF p = (0, 0, ()) ∧ pF q = (0, 0, ()) := by
  unfold chF at h
  split at h
  · rename_i h1
    split at h
    · rename_i h2; exact ⟨h1, h2⟩
    · injection h with _ h; cases h
  · rename_i h1; exact absurd h h1
abbrev E0 : Patch := ([], ())
def comF (p q : Patch) : Patch × Patch × Bool × Fault × Unit :=
  if chF p q = (0, 0, ()) then
    if inF (newsF p.1 0) (oldsF q.1) = true then
      let a : Patch := (shiftL q.1 p.1 (newsF p.1 0) (-1), ())
      if pF a = (0, 0, ()) then
        let b : Patch := (shiftL p.1 a.1 (oldsF a.1) 1, ())
        if pF b = (0, 0, ()) then (a, b, true, (0, 0, ()), ()) else (E0, E0, false, (10, -1, ()), ())
      else (E0, E0, false, (10, -1, ()), ())
    else (E0, E0, false, (0, 0, ()), ())
  else (E0, E0, false, chF p q, ())
theorem Commute_eq (p q : Patch) : commute_Commute_18 (p, q, ()) = some (comF p q) := by
  obtain ⟨l, ⟨⟩⟩ := p
  obtain ⟨m, ⟨⟩⟩ := q
  unfold commute_Commute_18 comF
  have e1 := f0 (chF (l, ()) (m, ()))
  simp only [check_eq, Option.bind_some]
  by_cases hc : chF (l, ()) (m, ()) = (0, 0, ())
  · obtain ⟨hp, hq⟩ := chF_zero hc
    have bp := pF_bd hp
    have bq := pF_bd hq
    have hn := newsF_len l 0
    have hind : commute_independent_36 (newsF l 0, oldsF m, ()) = some (inF (newsF l 0) (oldsF m), ()) := independent_eq _ _ (by rw [hn]; have := bp.1; simp at this; omega) (by simp [oldsF]; have := bq.1; simp at this; omega)
    have hsh : commute_shifted_40 ((m, ()), (l, ()), newsF l 0, -1, ()) = some ((shiftL m l (newsF l 0) (-1), ()), ()) := shifted_eq (m, ()) (l, ()) _ _ bq bp hn (.inr rfl)
    simp only [hc, news_eq (l, ()) bp, olds_eq (m, ()) bq, hind, hsh, Fit_eq, Option.bind_some, BEq.rfl, Bool.and_self, Bool.not_true, Bool.false_eq_true, if_false, if_true]
    cases hi : inF (newsF l 0) (oldsF m) with
    | false => simp
    | true =>
      simp only [Bool.not_true, Bool.false_eq_true, if_false, if_true]
      by_cases ha : pF (shiftL m l (newsF l 0) (-1), ()) = (0, 0, ())
      · have ba := pF_bd ha
        have hsh2 : commute_shifted_40 ((l, ()), (shiftL m l (newsF l 0) (-1), ()), oldsF (shiftL m l (newsF l 0) (-1)), 1, ()) = some ((shiftL l (shiftL m l (newsF l 0) (-1)) (oldsF (shiftL m l (newsF l 0) (-1))) 1, ()), ()) := shifted_eq (l, ()) (shiftL m l (newsF l 0) (-1), ()) _ _ bp ba (by simp [oldsF]) (.inl rfl)
        simp only [ha, if_true, olds_eq _ ba, hsh2, Fit_eq, Option.bind_some, BEq.rfl, Bool.and_self, Bool.not_true, Bool.false_eq_true, if_false]
        by_cases hb : pF (shiftL l (shiftL m l (newsF l 0) (-1)) (oldsF (shiftL m l (newsF l 0) (-1))) 1, ()) = (0, 0, ())
        · simp [hb]
        · simp [hb]
      · simp [ha]
  · have : (decide (chF (l, ()) (m, ()) = (0, 0, ()))) = false := decide_eq_false hc
    rw [this] at e1
    generalize chF (l, ()) (m, ()) = f at e1 hc
    obtain ⟨c, j, ⟨⟩⟩ := f
    simp only at e1
    simp only [e1, hc, Bool.not_false, if_true, if_false]
end Go.Proofs.Ytfepfapfogpfkaa.F
end
section
/- What the functions compute, said shortly: moving. -/
namespace Go.Proofs.Ytfepfapfogpfkaa.F
open Go Go.Proofs.Ytfepfapfogpfkaa.V

/-- The patches i and i + 1 exchanged, if they can be. -/
def swF (l : List Patch) (i : Nat) : Bool × Fault × List Patch × Unit :=
  let r := comF (l.getD i E0) (l.getD (i + 1) E0)
  (r.2.2.1, r.2.2.2.1, (if r.2.2.1 = true then (l.set i r.1).set (i + 1) r.2.1 else l), ())
theorem swF_len {l : List Patch} {i : Nat} : (swF l i).2.2.1.length = l.length := by
  unfold swF
  simp only []
  split <;> simp
theorem swap_eq (l : List Patch) (i : Nat) (hi : i + 1 < l.length) (hl : l.length ≤ 1000000) : stack_swap_26 (l, (i : Int), ()) = some (swF l i) := by
  have g1 : l[i]? = some (l.getD i E0) := by rw [List.getD_eq_getElem?_getD, List.getElem?_eq_getElem (by omega)]; rfl
  have g2 : l[i + 1]? = some (l.getD (i + 1) E0) := by rw [List.getD_eq_getElem?_getD, List.getElem?_eq_getElem (by omega)]; rfl
  unfold stack_swap_26 swF
  generalize l.getD i E0 = p at g1
  generalize l.getD (i + 1) E0 = q at g2
  obtain ⟨hp, ⟨⟩⟩ := p
  obtain ⟨hq, ⟨⟩⟩ := q
  have c1 : 0 ≤ (i : Int) ∧ (i : Int) < (l.length : Int) := by omega
  have c2 : 0 ≤ ((i + 1 : Nat) : Int) ∧ ((i + 1 : Nat) : Int) < (l.length : Int) := by omega
  have hw : IntKind.wrap .i64 ((i : Int) + 1) = ((i + 1 : Nat) : Int) := by rw [wrap_i64 (by omega) (by omega)]; rfl
  simp only [hw, c1, c2, and_self, if_true, atC_val g1, atC_val g2, Commute_eq, Option.bind_some, Int.toNat_natCast]
  obtain ⟨a, b, ok, f, ⟨⟩⟩ := comF (hp, ()) (hq, ())
  obtain ⟨a, ⟨⟩⟩ := a
  obtain ⟨b, ⟨⟩⟩ := b
  obtain ⟨c, j, ⟨⟩⟩ := f
  cases ok with
  | false => simp
  | true =>
    have g3 : (l.set i (a, ()))[i + 1]? = some (hq, ()) := by rw [List.getElem?_set_ne (by omega)]; exact g2
    have c3 : 0 ≤ ((i + 1 : Nat) : Int) ∧ ((i + 1 : Nat) : Int) < ((l.set i (a, ())).length : Int) := by rw [List.length_set]; exact c2
    simp only [if_true, c3, and_self, atC_val g3, Option.bind_some, List.length_set]
    rw [if_pos ⟨trivial, c2.2⟩]
    simp

/-- Step by step from one place to another. -/
def mvF : Nat → Nat → Nat → List Patch → List Patch × Bool × Fault × Unit
  | 0, _, _, l => (l, true, (0, 0, ()), ())
  | n + 1, k, t, l => if k = t then (l, true, (0, 0, ()), ()) else
    let i := if t < k then k - 1 else k
    let r := swF l i
    if r.1 = true then mvF n (if t < k then k - 1 else k + 1) t r.2.2.1 else ([], false, faultF r.2.1, ())
theorem mvF_self {k : Nat} {l : List Patch} : ∀ n, mvF n k k l = (l, true, (0, 0, ()), ())
  | 0 => rfl
  | n + 1 => by simp [mvF]
theorem mvF_dn {n k t : Nat} {l : List Patch} (h1 : ¬ k = t) (h2 : t < k) : mvF (n + 1) k t l = if (swF l (k - 1)).1 = true then mvF n (k - 1) t (swF l (k - 1)).2.2.1 else ([], false, faultF (swF l (k - 1)).2.1, ()) := by
  simp only [mvF, if_neg h1, if_pos h2]
theorem mvF_up {n k t : Nat} {l : List Patch} (h1 : ¬ k = t) (h2 : ¬ t < k) : mvF (n + 1) k t l = if (swF l k).1 = true then mvF n (k + 1) t (swF l k).2.2.1 else ([], false, faultF (swF l k).2.1, ()) := by
  simp only [mvF, if_neg h1, if_neg h2]
def Dst (k t : Nat) : Nat := if t < k then k - t else t - k
theorem hfrom_code : ∀ {l : List Hunk} {k i : Int}, (hfrom l k i).1 = 0 → hfrom l k i = (0, 0, ())
  | [], _, _, _ => rfl
  | h :: r, k, i, e => by
    simp only [hfrom] at e ⊢
    split at e
    · rename_i hne; exact absurd e hne
    · rename_i hne; rw [if_neg hne]; exact hfrom_code e
theorem pF_code {p : Patch} (e : (pF p).1 = 0) : pF p = (0, 0, ()) := by
  unfold pF at e ⊢
  split at e
  · cases e
  · rename_i h; rw [if_neg h]; exact hfrom_code e
theorem sfrom_bd : ∀ {l : List Patch} {i : Int}, sfrom l i = (0, 0, ()) → ∀ p ∈ l, pF p = (0, 0, ())
  | [], _, _, p, h => by cases h
  | q :: l, i, e, p, h => by
    simp only [sfrom] at e
    split at e
    · rename_i hq
      rcases List.mem_cons.1 h with rfl | h
      · exact hq
      · exact sfrom_bd e p h
    · rename_i hq
      exfalso
      have hc : (pF q).1 = 0 := by injection e
      exact hq (pF_code hc)
theorem sF_bd {l : List Patch} (e : sF l = (0, 0, ())) : l.length ≤ 12 ∧ ∀ p ∈ l, pF p = (0, 0, ()) := by
  unfold sF at e
  split at e
  · cases e
  · exact ⟨by omega, sfrom_bd e⟩
theorem posF_zero {n i k : Int} (e : posF n i k = (0, 0, ())) : 0 ≤ i ∧ i < n := by
  unfold posF at e
  split at e
  · cases e
  · omega
theorem Dst_zero {k t : Nat} (h : Dst k t = 0) : k = t := by unfold Dst at h; split at h <;> omega
def moveF (l : List Patch) (k t : Int) : List Patch × Bool × Fault × Unit :=
  if sF l = (0, 0, ()) then
    if posF l.length k (-2) = (0, 0, ()) then
      if posF l.length t (-3) = (0, 0, ()) then mvF (Dst k.toNat t.toNat) k.toNat t.toNat l else ([], false, posF l.length t (-3), ())
    else ([], false, posF l.length k (-2), ())
  else ([], false, sF l, ())
theorem Move_eq (l : List Patch) (k t : Int) : stack_Move_10 (l, k, t, ()) = some (moveF l k t) := by
  unfold stack_Move_10 moveF
  have es := f0 (sF l)
  have ek := f0 (posF l.length k (-2))
  have et := f0 (posF l.length t (-3))
  simp only [stack_Validate_eq, position_eq, Option.bind_some]
  by_cases h1 : sF l = (0, 0, ())
  · obtain ⟨hl, hps⟩ := sF_bd h1
    have hcl : stack_clone_25 (l, ()) = some (l, ()) := clone_eq l (by omega) fun p hp => bd_ok (pF_bd (hps p hp))
    simp only [h1, BEq.rfl, Bool.and_self, if_true]
    by_cases h2 : posF l.length k (-2) = (0, 0, ())
    · simp only [h2, BEq.rfl, Bool.and_self, if_true]
      by_cases h3 : posF l.length t (-3) = (0, 0, ())
      · simp only [h3, BEq.rfl, Bool.and_self, if_true, Bool.not_true, Bool.false_eq_true, if_false, hcl, Option.bind_some]
        obtain ⟨k0, k1⟩ := posF_zero h2
        obtain ⟨t0, t1⟩ := posF_zero h3
        obtain ⟨kn, rfl⟩ := Int.eq_ofNat_of_zero_le k0
        obtain ⟨tn, rfl⟩ := Int.eq_ofNat_of_zero_le t0
        simp only [Int.toNat_natCast]
        refine (loop_val (fun s => ∃ i : Nat, s.1 = (i : Int) ∧ i < l.length ∧ s.2.1.length = l.length) (fun s => Dst s.1.toNat tn) (fun s => mvF (Dst s.1.toNat tn) s.1.toNat tn s.2.1) ?_ (s := ((kn : Int), l, ())) ⟨kn, rfl, by omega, rfl⟩)
        rintro ⟨a1, m, ⟨⟩⟩ ⟨i, g1, g2, g3⟩
        simp only at g1 g3
        subst g1
        by_cases he : i = tn
        · right
          subst he
          simp only [Int.toNat_natCast, mvF_self]
          simp
        · have he' : ((i : Int) != (tn : Int)) = true := by simp; omega
          have hw : IntKind.wrap .i64 ((i : Int) + 1) = ((i + 1 : Nat) : Int) := by rw [wrap_i64 (by omega) (by omega)]; rfl
          simp only [he', if_true, Int.toNat_natCast, hw]
          by_cases hd : tn < i
          · have hd' : ((tn : Int) < (i : Int)) := by omega
            have hw' : IntKind.wrap .i64 ((i : Int) - 1) = ((i - 1 : Nat) : Int) := by rw [wrap_i64 (by omega) (by omega)]; omega
            have hsw := swap_eq m (i - 1) (by omega) (by omega)
            have hD : Dst i tn = Dst (i - 1) tn + 1 := by unfold Dst; rw [if_pos hd]; split <;> omega
            simp only [hd', decide_true, if_true, hw', hsw, Option.bind_some]
            rw [hD, mvF_dn he hd]
            have hlen := swF_len (l := m) (i := i - 1)
            generalize swF m (i - 1) = r at hlen
            obtain ⟨ok, f, m', ⟨⟩⟩ := r
            obtain ⟨c, j, ⟨⟩⟩ := f
            cases ok with
            | true =>
              left
              have hlen : m'.length = m.length := hlen
              exact ⟨(((i - 1 : Nat) : Int), m', ()), rfl, ⟨i - 1, rfl, by omega, by show m'.length = l.length; omega⟩, by simp only [Int.toNat_natCast, if_true], by simp only [Int.toNat_natCast]; omega⟩
            | false => right; simp [fault_eq]
          · have hd' : ¬ ((tn : Int) < (i : Int)) := by omega
            have hsw := swap_eq m i (by omega) (by omega)
            have hD : Dst i tn = Dst (i + 1) tn + 1 := by unfold Dst; rw [if_neg hd]; split <;> omega
            simp only [hd', decide_false, Bool.false_eq_true, if_false, hsw, Option.bind_some]
            rw [hD, mvF_up he hd]
            have hlen := swF_len (l := m) (i := i)
            generalize swF m i = r at hlen
            obtain ⟨ok, f, m', ⟨⟩⟩ := r
            obtain ⟨c, j, ⟨⟩⟩ := f
            cases ok with
            | true =>
              left
              have hlen : m'.length = m.length := hlen
              exact ⟨(((i + 1 : Nat) : Int), m', ()), rfl, ⟨i + 1, rfl, by omega, by show m'.length = l.length; omega⟩, by simp only [Int.toNat_natCast, if_true], by simp only [Int.toNat_natCast]; omega⟩
            | false => right; simp [fault_eq]
      · rw [decide_eq_false h3] at et
        generalize posF l.length t (-3) = f at et h3
        obtain ⟨c, j, ⟨⟩⟩ := f
        simp only at et
        simp only [et, h3, Bool.not_false, if_true, if_false]
    · rw [decide_eq_false h2] at ek
      generalize posF l.length k (-2) = f at ek h2
      obtain ⟨c, j, ⟨⟩⟩ := f
      simp only at ek
      simp only [ek, h2, Bool.not_false, if_true, if_false, Bool.false_eq_true]
  · rw [decide_eq_false h1] at es
    generalize sF l = f at es h1
    obtain ⟨c, j, ⟨⟩⟩ := f
    simp only at es
    simp only [es, h1, Bool.not_false, if_true, if_false, Bool.false_eq_true]
end Go.Proofs.Ytfepfapfogpfkaa.F
end
section
/- What the functions compute, said shortly: equality of stacks with themselves. -/
namespace Go.Proofs.Ytfepfapfogpfkaa.F
open Go Go.Proofs.Ytfepfapfogpfkaa.V

theorem toList_beq (s : ByteArray) : (ByteArray.toList s == ByteArray.toList s) = true := by simp
theorem Strings_refl (l : List ByteArray) (hl : l.length ≤ 1000000) : changeforgeequal_Strings_17 (l, l, ()) = some (true, ()) := by
  unfold changeforgeequal_Strings_17
  simp only [bne_self_eq_false, Bool.false_eq_true, if_false]
  refine (loop_val (fun s => ∃ i : Nat, s.1 = (i : Int) ∧ i ≤ l.length) (fun s => l.length - s.1.toNat) (fun s => (true, ())) ?_ (s := (0, ())) ⟨0, rfl, by omega⟩)
  rintro ⟨a1, ⟨⟩⟩ ⟨i, h1, hi⟩
  simp only at h1
  subst h1
  by_cases hlt : i < l.length
  · left
    have h2 : ((i : Int) < (l.length : Int)) := by omega
    have hg : l[i]? = some l[i] := List.getElem?_eq_getElem hlt
    refine ⟨((i + 1 : Nat), ()), ?_, ⟨i + 1, rfl, hlt⟩, rfl, by simp; omega⟩
    simp only [h2, decide_true, if_true, atC_val hg, toList_beq, Bool.not_true, Bool.false_eq_true, if_false, wrap_i64 (n := (i : Int) + 1) (by omega) (by omega)]
    rfl
  · right
    have h2 : ¬ ((i : Int) < (l.length : Int)) := by omega
    simp only [h2, decide_false, Bool.false_eq_true, if_false]
    rfl
theorem Patch_refl (p : Patch) (hp : okP p) : changeforgeequal_Patch_31 (p, p, ()) = some (true, ()) := by
  obtain ⟨l, ⟨⟩⟩ := p
  obtain ⟨hl, hh⟩ := hp
  simp only at hl hh
  unfold changeforgeequal_Patch_31
  simp only [bne_self_eq_false, Bool.false_eq_true, if_false]
  refine (loop_val (fun s => ∃ i : Nat, s.1 = (i : Int) ∧ i ≤ l.length) (fun s => l.length - s.1.toNat) (fun s => (true, ())) ?_ (s := (0, ())) ⟨0, rfl, by omega⟩)
  rintro ⟨a1, ⟨⟩⟩ ⟨i, h1, hi⟩
  simp only at h1
  subst h1
  by_cases hlt : i < l.length
  · left
    have h2 : ((i : Int) < (l.length : Int)) := by omega
    have hg : l[i]? = some l[i] := List.getElem?_eq_getElem hlt
    have hx := hh _ (List.getElem_mem hlt)
    generalize l[i] = x at hg hx
    refine ⟨((i + 1 : Nat), ()), ?_, ⟨i + 1, rfl, hlt⟩, rfl, by simp; omega⟩
    simp only [h2, decide_true, if_true, atC_val hg, bne_self_eq_false, Bool.false_eq_true, if_false, Strings_refl _ hx.1, Strings_refl _ hx.2, Option.bind_some, Bool.not_true, wrap_i64 (n := (i : Int) + 1) (by omega) (by omega)]
    rfl
  · right
    have h2 : ¬ ((i : Int) < (l.length : Int)) := by omega
    simp only [h2, decide_false, Bool.false_eq_true, if_false]
    rfl
theorem Patches_refl (l : List Patch) (hl : l.length ≤ 1000000) (hh : ∀ p ∈ l, okP p) : changeforgeequal_Patches_14 (l, l, ()) = some (true, ()) := by
  unfold changeforgeequal_Patches_14
  simp only [bne_self_eq_false, Bool.false_eq_true, if_false]
  refine (loop_val (fun s => ∃ i : Nat, s.1 = (i : Int) ∧ i ≤ l.length) (fun s => l.length - s.1.toNat) (fun s => (true, ())) ?_ (s := (0, ())) ⟨0, rfl, by omega⟩)
  rintro ⟨a1, ⟨⟩⟩ ⟨i, h1, hi⟩
  simp only at h1
  subst h1
  by_cases hlt : i < l.length
  · left
    have h2 : ((i : Int) < (l.length : Int)) := by omega
    have hg : l[i]? = some l[i] := List.getElem?_eq_getElem hlt
    have hx := hh _ (List.getElem_mem hlt)
    generalize l[i] = x at hg hx
    obtain ⟨x, ⟨⟩⟩ := x
    refine ⟨((i + 1 : Nat), ()), ?_, ⟨i + 1, rfl, hlt⟩, rfl, by simp; omega⟩
    simp only [h2, decide_true, if_true, atC_val hg, Patch_refl _ hx, Bool.false_eq_true, if_false, Option.bind_some, Bool.not_true, wrap_i64 (n := (i : Int) + 1) (by omega) (by omega)]
    rfl
  · right
    have h2 : ¬ ((i : Int) < (l.length : Int)) := by omega
    simp only [h2, decide_false, Bool.false_eq_true, if_false]
    rfl
end Go.Proofs.Ytfepfapfogpfkaa.F
end
section
/- What the functions compute, said shortly: the law's own example. -/
namespace Go.Proofs.Ytfepfapfogpfkaa.F
open Go Go.Proofs.Ytfepfapfogpfkaa.V

def sa : ByteArray := ⟨#[97]⟩
def sb : ByteArray := ⟨#[98]⟩
def pa : Patch := ([(0, [], [sa], ())], ())
def pb : Patch := ([(1, [], [sb], ())], ())
theorem sF_ab : sF [pa, pb] = (0, 0, ()) := by decide
theorem sF_a : sF [pa] = (0, 0, ()) := by decide
theorem pF_a : pF pa = (0, 0, ()) := by decide
theorem Drop_ab : stack_Drop_12 ([pa, pb], 1, ()) = some ([pa], true, (0, 0, ()), ()) := by
  unfold stack_Drop_12
  have h1 : posF 2 1 (-2) = (0, 0, ()) := by decide
  have h2 : moveF [pa, pb] 1 1 = ([pa, pb], true, (0, 0, ()), ()) := by
    unfold moveF
    rw [if_pos sF_ab]
    rfl
  have w : IntKind.wrap .i64 1 = 1 := by decide
  simp [stack_Validate_eq, sF_ab, position_eq, h1, Move_eq, w, h2]
theorem Equal_nil : slices_Equal___string_string__43 ([], [], ()) = some (true, ()) := by
  unfold slices_Equal___string_string__43
  simp only []
  rw [loopC_eq]
  simp
theorem ApplyP_a : textpatch_Apply_19 (pa, [], ()) = some ([sa], (0, 0, ()), ()) := by
  unfold textpatch_Apply_19
  have hc : code [] = 0 := by decide
  have hE : textpatch_End_42 ((0, [], [sa], ()), ()) = some (0, ()) := by rw [End_eq _ (by decide) (by decide) (by decide)]; rfl
  have w : IntKind.wrap .i64 1 = 1 := by decide
  have e : ((pa.1, ()) : Patch) = pa := rfl
  simp only [textpatch_Validate_eq, e, pF_a, lines_Code_eq, hc, Option.bind_some, BEq.rfl, Bool.and_self, Bool.not_true, Bool.false_eq_true, if_false, bne_self_eq_false]
  rw [loopC_eq]
  simp [pa, atC, hE, Equal_nil, maxLen, w]
  rw [loopC_eq]
  simp
theorem Apply_a : stack_Apply_16 ([], [pa], ()) = some ([sa], (0, 0, ()), ()) := by
  unfold stack_Apply_16
  have hc : code [] = 0 := by decide
  have w : IntKind.wrap .i64 1 = 1 := by decide
  simp only [stack_Validate_eq, sF_a, lines_Code_eq, hc, Option.bind_some, Clone_eq [] (by decide), BEq.rfl, Bool.and_self, Bool.not_true, Bool.false_eq_true, if_false, bne_self_eq_false]
  rw [loopC_eq]
  have e : ((pa.1, ()) : Patch) = pa := rfl
  simp [atC, e, ApplyP_a, w]
  rw [loopC_eq]
  simp
theorem dropped_eq : changeforgelaw2_dropped_15 () = some (true, ()) := by
  unfold changeforgelaw2_dropped_15 changeforgelaw2_single_32
  have hD := Drop_ab
  have hA := Apply_a
  have hP : changeforgeequal_Patches_14 ([pa], [pa], ()) = some (true, ()) := Patches_refl _ (by decide) (by intro p hp; simp at hp; subst hp; exact bd_ok (pF_bd pF_a))
  have hS : changeforgeequal_Strings_17 ([sa], [sa], ()) = some (true, ()) := Strings_refl _ (by decide)
  unfold pa pb sa sb at *
  simp [hD, hA, hP, hS]
end Go.Proofs.Ytfepfapfogpfkaa.F
end
section
/- The law StackNeighbors over plain values. -/
namespace Go.Proofs.Ytfepfapfogpfkaa.F
open Go Go.Proofs.Ytfepfapfogpfkaa.V

theorem sfrom_code : ∀ {l : List Patch} {i : Int}, (sfrom l i).1 = 0 → sfrom l i = (0, 0, ())
  | [], _, _ => rfl
  | p :: l, i, e => by
    simp only [sfrom] at e ⊢
    split at e
    · rename_i h; rw [if_pos h]; exact sfrom_code e
    · rename_i h; exact absurd (pF_code e) h
theorem sF_code {l : List Patch} (e : (sF l).1 = 0) : sF l = (0, 0, ()) := by
  unfold sF at e ⊢
  split at e
  · cases e
  · rename_i h; rw [if_neg h]; exact sfrom_code e
theorem posF_code {n i k : Int} (e : (posF n i k).1 = 0) : posF n i k = (0, 0, ()) := by
  unfold posF at e ⊢
  split at e
  · cases e
  · rename_i h; rw [if_neg h]
theorem comF_cases {p q : Patch} (hc : chF p q = (0, 0, ())) : (∃ a b, comF p q = (a, b, true, (0, 0, ()), ()) ∧ pF a = (0, 0, ()) ∧ pF b = (0, 0, ())) ∨ comF p q = (E0, E0, false, (10, -1, ()), ()) ∨ comF p q = (E0, E0, false, (0, 0, ()), ()) := by
  unfold comF
  rw [if_pos hc]
  by_cases h1 : inF (newsF p.1 0) (oldsF q.1) = true
  · rw [if_pos h1]
    simp only []
    by_cases h2 : pF (shiftL q.1 p.1 (newsF p.1 0) (-1), ()) = (0, 0, ())
    · rw [if_pos h2]
      by_cases h3 : pF (shiftL p.1 (shiftL q.1 p.1 (newsF p.1 0) (-1)) (oldsF (shiftL q.1 p.1 (newsF p.1 0) (-1))) 1, ()) = (0, 0, ())
      · rw [if_pos h3]; exact .inl ⟨_, _, rfl, h2, h3⟩
      · rw [if_neg h3]; exact .inr (.inl rfl)
    · rw [if_neg h2]; exact .inr (.inl rfl)
  · rw [if_neg h1]; exact .inr (.inr rfl)
theorem comF_ok {p q : Patch} (hp : pF p = (0, 0, ())) (hq : pF q = (0, 0, ())) : ((comF p q).2.2.1 = true → (comF p q).2.2.2.1 = (0, 0, ()) ∧ pF (comF p q).1 = (0, 0, ()) ∧ pF (comF p q).2.1 = (0, 0, ())) ∧ ((comF p q).2.2.2.1.1 = 0 → (comF p q).2.2.2.1 = (0, 0, ())) := by
  have hc : chF p q = (0, 0, ()) := by unfold chF; rw [if_pos hp, if_pos hq]
  rcases comF_cases hc with ⟨a, b, h, h1, h2⟩ | h | h
  · rw [h]; exact ⟨fun _ => ⟨rfl, h1, h2⟩, fun _ => rfl⟩
  · rw [h]; exact ⟨fun h => by simp at h, fun h => by simp at h⟩
  · rw [h]; exact ⟨fun h => by simp at h, fun _ => rfl⟩
theorem set2 {α : Type} (l : List α) (i : Nat) (a b : α) (hi : i + 1 < l.length) : (l.set i a).set (i + 1) b = l.take i ++ [a, b] ++ l.drop (i + 2) := by
  apply List.ext_getElem?
  intro j
  rw [List.append_assoc, List.getElem?_append, List.length_take, Nat.min_eq_left (by omega)]
  by_cases h1 : j < i
  · rw [if_pos h1, List.getElem?_set_ne (by omega), List.getElem?_set_ne (by omega), List.getElem?_take, if_pos h1]
  · rw [if_neg h1]
    by_cases h2 : j = i
    · subst h2; rw [List.getElem?_set_ne (by omega), List.getElem?_set_self (by omega)]; simp
    · by_cases h3 : j = i + 1
      · subst h3; rw [List.getElem?_set_self (by simp; omega)]; simp [show i + 1 - i = 1 from by omega]
      · rw [List.getElem?_set_ne (by omega), List.getElem?_set_ne (by omega), List.getElem?_append_right (by simp; omega)]
        simp only [List.length_cons, List.length_nil, List.getElem?_drop]
        congr 1; omega

theorem Neighbors_eq (l : List Patch) (i : Int) (hl : l.length * 24 ≤ 281474976710656) (h0 : -9223372036854775808 ≤ i) (h1 : i ≤ 9223372036854775807) : changeforgelaw2_StackNeighbors_6 (l, i, ()) = some (true, ()) := by
  unfold changeforgelaw2_StackNeighbors_6
  have hwl : IntKind.wrap .i64 ((l.length : Int) - 1) = (l.length : Int) - 1 := wrap_i64 (by omega) (by omega)
  simp only [Move_eq, dropped_eq, Option.bind_some, hwl]
  by_cases hf : (moveF l i (IntKind.wrap .i64 (i + 1))).2.2.1.1 = 0
  · simp only [hf, bne_self_eq_false, Bool.false_eq_true, if_false]
    by_cases hi : i < 0
    · simp [hi]
    · by_cases hi' : i ≥ (l.length : Int) - 1
      · simp [hi, hi']
      · simp only [hi, hi', decide_false, Bool.false_eq_true, if_false]
        obtain ⟨n, rfl⟩ := Int.eq_ofNat_of_zero_le (show 0 ≤ i from by omega)
        have hn : n + 1 < l.length := by omega
        have hw : IntKind.wrap .i64 ((n : Int) + 1) = ((n + 1 : Nat) : Int) := by rw [wrap_i64 (by omega) (by omega)]; rfl
        have hw2 : IntKind.wrap .i64 ((n : Int) + 2) = ((n + 2 : Nat) : Int) := by rw [wrap_i64 (by omega) (by omega)]; rfl
        have g1 : l[n]? = some (l.getD n E0) := by rw [List.getD_eq_getElem?_getD, List.getElem?_eq_getElem (by omega)]; rfl
        have g2 : l[n + 1]? = some (l.getD (n + 1) E0) := by rw [List.getD_eq_getElem?_getD, List.getElem?_eq_getElem (by omega)]; rfl
        simp only [hw, hw2] at hf ⊢
        have hs : sF l = (0, 0, ()) := by
          unfold moveF at hf
          split at hf
          · assumption
          · exact sF_code hf
        obtain ⟨hl12, hall⟩ := sF_bd hs
        have p1 : posF l.length (n : Int) (-2) = (0, 0, ()) := by unfold posF; rw [if_neg (by omega)]
        have p2 : posF l.length ((n + 1 : Nat) : Int) (-3) = (0, 0, ()) := by unfold posF; rw [if_neg (by omega)]
        have hD : Dst n (n + 1) = 0 + 1 := by unfold Dst; rw [if_neg (by omega)]; omega
        have hm : moveF l (n : Int) ((n + 1 : Nat) : Int) = if (swF l n).1 = true then ((swF l n).2.2.1, true, (0, 0, ()), ()) else ([], false, faultF (swF l n).2.1, ()) := by
          unfold moveF
          rw [if_pos hs, if_pos p1, if_pos p2]
          simp only [Int.toNat_natCast]
          rw [hD, mvF_up (by omega) (by omega)]
          rfl
        have hpn : pF (l.getD n E0) = (0, 0, ()) := hall _ (List.mem_of_getElem? g1)
        have hqn : pF (l.getD (n + 1) E0) = (0, 0, ()) := hall _ (List.mem_of_getElem? g2)
        obtain ⟨c1, c2⟩ := comF_ok hpn hqn
        rw [hm] at hf ⊢
        simp only [atC_val g1, atC_val g2]
        unfold swF at hf ⊢
        simp only at hf ⊢
        generalize l.getD n E0 = p at g1 c1 c2 hf ⊢
        generalize l.getD (n + 1) E0 = q at g2 c1 c2 hf ⊢
        obtain ⟨p, ⟨⟩⟩ := p
        obtain ⟨q, ⟨⟩⟩ := q
        simp only [Commute_eq, Option.bind_some]
        generalize comF (p, ()) (q, ()) = r at c1 c2 hf ⊢
        obtain ⟨⟨a, ⟨⟩⟩, ⟨b, ⟨⟩⟩, ok, ⟨c, j, ⟨⟩⟩, ⟨⟩⟩ := r
        cases ok with
        | false =>
          simp only [Bool.false_eq_true, if_false] at hf ⊢
          have hc : c = 0 := by
            unfold faultF at hf
            split at hf <;> exact hf
          subst hc
          simp
        | true =>
          obtain ⟨e1, e2, e3⟩ := c1 rfl
          simp only at e1 e2 e3
          injection e1 with e1 e4
          subst e1
          simp only [if_true, bne_self_eq_false, Bool.false_eq_true, if_false, BEq.rfl, Bool.not_true]
          have q1 : (0 : Int) ≤ 0 ∧ (0 : Int) ≤ (n : Int) ∧ (n : Int) ≤ (l.length : Int) := by omega
          have q2 : (0 : Int) ≤ ((n + 2 : Nat) : Int) ∧ ((n + 2 : Nat) : Int) ≤ (l.length : Int) ∧ (l.length : Int) ≤ (l.length : Int) := by omega
          rw [if_pos q1]
          simp only [Int.toNat_natCast, Int.toNat_zero, List.drop_zero, List.nil_append, List.length_nil, List.length_take, List.length_append, List.length_cons, List.length_drop, List.take_length, Nat.min_eq_left (show n ≤ l.length from by omega)]
          rw [if_pos ⟨by omega, by simp [maxLen]; omega⟩, if_pos ⟨by omega, by simp [maxLen]; omega⟩, if_pos q2, if_pos ⟨by omega, by simp [maxLen]; omega⟩]
          have hset := set2 l n ((a, ()) : Patch) ((b, ()) : Patch) hn
          rw [hset]
          have hP : changeforgeequal_Patches_14 (l.take n ++ [(a, ()), (b, ())] ++ l.drop (n + 2), l.take n ++ [(a, ()), (b, ())] ++ l.drop (n + 2), ()) = some (true, ()) := by
            refine Patches_refl _ (by simp; omega) fun x hx => ?_
            simp only [List.mem_append, List.mem_cons, List.not_mem_nil, or_false] at hx
            rcases hx with (hx | rfl | rfl) | hx
            · exact bd_ok (pF_bd (hall x (List.mem_of_mem_take hx)))
            · exact bd_ok (pF_bd e2)
            · exact bd_ok (pF_bd e3)
            · exact bd_ok (pF_bd (hall x (List.mem_of_mem_drop hx)))
          rw [hP]
          rfl
  · have hf' : ((moveF l i (IntKind.wrap .i64 (i + 1))).2.2.1.1 != 0) = true := by simpa using hf
    simp [hf']
end Go.Proofs.Ytfepfapfogpfkaa.F
end
section
/- Exchanging two patches twice restores them. -/
namespace Go.Proofs.Ytfepfapfogpfkaa.F
open Go Go.Proofs.Ytfepfapfogpfkaa.V

/-- Hunks in order, from a line on. -/
def Srt : Int → List Hunk → Prop
  | _, [] => True
  | k, h :: r => k ≤ h.1 ∧ Srt (h.1 + h.2.1.length + 1) r
theorem hfrom_srt : ∀ {l : List Hunk} {k i : Int}, hfrom l k i = (0, 0, ()) → Srt k l
  | [], _, _, _ => trivial
  | h :: r, k, i, e => by
    simp only [hfrom] at e
    split at e
    · rename_i hne; injection e with e1 e2; exact absurd e1 hne
    · rename_i hz
      have hz : hc h k = 0 := by simpa using hz
      exact ⟨(hc_zero hz).2.1, hfrom_srt e⟩
theorem pF_srt {p : Patch} (e : pF p = (0, 0, ())) : Srt 0 p.1 := by
  unfold pF at e
  split at e
  · injection e with e; cases e
  · exact hfrom_srt e
theorem grow_news0 : ∀ {l : List Hunk} {k s x : Int}, Srt k l → x ≤ k + s → growF l (newsF l s) x = 0
  | [], _, _, _, _, _ => rfl
  | h :: r, k, s, x, ⟨h1, h2⟩, hx => by
    have e : dl h = (h.2.2.1.length : Int) - h.2.1.length := rfl
    simp only [newsF, growF]
    rw [if_neg (by omega), grow_news0 h2 (by omega)]; rfl
theorem grow_olds0 : ∀ {l : List Hunk} {k x : Int}, Srt k l → x ≤ k → growF l (oldsF l) x = 0
  | [], _, _, _, _ => rfl
  | h :: r, k, x, ⟨h1, h2⟩, hx => by
    have e : growF (h :: r) (oldsF (h :: r)) x = (if h.1 + h.2.1.length < x then dl h else 0) + growF r (oldsF r) x := rfl
    rw [e, if_neg (by omega), grow_olds0 h2 (by omega)]; rfl
theorem news_lo : ∀ {l : List Hunk} {k s z : Int}, Srt k l → z < k + s → ∀ sp ∈ newsF l s, z < sp.1
  | [], _, _, _, _, _, sp, hs => by cases hs
  | h :: r, k, s, z, ⟨h1, h2⟩, hz, sp, hs => by
    have e : dl h = (h.2.2.1.length : Int) - h.2.1.length := rfl
    simp only [newsF, List.mem_cons] at hs
    rcases hs with rfl | hs
    · simp only; omega
    · exact news_lo h2 (by omega) sp hs
theorem olds_lo : ∀ {l : List Hunk} {k z : Int}, Srt k l → z < k → ∀ sp ∈ oldsF l, z < sp.1
  | [], _, _, _, _, sp, hs => by cases hs
  | h :: r, k, z, ⟨h1, h2⟩, hz, sp, hs => by
    simp only [oldsF, List.map_cons, List.mem_cons] at hs
    rcases hs with rfl | hs
    · simp only; omega
    · exact olds_lo h2 (by omega) sp hs
theorem news_ge : ∀ {l : List Hunk} {k s x : Int}, Srt k l → k ≤ x - s → k ≤ x - s - growF l (newsF l s) x
  | [], _, _, _, _, hx => by simpa [growF, newsF] using hx
  | h :: r, k, s, x, ⟨h1, h2⟩, hx => by
    have e : dl h = (h.2.2.1.length : Int) - h.2.1.length := rfl
    simp only [newsF, growF]
    by_cases hk : h.1 + s + h.2.2.1.length < x
    · rw [if_pos hk]
      have := news_ge (s := s + dl h) (x := x) h2 (by omega)
      omega
    · rw [if_neg hk, grow_news0 h2 (by omega)]; omega
theorem olds_ge : ∀ {l : List Hunk} {k x : Int}, Srt k l → k ≤ x → k ≤ x + growF l (oldsF l) x
  | [], _, _, _, hx => by simpa [growF, oldsF] using hx
  | h :: r, k, x, ⟨h1, h2⟩, hx => by
    have e : dl h = (h.2.2.1.length : Int) - h.2.1.length := rfl
    have e' : growF (h :: r) (oldsF (h :: r)) x = (if h.1 + h.2.1.length < x then dl h else 0) + growF r (oldsF r) x := rfl
    rw [e']
    by_cases hk : h.1 + h.2.1.length < x
    · rw [if_pos hk]
      have := olds_ge (x := x) h2 (by omega)
      omega
    · rw [if_neg hk, grow_olds0 h2 (by omega)]; omega
/-- From the text behind a patch to the text before it. -/
theorem to_old : ∀ {l : List Hunk} {k s x m : Int}, 0 ≤ m → Srt k l → (∀ sp ∈ newsF l s, sp.2.1 < x ∨ x + m < sp.1) →
    growF l (oldsF l) (x - s - growF l (newsF l s) x) = growF l (newsF l s) x ∧ ∀ sp ∈ oldsF l, sp.2.1 < x - s - growF l (newsF l s) x ∨ x - s - growF l (newsF l s) x + m < sp.1
  | [], _, _, _, _, _, _, _ => ⟨rfl, fun sp hs => by cases hs⟩
  | h :: r, k, s, x, m, hm, ⟨h1, h2⟩, ha => by
    have e : dl h = (h.2.2.1.length : Int) - h.2.1.length := rfl
    have ha1 := ha (h.1 + s, h.1 + s + h.2.2.1.length, ()) (by simp [newsF])
    simp only at ha1
    have e' : ∀ y, growF (h :: r) (oldsF (h :: r)) y = (if h.1 + h.2.1.length < y then dl h else 0) + growF r (oldsF r) y := fun _ => rfl
    have e2 : growF (h :: r) (newsF (h :: r) s) x = (if h.1 + s + h.2.2.1.length < x then dl h else 0) + growF r (newsF r (s + dl h)) x := rfl
    have hmem : ∀ sp, sp ∈ oldsF (h :: r) ↔ sp = (h.1, h.1 + h.2.1.length, ()) ∨ sp ∈ oldsF r := fun sp => by simp [oldsF]
    rw [e2]
    by_cases hk : h.1 + s + h.2.2.1.length < x
    · obtain ⟨g1, g2⟩ := to_old (s := s + dl h) (x := x) hm h2 fun sp hs => ha sp (by simp [newsF, hs])
      have g3 := news_ge (s := s + dl h) (x := x) h2 (by omega)
      have e3 : x - s - (dl h + growF r (newsF r (s + dl h)) x) = x - (s + dl h) - growF r (newsF r (s + dl h)) x := by omega
      rw [if_pos hk, e3, e', g1, if_pos (by omega)]
      refine ⟨rfl, fun sp hs => ?_⟩
      rcases (hmem sp).1 hs with rfl | hs
      · left; simp only; omega
      · exact g2 sp hs
    · have h0 : x + m < h.1 + s := by omega
      rw [if_neg hk, grow_news0 h2 (by omega)]
      have hS : Srt h.1 (h :: r) := ⟨Int.le_refl _, h2⟩
      refine ⟨grow_olds0 hS (by omega), fun sp hs => .inr ?_⟩
      have := olds_lo (z := x - s - (0 + 0) + m) hS (by omega) sp hs
      omega
/-- From the text before a patch to the text behind it. -/
theorem to_new : ∀ {l : List Hunk} {k s x m : Int}, 0 ≤ m → Srt k l → (∀ sp ∈ oldsF l, sp.2.1 < x ∨ x + m < sp.1) →
    growF l (newsF l s) (x + s + growF l (oldsF l) x) = growF l (oldsF l) x ∧ ∀ sp ∈ newsF l s, sp.2.1 < x + s + growF l (oldsF l) x ∨ x + s + growF l (oldsF l) x + m < sp.1
  | [], _, _, _, _, _, _, _ => ⟨rfl, fun sp hs => by cases hs⟩
  | h :: r, k, s, x, m, hm, ⟨h1, h2⟩, ha => by
    have e : dl h = (h.2.2.1.length : Int) - h.2.1.length := rfl
    have hmem : ∀ sp, sp ∈ oldsF (h :: r) ↔ sp = (h.1, h.1 + h.2.1.length, ()) ∨ sp ∈ oldsF r := fun sp => by simp [oldsF]
    have ha1 := ha (h.1, h.1 + h.2.1.length, ()) ((hmem _).2 (.inl rfl))
    simp only at ha1
    have e' : ∀ y, growF (h :: r) (oldsF (h :: r)) y = (if h.1 + h.2.1.length < y then dl h else 0) + growF r (oldsF r) y := fun _ => rfl
    have e2 : ∀ y, growF (h :: r) (newsF (h :: r) s) y = (if h.1 + s + h.2.2.1.length < y then dl h else 0) + growF r (newsF r (s + dl h)) y := fun _ => rfl
    rw [e']
    by_cases hk : h.1 + h.2.1.length < x
    · obtain ⟨g1, g2⟩ := to_new (s := s + dl h) (x := x) hm h2 fun sp hs => ha sp ((hmem _).2 (.inr hs))
      have g3 := olds_ge (x := x) h2 (by omega)
      have e3 : x + s + (dl h + growF r (oldsF r) x) = x + (s + dl h) + growF r (oldsF r) x := by omega
      rw [if_pos hk, e3, e2, g1, if_pos (by omega)]
      refine ⟨rfl, fun sp hs => ?_⟩
      simp only [newsF, List.mem_cons] at hs
      rcases hs with rfl | hs
      · left; simp only; omega
      · exact g2 sp hs
    · have h0 : x + m < h.1 := by omega
      rw [if_neg hk, grow_olds0 h2 (by omega)]
      have hS : Srt h.1 (h :: r) := ⟨Int.le_refl _, h2⟩
      refine ⟨grow_news0 hS (by omega), fun sp hs => .inr ?_⟩
      have := news_lo (s := s) (z := x + s + (0 + 0) + m) hS (by omega) sp hs
      omega
theorem inF_iff {a b : List Span} : inF a b = true ↔ ∀ x ∈ a, ∀ y ∈ b, x.2.1 < y.1 ∨ y.2.1 < x.1 := by
  simp [inF, apF]
theorem shift_id {l l' : List Hunk} {f : Hunk → Int} (h : ∀ x ∈ l, f x = 0) : l.map (fun x => (x.1 + f x, x.2.1, x.2.2.1, ())) = l := by
  conv => rhs; rw [← List.map_id l]
  refine List.map_congr_left fun x hx => ?_
  rw [h x hx, Int.add_zero]; rfl
theorem comF_back {p q a b : Patch} (h : comF p q = (a, b, true, (0, 0, ()), ())) : comF a b = (p, q, true, (0, 0, ()), ()) := by
  obtain ⟨P, ⟨⟩⟩ := p
  obtain ⟨Q, ⟨⟩⟩ := q
  unfold comF at h
  split at h
  · rename_i hch
    obtain ⟨hp, hq⟩ := chF_zero hch
    have sp := pF_srt hp
    have sq := pF_srt hq
    simp only at sp sq h
    split at h
    · rename_i hin
      rw [inF_iff] at hin
      split at h
      · rename_i ha
        split at h
        · rename_i hb
          injection h with e1 h
          injection h with e2 h
          subst e1 e2
          have sa := pF_srt ha
          simp only at sa
          -- what the hunks of the second are before the first
          have kq : ∀ x ∈ Q, growF P (oldsF P) (x.1 + -1 * growF P (newsF P 0) x.1) = growF P (newsF P 0) x.1 ∧ ∀ s ∈ oldsF P, s.2.1 < x.1 + -1 * growF P (newsF P 0) x.1 ∨ x.1 + -1 * growF P (newsF P 0) x.1 + x.2.1.length < s.1 := by
            intro x hx
            have := to_old (s := 0) (x := x.1) (m := x.2.1.length) (by omega) sp fun s hs => hin s hs (x.1, x.1 + x.2.1.length, ()) (by simp only [oldsF, List.mem_map]; exact ⟨x, hx, rfl⟩)
            rw [show x.1 + -1 * growF P (newsF P 0) x.1 = x.1 - 0 - growF P (newsF P 0) x.1 from by omega]
            exact this
          generalize hA : shiftL Q P (newsF P 0) (-1) = A at *
          have kp : ∀ x ∈ P, growF A (newsF A 0) (x.1 + 1 * growF A (oldsF A) x.1) = growF A (oldsF A) x.1 ∧ ∀ s ∈ newsF A 0, s.2.1 < x.1 + 1 * growF A (oldsF A) x.1 ∨ x.1 + 1 * growF A (oldsF A) x.1 + x.2.1.length < s.1 := by
            intro x hx
            have := to_new (s := 0) (x := x.1) (m := x.2.1.length) (by omega) sa fun s hs => by
              simp only [oldsF, ← hA, shiftL, List.map_map, List.mem_map] at hs
              obtain ⟨y, hy, rfl⟩ := hs
              have := (kq y hy).2 (x.1, x.1 + x.2.1.length, ()) (by simp only [oldsF, List.mem_map]; exact ⟨x, hx, rfl⟩)
              simp only [Function.comp] at this ⊢
              omega
            rw [show x.1 + 1 * growF A (oldsF A) x.1 = x.1 + 0 + growF A (oldsF A) x.1 from by omega]
            exact this
          have f1 : shiftL (shiftL P A (oldsF A) 1) A (newsF A 0) (-1) = P := by
            unfold shiftL
            rw [List.map_map]
            conv => rhs; rw [← List.map_id P]
            refine List.map_congr_left fun x hx => ?_
            simp only [Function.comp, (kp x hx).1]
            obtain ⟨x1, x2, x3, ⟨⟩⟩ := x
            simp only [id]
            congr 1
            omega
          have f2 : shiftL A P (oldsF P) 1 = Q := by
            rw [← hA]
            unfold shiftL
            rw [List.map_map]
            conv => rhs; rw [← List.map_id Q]
            refine List.map_congr_left fun x hx => ?_
            simp only [Function.comp, (kq x hx).1]
            obtain ⟨x1, x2, x3, ⟨⟩⟩ := x
            simp only [id]
            congr 1
            omega
          have hch' : chF (A, ()) (shiftL P A (oldsF A) 1, ()) = (0, 0, ()) := by unfold chF; rw [if_pos ha, if_pos hb]
          have hin' : inF (newsF A 0) (oldsF (shiftL P A (oldsF A) 1)) = true := by
            rw [inF_iff]
            intro s hs y hy
            simp only [oldsF, shiftL, List.map_map, List.mem_map] at hy
            obtain ⟨x, hx, rfl⟩ := hy
            have := (kp x hx).2 s hs
            simp only [Function.comp, oldsF] at this ⊢
            exact this
          unfold comF
          rw [if_pos hch']
          simp only [hin', if_true, f1, f2]
          rw [if_pos hp, if_pos hq]
        · injection h with _ h; injection h with _ h; injection h with h; cases h
      · injection h with _ h; injection h with _ h; injection h with h; cases h
    · injection h with _ h; injection h with _ h; injection h with h; cases h
  · injection h with _ h; injection h with _ h; injection h with h; cases h
end Go.Proofs.Ytfepfapfogpfkaa.F
end
section
/- Moving a patch back restores the stack. -/
namespace Go.Proofs.Ytfepfapfogpfkaa.F
open Go Go.Proofs.Ytfepfapfogpfkaa.V

def allP (l : List Patch) : Prop := ∀ p ∈ l, pF p = (0, 0, ())
/-- What a swap that succeeds does. -/
theorem swF_true {l : List Patch} {i : Nat} (hi : i + 1 < l.length) (hp : allP l) (h : (swF l i).1 = true) :
    ∃ a b, comF (l.getD i E0) (l.getD (i + 1) E0) = (a, b, true, (0, 0, ()), ()) ∧ (swF l i).2.2.1 = (l.set i a).set (i + 1) b ∧ allP ((l.set i a).set (i + 1) b) := by
  have p1 : pF (l.getD i E0) = (0, 0, ()) := by rw [List.getD_eq_getElem?_getD, List.getElem?_eq_getElem (by omega)]; exact hp _ (List.getElem_mem _)
  have p2 : pF (l.getD (i + 1) E0) = (0, 0, ()) := by rw [List.getD_eq_getElem?_getD, List.getElem?_eq_getElem (by omega)]; exact hp _ (List.getElem_mem _)
  have c := (comF_ok p1 p2).1
  unfold swF at h ⊢
  simp only at h ⊢
  generalize comF (l.getD i E0) (l.getD (i + 1) E0) = r at c h ⊢
  obtain ⟨a, b, ok, f, ⟨⟩⟩ := r
  simp only at h c ⊢
  subst h
  obtain ⟨c1, c2, c3⟩ := c rfl
  subst c1
  refine ⟨a, b, rfl, by rw [if_pos rfl], fun x hx => ?_⟩
  rcases List.mem_or_eq_of_mem_set hx with hx | rfl
  · rcases List.mem_or_eq_of_mem_set hx with hx | rfl
    · exact hp x hx
    · exact c2
  · exact c3
theorem swF_back {l m : List Patch} {i : Nat} (hi : i + 1 < l.length) (hp : allP l) (h : (swF l i).1 = true) (hm : (swF l i).2.2.1 = m) : (swF m i).1 = true ∧ (swF m i).2.2.1 = l ∧ allP m ∧ m.length = l.length := by
  obtain ⟨a, b, h1, h2, h3⟩ := swF_true hi hp h
  rw [h2] at hm
  subst hm
  have hb := comF_back h1
  have g1 : ((l.set i a).set (i + 1) b).getD i E0 = a := by
    rw [List.getD_eq_getElem?_getD, List.getElem?_set_ne (by omega), List.getElem?_set_self (by omega)]; rfl
  have g2 : ((l.set i a).set (i + 1) b).getD (i + 1) E0 = b := by
    rw [List.getD_eq_getElem?_getD, List.getElem?_set_self (by simp; omega)]; rfl
  refine ⟨by unfold swF; simp only [g1, g2, hb], ?_, h3, by simp⟩
  unfold swF
  simp only [g1, g2, hb, if_true]
  apply List.ext_getElem?
  intro j
  by_cases h1 : j = i + 1
  · subst h1
    rw [List.getElem?_set_self (by simp; omega), List.getD_eq_getElem?_getD, List.getElem?_eq_getElem (by omega)]; rfl
  · rw [List.getElem?_set_ne (by omega)]
    by_cases h2 : j = i
    · subst h2
      rw [List.getElem?_set_self (by simp; omega), List.getD_eq_getElem?_getD, List.getElem?_eq_getElem (by omega)]; rfl
    · rw [List.getElem?_set_ne (by omega), List.getElem?_set_ne (by omega), List.getElem?_set_ne (by omega)]

def upF : Nat → Nat → List Patch → Option (List Patch)
  | 0, _, l => some l
  | n + 1, k, l => if (swF l k).1 = true then upF n (k + 1) (swF l k).2.2.1 else none
def dnF : Nat → Nat → List Patch → Option (List Patch)
  | 0, _, l => some l
  | n + 1, k, l => if (swF l (k - 1)).1 = true then dnF n (k - 1) (swF l (k - 1)).2.2.1 else none
theorem mvF_upF : ∀ (n k : Nat) (l : List Patch), (mvF n k (k + n) l).2.1 = true → upF n k l = some (mvF n k (k + n) l).1
  | 0, _, _, _ => rfl
  | n + 1, k, l, h => by
    rw [mvF_up (by omega) (by omega)] at h ⊢
    unfold upF
    by_cases hs : (swF l k).1 = true
    · rw [if_pos hs] at h ⊢
      rw [if_pos hs, show k + (n + 1) = k + 1 + n from by omega] at *
      exact mvF_upF n (k + 1) _ h
    · rw [if_neg hs] at h; simp at h
theorem upF_mvF : ∀ (n k : Nat) (l x : List Patch), upF n k l = some x → mvF n k (k + n) l = (x, true, (0, 0, ()), ())
  | 0, _, _, _, h => by injection h with h; subst h; rfl
  | n + 1, k, l, x, h => by
    rw [mvF_up (by omega) (by omega)]
    unfold upF at h
    by_cases hs : (swF l k).1 = true
    · rw [if_pos hs] at h ⊢
      rw [show k + (n + 1) = k + 1 + n from by omega]
      exact upF_mvF n (k + 1) _ x h
    · rw [if_neg hs] at h; simp at h
theorem mvF_dnF : ∀ (n k : Nat) (l : List Patch), n ≤ k → (mvF n k (k - n) l).2.1 = true → dnF n k l = some (mvF n k (k - n) l).1
  | 0, _, _, _, _ => rfl
  | n + 1, k, l, hn, h => by
    rw [mvF_dn (by omega) (by omega)] at h ⊢
    unfold dnF
    by_cases hs : (swF l (k - 1)).1 = true
    · rw [if_pos hs] at h ⊢
      rw [if_pos hs, show k - (n + 1) = k - 1 - n from by omega] at *
      exact mvF_dnF n (k - 1) _ (by omega) h
    · rw [if_neg hs] at h; simp at h
theorem dnF_mvF : ∀ (n k : Nat) (l x : List Patch), n ≤ k → dnF n k l = some x → mvF n k (k - n) l = (x, true, (0, 0, ()), ())
  | 0, _, _, _, _, h => by injection h with h; subst h; rfl
  | n + 1, k, l, x, hn, h => by
    rw [mvF_dn (by omega) (by omega)]
    unfold dnF at h
    by_cases hs : (swF l (k - 1)).1 = true
    · rw [if_pos hs] at h ⊢
      rw [show k - (n + 1) = k - 1 - n from by omega]
      exact dnF_mvF n (k - 1) _ x (by omega) h
    · rw [if_neg hs] at h; simp at h
theorem dnF_succ (n k : Nat) (l : List Patch) : dnF (n + 1) k l = if (swF l (k - 1)).1 = true then dnF n (k - 1) (swF l (k - 1)).2.2.1 else none := rfl
theorem upF_succ (n k : Nat) (l : List Patch) : upF (n + 1) k l = if (swF l k).1 = true then upF n (k + 1) (swF l k).2.2.1 else none := rfl
theorem dnF_add : ∀ (n k : Nat) (l : List Patch), dnF (n + 1) k l = (dnF n k l).bind (dnF 1 (k - n))
  | 0, _, _ => rfl
  | n + 1, k, l => by
    rw [dnF_succ (n + 1) k l, dnF_succ n k l]
    by_cases hs : (swF l (k - 1)).1 = true
    · rw [if_pos hs, if_pos hs, dnF_add n, show k - 1 - n = k - (n + 1) from by omega]
    · rw [if_neg hs, if_neg hs]; rfl
theorem upF_add : ∀ (n k : Nat) (l : List Patch), upF (n + 1) k l = (upF n k l).bind (upF 1 (k + n))
  | 0, _, _ => rfl
  | n + 1, k, l => by
    rw [upF_succ (n + 1) k l, upF_succ n k l]
    by_cases hs : (swF l k).1 = true
    · rw [if_pos hs, if_pos hs, upF_add n, show k + 1 + n = k + (n + 1) from by omega]
    · rw [if_neg hs, if_neg hs]; rfl
theorem up_dn : ∀ (n k : Nat) (l x : List Patch), k + n < l.length → allP l → upF n k l = some x → dnF n (k + n) x = some l ∧ allP x ∧ x.length = l.length
  | 0, _, _, _, _, hp, h => by injection h with h; subst h; exact ⟨rfl, hp, rfl⟩
  | n + 1, k, l, x, hk, hp, h => by
    unfold upF at h
    split at h
    · rename_i hs
      obtain ⟨s1, s2, s3, s4⟩ := swF_back (by omega) hp hs rfl
      obtain ⟨g1, g2, g3⟩ := up_dn n (k + 1) _ x (by omega) s3 h
      refine ⟨?_, g2, by omega⟩
      rw [dnF_add, show k + (n + 1) = k + 1 + n from by omega, g1, show k + 1 + n - n = k + 1 from by omega]
      show dnF 1 (k + 1) _ = some l
      rw [dnF, show k + 1 - 1 = k from rfl, if_pos s1, s2]; rfl
    · cases h
theorem dn_up : ∀ (n k : Nat) (l x : List Patch), n ≤ k → k < l.length → allP l → dnF n k l = some x → upF n (k - n) x = some l ∧ allP x ∧ x.length = l.length
  | 0, _, _, _, _, _, hp, h => by injection h with h; subst h; exact ⟨rfl, hp, rfl⟩
  | n + 1, k, l, x, hn, hk, hp, h => by
    unfold dnF at h
    split at h
    · rename_i hs
      obtain ⟨s1, s2, s3, s4⟩ := swF_back (by omega) hp hs rfl
      obtain ⟨g1, g2, g3⟩ := dn_up n (k - 1) _ x (by omega) (by omega) s3 h
      refine ⟨?_, g2, by omega⟩
      rw [upF_add, show k - (n + 1) = k - 1 - n from by omega, g1]
      show upF 1 (k - 1 - n + n) _ = some l
      rw [show k - 1 - n + n = k - 1 from by omega, upF, if_pos s1, s2]; rfl
    · cases h
theorem sfrom_all : ∀ {l : List Patch} {i : Int}, allP l → sfrom l i = (0, 0, ())
  | [], _, _ => rfl
  | p :: l, i, h => by
    simp only [sfrom, h p (by simp), if_true]
    exact sfrom_all fun q hq => h q (by simp [hq])
theorem sF_all {l : List Patch} (h : allP l) (hl : l.length ≤ 12) : sF l = (0, 0, ()) := by
  unfold sF; rw [if_neg (by omega)]; exact sfrom_all h
/-- What a move that succeeds does, said by both ways. -/
theorem move_cases {l x : List Patch} {k t : Int} {f : Fault} {u : Unit} (h : moveF l k t = (x, true, f, u)) :
    f = (0, 0, ()) ∧ sF l = (0, 0, ()) ∧ 0 ≤ k ∧ k < l.length ∧ 0 ≤ t ∧ t < l.length ∧ ((k ≤ t ∧ upF (t - k).toNat k.toNat l = some x) ∨ (t ≤ k ∧ dnF (k - t).toNat k.toNat l = some x)) := by
  unfold moveF at h
  split at h
  · rename_i h1
    split at h
    · rename_i h2
      split at h
      · rename_i h3
        obtain ⟨k0, k1⟩ := posF_zero h2
        obtain ⟨t0, t1⟩ := posF_zero h3
        obtain ⟨k, rfl⟩ := Int.eq_ofNat_of_zero_le k0
        obtain ⟨t, rfl⟩ := Int.eq_ofNat_of_zero_le t0
        simp only [Int.toNat_natCast] at h
        by_cases hkt : k ≤ t
        · have hD : Dst k t = t - k := by unfold Dst; split <;> omega
          have e1 : ((t : Int) - (k : Int)).toNat = t - k := by omega
          have e2 : mvF (t - k) k (k + (t - k)) l = (x, true, f, u) := by rw [show k + (t - k) = t from by omega, ← hD]; exact h
          have h4 := mvF_upF (t - k) k l (by rw [e2])
          rw [e2] at h4
          have h5 := upF_mvF _ _ _ _ h4
          rw [e2] at h5
          injection h5 with _ h5; injection h5 with _ h5; injection h5 with h5 _
          refine ⟨h5, h1, by omega, k1, by omega, t1, .inl ⟨by omega, ?_⟩⟩
          rw [e1, Int.toNat_natCast]; exact h4
        · have hD : Dst k t = k - t := by unfold Dst; split <;> omega
          have e1 : ((k : Int) - (t : Int)).toNat = k - t := by omega
          have e2 : mvF (k - t) k (k - (k - t)) l = (x, true, f, u) := by rw [show k - (k - t) = t from by omega, ← hD]; exact h
          have h4 := mvF_dnF (k - t) k l (by omega) (by rw [e2])
          rw [e2] at h4
          have h5 := dnF_mvF _ _ _ _ (by omega) h4
          rw [e2] at h5
          injection h5 with _ h5; injection h5 with _ h5; injection h5 with h5 _
          refine ⟨h5, h1, by omega, k1, by omega, t1, .inr ⟨by omega, ?_⟩⟩
          rw [e1, Int.toNat_natCast]; exact h4
      · injection h with _ h; injection h with h _; cases h
    · injection h with _ h; injection h with h _; cases h
  · injection h with _ h; injection h with h _; cases h
theorem move_back {l x : List Patch} {k t : Int} {f : Fault} {u : Unit} (h : moveF l k t = (x, true, f, u)) : moveF x t k = (l, true, (0, 0, ()), ()) ∧ allP l ∧ l.length ≤ 12 := by
  obtain ⟨_, h1, k0, k1, t0, t1, h2⟩ := move_cases h
  obtain ⟨hl, hp⟩ := sF_bd h1
  have hp : allP l := hp
  obtain ⟨k, rfl⟩ := Int.eq_ofNat_of_zero_le k0
  obtain ⟨t, rfl⟩ := Int.eq_ofNat_of_zero_le t0
  refine ⟨?_, hp, hl⟩
  rcases h2 with ⟨hk, h2⟩ | ⟨hk, h2⟩
  · rw [show ((t : Int) - (k : Int)).toNat = t - k from by omega, Int.toNat_natCast] at h2
    obtain ⟨g1, g2, g3⟩ := up_dn _ _ _ _ (by omega) hp h2
    have h3 := dnF_mvF _ _ _ _ (by omega) g1
    unfold moveF
    rw [if_pos (sF_all g2 (by omega)), if_pos (by unfold posF; rw [if_neg (by omega)]), if_pos (by unfold posF; rw [if_neg (by omega)]), Int.toNat_natCast, Int.toNat_natCast]
    have hD : Dst t k = t - k := by unfold Dst; split <;> omega
    rw [hD, show t = k + (t - k) from by omega]
    rw [show k + (t - k) - k = t - k from by omega]
    rw [show k + (t - k) - (t - k) = k from by omega] at h3
    exact h3
  · rw [show ((k : Int) - (t : Int)).toNat = k - t from by omega, Int.toNat_natCast] at h2
    obtain ⟨g1, g2, g3⟩ := dn_up _ _ _ _ (by omega) (by omega) hp h2
    have h3 := upF_mvF _ _ _ _ g1
    unfold moveF
    rw [if_pos (sF_all g2 (by omega)), if_pos (by unfold posF; rw [if_neg (by omega)]), if_pos (by unfold posF; rw [if_neg (by omega)]), Int.toNat_natCast, Int.toNat_natCast]
    have hD : Dst t k = k - t := by unfold Dst; split <;> omega
    rw [hD]
    rw [show k - (k - t) = t from by omega, show t + (k - t) = k from by omega] at h3
    exact h3
theorem MoveBack_eq (l : List Patch) (k t : Int) : changeforgelaw2_StackMoveBack_5 (l, k, t, ()) = some (true, ()) := by
  unfold changeforgelaw2_StackMoveBack_5
  simp only [Move_eq, dropped_eq, Option.bind_some]
  generalize hm : moveF l k t = r
  obtain ⟨x, ok, ⟨c, j, ⟨⟩⟩, ⟨⟩⟩ := r
  cases ok with
  | false => by_cases hc : c = 0 <;> simp [hc]
  | true =>
    obtain ⟨h1, h2, h3⟩ := move_back hm
    obtain ⟨e, _⟩ := move_cases hm
    injection e with e _
    subst e
    have hP : changeforgeequal_Patches_14 (l, l, ()) = some (true, ()) := Patches_refl _ (by omega) fun p hp => bd_ok (pF_bd (h2 p hp))
    simp [h1, hP]
end Go.Proofs.Ytfepfapfogpfkaa.F
end
section
/- What applying a patch computes. -/
namespace Go.Proofs.Ytfepfapfogpfkaa.F
open Go Go.Proofs.Ytfepfapfogpfkaa.V

def okS (s : ByteArray) : Prop := s.size ≤ 80 ∧ nl s = false
theorem vfrom_iff : ∀ {l : List ByteArray} {i : Int}, (vfrom l i).1 = 0 ↔ ∀ s ∈ l, okS s
  | [], _ => by simp [vfrom]
  | s :: l, i => by
    simp only [vfrom, List.forall_mem_cons]
    by_cases h1 : s.size > 80
    · rw [if_pos h1]; simp [okS]; omega
    · rw [if_neg h1]
      by_cases h2 : nl s = true
      · rw [if_pos h2]; simp [okS, h2]
      · rw [if_neg h2, vfrom_iff]
        have : okS s := ⟨by omega, by simpa using h2⟩
        simp [this]
theorem code_iff {l : List ByteArray} : code l = 0 ↔ l.length ≤ 120 ∧ ∀ s ∈ l, okS s := by
  unfold code vF
  by_cases h : l.length > 120
  · rw [if_pos h]; simp; omega
  · rw [if_neg h, vfrom_iff]; simp [show l.length ≤ 120 from by omega]

/-- The rest of a text, from a line on, behind hunks. -/
def apL : List Hunk → Int → List ByteArray → Option (List ByteArray)
  | [], _, t => some t
  | h :: r, k, t => if (h.1 - k).toNat + h.2.1.length ≤ t.length ∧ (t.drop (h.1 - k).toNat).take h.2.1.length = h.2.1 then
      (apL r (h.1 + h.2.1.length) (t.drop ((h.1 - k).toNat + h.2.1.length))).map (t.take (h.1 - k).toNat ++ h.2.2.1 ++ ·) else none
def okHs (l : List Hunk) : Prop := ∀ h ∈ l, ∀ s ∈ h.2.2.1, okS s
theorem apL_ok : ∀ {l : List Hunk} {k : Int} {t u : List ByteArray}, apL l k t = some u → (∀ s ∈ t, okS s) → okHs l → ∀ s ∈ u, okS s
  | [], _, t, u, h, ht, _ => by injection h with h; subst h; exact ht
  | h :: r, k, t, u, e, ht, hl => by
    simp only [apL] at e
    split at e
    · rw [Option.map_eq_some_iff] at e
      obtain ⟨u', e1, rfl⟩ := e
      have := apL_ok e1 (fun s hs => ht s (List.mem_of_mem_drop hs)) fun x hx => hl x (by simp [hx])
      intro s hs
      simp only [List.mem_append] at hs
      rcases hs with (hs | hs) | hs
      · exact ht s (List.mem_of_mem_take hs)
      · exact hl h (by simp) s hs
      · exact this s hs
    · cases e
theorem hfrom_new : ∀ {l : List Hunk} {k i : Int}, hfrom l k i = (0, 0, ()) → okHs l
  | [], _, _, _, h, hh => by cases hh
  | h :: r, k, i, e, h', hh => by
    simp only [hfrom] at e
    split at e
    · rename_i hne; injection e with e1 e2; exact absurd e1 hne
    · rename_i hz
      have hz : hc h k = 0 := by simpa using hz
      rcases List.mem_cons.1 hh with rfl | hh
      · exact (code_iff.1 (hc_zero hz).2.2.2.2.2.2.1).2
      · exact hfrom_new e h' hh
theorem pF_new {p : Patch} (e : pF p = (0, 0, ())) : okHs p.1 := by
  unfold pF at e
  split at e
  · injection e with e; cases e
  · exact hfrom_new e
theorem Equal_eq (a b : List ByteArray) (ha : a.length ≤ 1000000) : slices_Equal___string_string__43 (a, b, ()) = some (decide (a = b), ()) := by
  unfold slices_Equal___string_string__43
  by_cases hl : a.length = b.length
  · have h0 : (((a.length : Int)) != (b.length : Int)) = false := by simp [hl]
    simp only [h0, Bool.false_eq_true, if_false]
    refine (loop_val (fun s => ∃ i : Nat, s.1 = (i : Int) ∧ i ≤ a.length) (fun s => a.length - s.1.toNat) (fun s => (decide (a.drop s.1.toNat = b.drop s.1.toNat), ())) ?_ (s := (0, ())) ⟨0, rfl, by omega⟩)
    rintro ⟨a1, ⟨⟩⟩ ⟨i, h1, hi⟩
    simp only at h1
    subst h1
    by_cases hlt : i < a.length
    · have h2 : ((i : Int) < (a.length : Int)) := by omega
      have hg : a[i]? = some a[i] := List.getElem?_eq_getElem hlt
      have hg' : b[i]? = some (b[i]'(by omega)) := List.getElem?_eq_getElem (by omega)
      have hd : a.drop i = a[i] :: a.drop (i + 1) := List.drop_eq_getElem_cons hlt
      have hd' : b.drop i = (b[i]'(by omega)) :: b.drop (i + 1) := List.drop_eq_getElem_cons (by omega)
      generalize a[i] = x at hg hd
      generalize b[i]'(by omega) = y at hg' hd'
      simp only [h2, decide_true, if_true, atC_val hg, atC_val hg', Int.toNat_natCast, hd, hd']
      by_cases hxy : x = y
      · subst hxy
        left
        refine ⟨((i + 1 : Nat), ()), ?_, ⟨i + 1, rfl, hlt⟩, by simp, by simp; omega⟩
        simp only [toList_beq, Bool.not_true, Bool.false_eq_true, if_false, wrap_i64 (n := (i : Int) + 1) (by omega) (by omega)]
        rfl
      · right
        have : (ByteArray.toList x == ByteArray.toList y) = false := by
          rw [Bool.eq_false_iff]
          intro e
          have e := eq_of_beq e
          apply hxy
          have e2 : ∀ z : ByteArray, z.toList = z.data.toList := fun z => by
            exact ByteArray.toList_eq z
          rw [e2, e2] at e
          cases x; cases y
          simp only at e
          congr
          exact Array.toList_inj.1 e
        simp [this, hxy]
    · right
      have h2 : ¬ ((i : Int) < (a.length : Int)) := by omega
      simp only [h2, decide_false, Bool.false_eq_true, if_false, Int.toNat_natCast, List.drop_eq_nil_of_le (show a.length ≤ i from by omega), List.drop_eq_nil_of_le (show b.length ≤ i from by omega), decide_true]
      rfl
  · have h0 : (((a.length : Int)) != (b.length : Int)) = true := by simp; omega
    have : ¬ a = b := fun e => hl (by rw [e])
    simp [h0, this]
end Go.Proofs.Ytfepfapfogpfkaa.F
end
section
/- What applying a stack computes. -/
namespace Go.Proofs.Ytfepfapfogpfkaa.F
open Go Go.Proofs.Ytfepfapfogpfkaa.V

def apQ (o : Option (List ByteArray)) (r : List ByteArray × Fault × Unit) : Prop := match o with
  | some u => if 120 < u.length then r = ([], (10, -1, ()), ()) else r = (u, (0, 0, ()), ())
  | none => r.2.1.1 = 19
theorem ApplyP_eq (p : Patch) (t : List ByteArray) (hp : pF p = (0, 0, ())) (ht : code t = 0) : ∃ r, textpatch_Apply_19 (p, t, ()) = some r ∧ apQ (apL p.1 0 t) r := by
  have hsrt := pF_srt hp
  obtain ⟨hl, hb⟩ := pF_bd hp
  obtain ⟨l, ⟨⟩⟩ := p
  simp only at hsrt hl hb
  obtain ⟨htl, _⟩ := code_iff.1 ht
  unfold textpatch_Apply_19
  have e : (((l, ()) : Patch).1, ()) = ((l, ()) : Patch) := rfl
  simp only [textpatch_Validate_eq, hp, lines_Code_eq, ht, Option.bind_some, BEq.rfl, Bool.and_self, Bool.not_true, Bool.false_eq_true, if_false, bne_self_eq_false]
  refine (loop_inv (fun s => ∃ i k : Nat, s.2.1 = (k : Int) ∧ s.2.2.1 = (i : Int) ∧ i ≤ l.length ∧ k ≤ t.length ∧ s.1.length ≤ 240 * i ∧ Srt k (l.drop i) ∧ apL l 0 t = (apL (l.drop i) k (t.drop k)).map (s.1 ++ ·)) (fun s => l.length - s.2.2.1.toNat) (apQ (apL l 0 t)) ?_ (s := ([], 0, 0, ())) ⟨0, 0, rfl, rfl, by omega, by omega, by simp, hsrt, ?_⟩)
  · rintro ⟨out, a2, a3, ⟨⟩⟩ ⟨i, k, h1, h2, hi, hk, ho, hs, he⟩
    simp only at h1 h2 ho he
    subst h1 h2
    by_cases hlt : i < l.length
    · have h2 : ((i : Int) < (l.length : Int)) := by omega
      have hg : l[i]? = some l[i] := List.getElem?_eq_getElem hlt
      have hd : l.drop i = l[i] :: l.drop (i + 1) := List.drop_eq_getElem_cons hlt
      have hbi := hb _ (List.getElem_mem hlt)
      generalize l[i] = x at hg hd hbi
      obtain ⟨at_, old, new, ⟨⟩⟩ := x
      obtain ⟨b1, b2, b3, b4⟩ := hbi
      simp only at b1 b2 b3 b4
      rw [hd] at hs he
      obtain ⟨hs1, hs2⟩ := hs
      simp only at hs1 hs2
      obtain ⟨A, rfl⟩ := Int.eq_ofNat_of_zero_le b1
      have hE : textpatch_End_42 (((A : Int), old, new, ()), ()) = some (((A + old.length : Nat) : Int), ()) := by rw [End_eq _ (by simp) (by simp; omega) (by simp; omega)]; simp
      simp only [apL] at he
      have hAk : ((A : Int) - (k : Int)).toNat = A - k := by omega
      rw [hAk] at he
      simp only [h2, decide_true, if_true, atC_val hg, hE, Option.bind_some]
      by_cases hend : ((A + old.length : Nat) : Int) > (t.length : Int)
      · right
        have hno : ¬ ((A - k) + old.length ≤ (t.drop k).length ∧ ((t.drop k).drop (A - k)).take old.length = old) := by rintro ⟨h, _⟩; simp at h; omega
        rw [if_neg hno] at he
        simp only [hend, decide_true, if_true]
        exact ⟨_, rfl, by rw [he]; rfl⟩
      · have hend' : A + old.length ≤ t.length := by omega
        have hc1 : (0 : Int) ≤ (A : Int) ∧ (A : Int) ≤ ((A + old.length : Nat) : Int) ∧ ((A + old.length : Nat) : Int) ≤ (t.length : Int) := by omega
        simp only [hend, decide_false, Bool.false_eq_true, if_false, hc1, and_self, if_true, Int.toNat_natCast]
        have hsl : List.drop A (List.take (A + old.length) t) = (t.drop A).take old.length := by rw [List.drop_take]; congr 1; omega
        rw [hsl, Equal_eq _ _ (by simp; omega)]
        have hdd : (t.drop k).drop (A - k) = t.drop A := by rw [List.drop_drop]; congr 1; omega
        rw [hdd] at he
        by_cases heq : (t.drop A).take old.length = old
        · left
          rw [if_pos ⟨by simp; omega, heq⟩] at he
          have hc2 : (0 : Int) ≤ (k : Int) ∧ (k : Int) ≤ (A : Int) ∧ (A : Int) ≤ (t.length : Int) := by omega
          have hl2 : (List.drop k (List.take A t)).length = A - k := by simp; omega
          have hdt : List.drop k (List.take A t) = (t.drop k).take (A - k) := by rw [List.drop_take]
          refine ⟨(out ++ List.drop k (List.take A t) ++ new, ((A + old.length : Nat) : Int), ((i + 1 : Nat) : Int), ()), ?_, ⟨i + 1, A + old.length, rfl, rfl, hlt, hend', by simp; omega, ?_, ?_⟩, by simp; omega⟩
          · simp only [Option.bind_some, decide_eq_true heq, Bool.not_true, Bool.false_eq_true, if_false, hc2, and_self, if_true, Int.toNat_natCast, hl2]
            rw [if_pos ⟨by omega, by simp [maxLen]; omega⟩]
            simp only [List.length_append, hl2]
            rw [if_pos ⟨by omega, by simp [maxLen]; omega⟩]
            simp only [hE, Option.bind_some, wrap_i64 (n := (i : Int) + 1) (by omega) (by omega)]
            rfl
          · cases hr : l.drop (i + 1) with
            | nil => trivial
            | cons y r => rw [hr] at hs2; obtain ⟨q1, q2⟩ := hs2; exact ⟨by omega, q2⟩
          · rw [he]
            have : (t.drop k).drop (A - k + old.length) = t.drop (A + old.length) := by rw [List.drop_drop]; congr 1; omega
            rw [this, hdt]
            simp only [Option.map_map, Function.comp_def, List.append_assoc]
            congr 1
        · right
          rw [if_neg (fun h => heq h.2)] at he
          simp only [Option.bind_some, decide_eq_false heq, Bool.not_false, if_true]
          exact ⟨_, rfl, by rw [he]; rfl⟩
    · right
      have h2 : ¬ ((i : Int) < (l.length : Int)) := by omega
      rw [List.drop_eq_nil_of_le (show l.length ≤ i from by omega)] at he
      have hc : (0 : Int) ≤ (k : Int) ∧ (k : Int) ≤ (t.length : Int) ∧ (t.length : Int) ≤ (t.length : Int) := by omega
      simp only [h2, decide_false, Bool.false_eq_true, if_false, hc, and_self, if_true, Int.toNat_natCast, List.take_length]
      rw [if_pos ⟨by simp; omega, by simp [maxLen]; omega⟩, he]
      have hap : (apL [] (k : Int) (t.drop k)).map (out ++ ·) = some (out ++ t.drop k) := rfl
      rw [hap]
      simp only [apQ]
      generalize out ++ t.drop k = u
      by_cases hu : 120 < u.length
      · have : ((u.length : Int) > 120) := by omega
        simp only [this, decide_true, if_true, hu]
        exact ⟨_, rfl, rfl⟩
      · have : ¬ ((u.length : Int) > 120) := by omega
        simp only [this, decide_false, Bool.false_eq_true, if_false, hu]
        exact ⟨_, rfl, rfl⟩
  · simp

def apAll : List Patch → List ByteArray → Option (List ByteArray)
  | [], t => some t
  | p :: l, t => (apL p.1 0 t).bind (apAll l)
def stQ (o : Option (List ByteArray)) (r : List ByteArray × Fault × Unit) : Prop := (∃ u, o = some u ∧ r = (u, (0, 0, ()), ()) ∧ code u = 0) ∨ (o = none ∧ r.2.1.1 = 19) ∨ r.2.1.1 = 10
theorem Apply_eq (base : List ByteArray) (l : List Patch) (hs : sF l = (0, 0, ())) (hb : code base = 0) : ∃ r, stack_Apply_16 (base, l, ()) = some r ∧ stQ (apAll l base) r := by
  obtain ⟨hl, hp⟩ := sF_bd hs
  obtain ⟨hbl, _⟩ := code_iff.1 hb
  unfold stack_Apply_16
  simp only [stack_Validate_eq, hs, lines_Code_eq, hb, Option.bind_some, Clone_eq base (by omega), BEq.rfl, Bool.and_self, Bool.not_true, Bool.false_eq_true, if_false, bne_self_eq_false]
  refine (loop_inv (fun s => ∃ i : Nat, s.2.1 = (i : Int) ∧ i ≤ l.length ∧ code s.1 = 0 ∧ apAll l base = apAll (l.drop i) s.1) (fun s => l.length - s.2.1.toNat) (stQ (apAll l base)) ?_ (s := (base, 0, ())) ⟨0, rfl, by omega, hb, rfl⟩)
  rintro ⟨t, a2, ⟨⟩⟩ ⟨i, h1, hi, hc, he⟩
  simp only at h1 hc he
  subst h1
  by_cases hlt : i < l.length
  · have h2 : ((i : Int) < (l.length : Int)) := by omega
    have hg : l[i]? = some l[i] := List.getElem?_eq_getElem hlt
    have hd : l.drop i = l[i] :: l.drop (i + 1) := List.drop_eq_getElem_cons hlt
    have hpi := hp _ (List.getElem_mem hlt)
    generalize l[i] = x at hg hd hpi
    rw [hd] at he
    obtain ⟨x, ⟨⟩⟩ := x
    obtain ⟨r, hr, hq⟩ := ApplyP_eq (x, ()) t hpi hc
    simp only [h2, decide_true, if_true, atC_val hg, hr, Option.bind_some]
    simp only [apAll] at he
    simp only at hq
    have hok := fun u (h : apL x 0 t = some u) => apL_ok h (code_iff.1 hc).2 (pF_new hpi)
    generalize hA : apL x 0 t = A at hq he hok
    cases A with
    | none =>
      right
      obtain ⟨r1, ⟨c, j, ⟨⟩⟩, ⟨⟩⟩ := r
      simp only [apQ] at hq
      subst hq
      simp only [show ((19 : Int) == 0) = false from rfl, Bool.false_and, Bool.not_false, if_true]
      exact ⟨_, rfl, .inr (.inl ⟨by rw [he]; rfl, rfl⟩)⟩
    | some u =>
      simp only [apQ] at hq
      by_cases hu : 120 < u.length
      · right
        rw [if_pos hu] at hq
        subst hq
        simp only [show ((10 : Int) == 0) = false from rfl, Bool.false_and, Bool.not_false, if_true]
        exact ⟨_, rfl, .inr (.inr rfl)⟩
      · left
        rw [if_neg hu] at hq
        subst hq
        refine ⟨(u, ((i + 1 : Nat) : Int), ()), ?_, ⟨i + 1, rfl, hlt, code_iff.2 ⟨by show u.length ≤ 120; omega, hok u rfl⟩, by rw [he]; rfl⟩, by simp; omega⟩
        simp only [BEq.rfl, Bool.and_self, Bool.not_true, Bool.false_eq_true, if_false, wrap_i64 (n := (i : Int) + 1) (by omega) (by omega)]
        rfl
  · right
    have h2 : ¬ ((i : Int) < (l.length : Int)) := by omega
    rw [List.drop_eq_nil_of_le (show l.length ≤ i from by omega)] at he
    simp only [h2, decide_false, Bool.false_eq_true, if_false]
    exact ⟨_, rfl, .inl ⟨t, he, rfl, hc⟩⟩
theorem Apply_bad (base : List ByteArray) (l : List Patch) (hs : sF l = (0, 0, ())) (hb : ¬ code base = 0) : stack_Apply_16 (base, l, ()) = some ([], (code base, -2, ()), ()) := by
  unfold stack_Apply_16
  have hb' : (code base != 0) = true := by simpa using hb
  simp only [stack_Validate_eq, hs, lines_Code_eq, hb', Option.bind_some, BEq.rfl, Bool.and_self, Bool.not_true, Bool.false_eq_true, if_false, if_true]
end Go.Proofs.Ytfepfapfogpfkaa.F
end
section
/- Exchanging two patches does not change what they do together. -/
namespace Go.Proofs.Ytfepfapfogpfkaa.F
open Go Go.Proofs.Ytfepfapfogpfkaa.V

theorem apL_shift (s : Int) : ∀ (l : List Hunk) (k : Int) (t : List ByteArray), apL (l.map fun h => (h.1 + s, h.2.1, h.2.2.1, ())) (k + s) t = apL l k t
  | [], _, _ => rfl
  | h :: r, k, t => by
    simp only [List.map_cons, apL]
    have e1 : h.1 + s - (k + s) = h.1 - k := by omega
    have e2 : h.1 + s + (h.2.1.length : Int) = h.1 + h.2.1.length + s := by omega
    rw [e1, e2, apL_shift s r]
/-- Lines ahead of all hunks stay. -/
theorem apL_skip {l : List Hunk} {k : Int} {pre u : List ByteArray} (h : Srt (k + pre.length) l) : apL l k (pre ++ u) = (apL l (k + pre.length) u).map (pre ++ ·) := by
  cases l with
  | nil => rfl
  | cons x r =>
    obtain ⟨h1, _⟩ := h
    simp only [apL]
    obtain ⟨g, hg⟩ : ∃ g : Nat, x.1 = k + pre.length + g := ⟨(x.1 - (k + pre.length)).toNat, by omega⟩
    have e1 : (x.1 - k).toNat = pre.length + g := by omega
    have e2 : (x.1 - (k + pre.length)).toNat = g := by omega
    rw [e1, e2]
    have e3 : (pre ++ u).drop (pre.length + g) = u.drop g := by rw [List.drop_append]; simp
    have e4 : (pre ++ u).drop (pre.length + g + x.2.1.length) = u.drop (g + x.2.1.length) := by rw [Nat.add_assoc, List.drop_append]; simp
    have e5 : (pre ++ u).take (pre.length + g) = pre ++ u.take g := by rw [List.take_append, List.take_of_length_le (show pre.length ≤ pre.length + g from by omega)]; simp
    rw [e3, e4, e5]
    by_cases hc : g + x.2.1.length ≤ u.length ∧ (u.drop g).take x.2.1.length = x.2.1
    · rw [if_pos hc, if_pos ⟨by simp; omega, hc.2⟩, Option.map_map]
      congr 1
      funext z
      simp [List.append_assoc]
    · rw [if_neg hc, if_neg (fun h => hc ⟨by have := h.1; simp at this; omega, h.2⟩)]
      rfl
theorem Srt.mono : ∀ {l : List Hunk} {k k' : Int}, Srt k l → k' ≤ k → Srt k' l
  | [], _, _, _, _ => trivial
  | _ :: _, _, _, ⟨h1, h2⟩, h => ⟨by omega, h2⟩
theorem apL_short {l : List Hunk} {k : Int} {t : List ByteArray} {x : Hunk} (h : Srt (k + t.length + 1) (x :: l)) : apL (x :: l) k t = none := by
  obtain ⟨h1, _⟩ := h
  simp only [apL]
  rw [if_neg]
  rintro ⟨h2, _⟩
  omega
/-- Two lots of hunks of one text, by place. -/
def mrg : Nat → List Hunk → List Hunk → List Hunk
  | 0, _, _ => []
  | _ + 1, [], A => A
  | _ + 1, P, [] => P
  | n + 1, h :: P, x :: A => if h.1 < x.1 then h :: mrg n P (x :: A) else x :: mrg n (h :: P) A
def apartL (P A : List Hunk) : Prop := ∀ h ∈ P, ∀ x ∈ A, h.1 + h.2.1.length < x.1 ∨ x.1 + x.2.1.length < h.1
def mvd (P : List Hunk) (s : Int) (A : List Hunk) : List Hunk := A.map fun x => (x.1 + s + growF P (oldsF P) x.1, x.2.1, x.2.2.1, ())
theorem mvd_srt : ∀ {A : List Hunk} {P : List Hunk} {k s : Int}, Srt k A → Srt k P → apartL P A → Srt (k + s + growF P (oldsF P) k) (mvd P s A)
  | [], _, _, _, _, _, _ => trivial
  | x :: A, P, k, s, ⟨h1, h2⟩, hP, ha => by
    -- by induction over P's hunks ahead of x
    induction P generalizing k s with
    | nil =>
      refine ⟨by simp [growF]; omega, ?_⟩
      have := mvd_srt (P := []) (s := s) h2 trivial (fun h hh => by cases hh)
      simp only [growF] at this ⊢
      refine Srt.mono this (by omega)
    | cons h P ih =>
      obtain ⟨p1, p2⟩ := hP
      have e' : ∀ y, growF (h :: P) (oldsF (h :: P)) y = (if h.1 + h.2.1.length < y then dl h else 0) + growF P (oldsF P) y := fun _ => rfl
      have e : dl h = (h.2.2.1.length : Int) - h.2.1.length := rfl
      have hx := ha h (by simp) x (by simp)
      have hk0 : growF (h :: P) (oldsF (h :: P)) k = 0 := grow_olds0 (k := k) ⟨p1, p2⟩ (Int.le_refl _)
      rw [hk0]
      rcases hx with hx | hx
      · have hall : ∀ y ∈ x :: A, h.1 + h.2.1.length < y.1 := by
          intro y hy
          rcases List.mem_cons.1 hy with rfl | hy
          · exact hx
          · have := olds_lo (z := h.1 + h.2.1.length) h2 (by omega) (y.1, y.1 + y.2.1.length, ()) (by simp only [oldsF, List.mem_map]; exact ⟨y, hy, rfl⟩)
            exact this
        have hm : mvd (h :: P) s (x :: A) = mvd P (s + dl h) (x :: A) := by
          unfold mvd
          refine List.map_congr_left fun y hy => ?_
          rw [e', if_pos (hall y hy)]
          congr 1
          omega
        rw [hm]
        have hk' : growF P (oldsF P) (h.1 + h.2.1.length + 1) = 0 := grow_olds0 p2 (Int.le_refl _)
        have := ih (k := h.1 + h.2.1.length + 1) (s := s + dl h) (by omega) p2 (fun a b c d => ha a (by simp [b]) c d)
        rw [hk'] at this
        exact Srt.mono this (by omega)
      · have hx0 : growF (h :: P) (oldsF (h :: P)) x.1 = 0 := grow_olds0 (k := h.1) ⟨Int.le_refl _, p2⟩ (by omega)
        have hS : Srt (x.1 + x.2.1.length + 1) (h :: P) := ⟨by omega, p2⟩
        have := mvd_srt (P := h :: P) (s := s) h2 hS (fun a b c d => ha a b c (by simp [d]))
        have hk' : growF (h :: P) (oldsF (h :: P)) (x.1 + x.2.1.length + 1) = 0 := grow_olds0 hS (Int.le_refl _)
        rw [hk'] at this
        refine ⟨by show k + s + 0 ≤ x.1 + s + growF (h :: P) (oldsF (h :: P)) x.1; rw [hx0]; omega, ?_⟩
        show Srt (x.1 + s + growF (h :: P) (oldsF (h :: P)) x.1 + x.2.1.length + 1) (mvd (h :: P) s A)
        rw [hx0]
        exact Srt.mono this (by omega)
  termination_by A => A.length
theorem mrg_nil (n : Nat) (A : List Hunk) : mrg (n + 1) [] A = A := by cases A <;> rfl
theorem mrg_nil' (n : Nat) (P : List Hunk) : mrg (n + 1) P [] = P := by cases P <;> rfl
theorem apL_mrg : ∀ (n : Nat) {P A : List Hunk} {k s : Int} {t : List ByteArray}, P.length + A.length < n → Srt k P → Srt k A → apartL P A →
    (apL P k t).bind (apL (mvd P s A) (k + s)) = apL (mrg n P A) k t
  | 0, _, _, _, _, _, hn, _, _, _ => by omega
  | n + 1, [], A, k, s, t, hn, hP, hA, ha => by
    rw [mrg_nil]
    have : mvd [] s A = A.map fun h => (h.1 + s, h.2.1, h.2.2.1, ()) := by unfold mvd; simp [growF, oldsF]
    rw [this]
    show apL _ (k + s) t = _
    rw [apL_shift]
  | n + 1, h :: P, [], k, s, t, hn, hP, hA, ha => by
    rw [mrg_nil']
    cases hr : apL (h :: P) k t with
    | none => rfl
    | some u => rfl
  | n + 1, h :: P, x :: A, k, s, t, hn, ⟨p1, p2⟩, ⟨a1, a2⟩, ha => by
    have e : dl h = (h.2.2.1.length : Int) - h.2.1.length := rfl
    have e' : ∀ y, growF (h :: P) (oldsF (h :: P)) y = (if h.1 + h.2.1.length < y then dl h else 0) + growF P (oldsF P) y := fun _ => rfl
    have hx := ha h (by simp) x (by simp)
    simp only [mrg]
    rcases hx with hx | hx
    · -- h comes first
      rw [if_pos (by omega)]
      have hall : ∀ y ∈ x :: A, h.1 + h.2.1.length < y.1 := by
        intro y hy
        rcases List.mem_cons.1 hy with rfl | hy
        · exact hx
        · exact olds_lo (z := h.1 + h.2.1.length) a2 (by omega) (y.1, y.1 + y.2.1.length, ()) (by simp only [oldsF, List.mem_map]; exact ⟨y, hy, rfl⟩)
      have hm : mvd (h :: P) s (x :: A) = mvd P (s + dl h) (x :: A) := by
        unfold mvd
        refine List.map_congr_left fun y hy => ?_
        rw [e', if_pos (hall y hy)]
        congr 1
        omega
      rw [hm]
      simp only [apL]
      by_cases hc : (h.1 - k).toNat + h.2.1.length ≤ t.length ∧ (t.drop (h.1 - k).toNat).take h.2.1.length = h.2.1
      · rw [if_pos hc, if_pos hc]
        have hA' : Srt (h.1 + h.2.1.length + 1) (x :: A) := ⟨by omega, a2⟩
        have ha' : apartL P (x :: A) := fun a b c d => ha a (by simp [b]) c d
        have IH := apL_mrg n (P := P) (A := x :: A) (k := h.1 + h.2.1.length) (s := s + dl h) (t := t.drop ((h.1 - k).toNat + h.2.1.length)) (by simp at hn ⊢; omega) (p2.mono (by omega)) (hA'.mono (by omega)) ha'
        rw [← IH]
        generalize hpre : t.take (h.1 - k).toNat ++ h.2.2.1 = pre
        have hpl : (pre.length : Int) = h.1 - k + h.2.2.1.length := by subst hpre; simp; omega
        have hk' : growF P (oldsF P) (h.1 + h.2.1.length + 1) = 0 := grow_olds0 p2 (Int.le_refl _)
        have hsr := mvd_srt (s := s + dl h) hA' p2 ha'
        rw [hk'] at hsr
        have hskip : ∀ u, apL (mvd P (s + dl h) (x :: A)) (k + s) (pre ++ u) = (apL (mvd P (s + dl h) (x :: A)) (h.1 + h.2.1.length + (s + dl h)) u).map (pre ++ ·) := by
          intro u
          have := apL_skip (l := mvd P (s + dl h) (x :: A)) (k := k + s) (pre := pre) (u := u) (hsr.mono (by omega))
          rw [this]
          congr 2
          omega
        cases apL P (h.1 + h.2.1.length) (t.drop ((h.1 - k).toNat + h.2.1.length)) with
        | none => rfl
        | some u => exact hskip u
      · rw [if_neg hc, if_neg hc]; rfl
    · -- x comes first
      rw [if_neg (by omega)]
      have hx0 : growF (h :: P) (oldsF (h :: P)) x.1 = 0 := grow_olds0 (k := h.1) ⟨Int.le_refl _, p2⟩ (by omega)
      have hm : mvd (h :: P) s (x :: A) = (x.1 + s, x.2.1, x.2.2.1, ()) :: mvd (h :: P) s A := by
        unfold mvd
        rw [List.map_cons, hx0, Int.add_zero]
      rw [hm]
      have hS : Srt (x.1 + x.2.1.length + 1) (h :: P) := ⟨by omega, p2⟩
      have IH := apL_mrg n (P := h :: P) (A := A) (k := x.1 + x.2.1.length) (s := s) (t := t.drop ((x.1 - k).toNat + x.2.1.length)) (by simp at hn ⊢; omega) (hS.mono (by omega)) (a2.mono (by omega)) (fun a b c d => ha a b c (by simp [d]))
      have hr : apL (x :: mrg n (h :: P) A) k t = if (x.1 - k).toNat + x.2.1.length ≤ t.length ∧ (t.drop (x.1 - k).toNat).take x.2.1.length = x.2.1 then (apL (mrg n (h :: P) A) (x.1 + x.2.1.length) (t.drop ((x.1 - k).toNat + x.2.1.length))).map (t.take (x.1 - k).toNat ++ x.2.2.1 ++ ·) else none := rfl
      rw [hr, ← IH]
      by_cases hlen : (x.1 - k).toNat + x.2.1.length ≤ t.length
      · generalize hg : (x.1 - k).toNat = g at hlen
        have hsp : t = t.take (g + x.2.1.length) ++ t.drop (g + x.2.1.length) := (List.take_append_drop _ _).symm
        have hpl : ((t.take (g + x.2.1.length)).length : Int) = g + x.2.1.length := by simp; omega
        have hL : apL (h :: P) k t = (apL (h :: P) (x.1 + x.2.1.length) (t.drop (g + x.2.1.length))).map (t.take (g + x.2.1.length) ++ ·) := by
          have := apL_skip (l := h :: P) (k := k) (pre := t.take (g + x.2.1.length)) (u := t.drop (g + x.2.1.length)) (hS.mono (by omega))
          rw [← hsp] at this
          rw [this]
          congr 2
          omega
        rw [hL]
        cases hu : apL (h :: P) (x.1 + x.2.1.length) (t.drop (g + x.2.1.length)) with
        | none =>
          simp only [Option.map_none, Option.bind_none]
          split <;> rfl
        | some u =>
          simp only [Option.map_some, Option.bind_some, apL]
          have e1 : (x.1 + s - (k + s)).toNat = g := by omega
          rw [e1]
          have f1 : ((t.take (g + x.2.1.length) ++ u).drop g).take x.2.1.length = (t.drop g).take x.2.1.length := by
            rw [List.drop_append_of_le_length (by simp; omega), List.take_append_of_le_length (by simp; omega), List.drop_take, List.take_take]
            congr 1; omega
          have f2 : (t.take (g + x.2.1.length) ++ u).drop (g + x.2.1.length) = u := by
            have hl : (t.take (g + x.2.1.length)).length = g + x.2.1.length := by simp; omega
            rw [List.drop_append, hl, List.drop_eq_nil_of_le (by omega)]; simp
          have f3 : (t.take (g + x.2.1.length) ++ u).take g = t.take g := by
            rw [List.take_append_of_le_length (by simp; omega), List.take_take]
            congr 1; omega
          rw [f1, f2, f3]
          have e2 : x.1 + s + (x.2.1.length : Int) = x.1 + x.2.1.length + s := by omega
          rw [e2]
          by_cases hc : (t.drop g).take x.2.1.length = x.2.1
          · rw [if_pos ⟨by simp; omega, hc⟩, if_pos ⟨hlen, hc⟩]
          · rw [if_neg (fun h => hc h.2), if_neg (fun h => hc h.2)]
      · rw [if_neg (fun h => hlen h.1)]
        have : apL (h :: P) k t = none := apL_short (hS.mono (by omega))
        rw [this]; rfl
end Go.Proofs.Ytfepfapfogpfkaa.F
end
section
/- Moving a patch does not change what a stack does. -/
namespace Go.Proofs.Ytfepfapfogpfkaa.F
open Go Go.Proofs.Ytfepfapfogpfkaa.V

theorem com_facts {p q a b : Patch} (h : comF p q = (a, b, true, (0, 0, ()), ())) : pF p = (0, 0, ()) ∧ pF a = (0, 0, ()) ∧ q.1 = shiftL a.1 p.1 (oldsF p.1) 1 ∧ b.1 = shiftL p.1 a.1 (oldsF a.1) 1 ∧ apartL p.1 a.1 := by
  obtain ⟨P, ⟨⟩⟩ := p
  obtain ⟨Q, ⟨⟩⟩ := q
  unfold comF at h
  split at h
  · rename_i hch
    obtain ⟨hp, hq⟩ := chF_zero hch
    have sp := pF_srt hp
    simp only at sp h
    split at h
    · rename_i hin
      rw [inF_iff] at hin
      split at h
      · rename_i ha
        split at h
        · rename_i hb
          injection h with e1 h
          injection h with e2 h
          subst e1 e2
          have kq : ∀ x ∈ Q, growF P (oldsF P) (x.1 + -1 * growF P (newsF P 0) x.1) = growF P (newsF P 0) x.1 ∧ ∀ s ∈ oldsF P, s.2.1 < x.1 + -1 * growF P (newsF P 0) x.1 ∨ x.1 + -1 * growF P (newsF P 0) x.1 + x.2.1.length < s.1 := by
            intro x hx
            have := to_old (s := 0) (x := x.1) (m := x.2.1.length) (by omega) sp fun s hs => hin s hs (x.1, x.1 + x.2.1.length, ()) (by simp only [oldsF, List.mem_map]; exact ⟨x, hx, rfl⟩)
            rw [show x.1 + -1 * growF P (newsF P 0) x.1 = x.1 - 0 - growF P (newsF P 0) x.1 from by omega]
            exact this
          refine ⟨hp, ha, ?_, rfl, ?_⟩
          · simp only
            unfold shiftL
            rw [List.map_map]
            conv => lhs; rw [← List.map_id Q]
            refine List.map_congr_left fun x hx => ?_
            simp only [Function.comp, (kq x hx).1]
            obtain ⟨x1, x2, x3, ⟨⟩⟩ := x
            simp only [id]
            congr 1
            omega
          · intro y hy x hx
            simp only [shiftL, List.mem_map] at hx
            obtain ⟨z, hz, rfl⟩ := hx
            have := (kq z hz).2 (y.1, y.1 + y.2.1.length, ()) (by simp only [oldsF, List.mem_map]; exact ⟨y, hy, rfl⟩)
            simp only at this ⊢
            omega
        · injection h with _ h; injection h with _ h; injection h with h; cases h
      · injection h with _ h; injection h with _ h; injection h with h; cases h
    · injection h with _ h; injection h with _ h; injection h with h; cases h
  · injection h with _ h; injection h with _ h; injection h with h; cases h
theorem mrg_comm : ∀ (n : Nat) {P A : List Hunk}, apartL P A → mrg n P A = mrg n A P
  | 0, _, _, _ => rfl
  | n + 1, [], A, _ => by rw [mrg_nil, mrg_nil']
  | n + 1, h :: P, [], _ => by rw [mrg_nil, mrg_nil']
  | n + 1, h :: P, x :: A, ha => by
    have hx := ha h (by simp) x (by simp)
    simp only [mrg]
    rcases hx with hx | hx
    · rw [if_pos (by omega), if_neg (by omega), mrg_comm n (P := P) (A := x :: A) fun a b c d => ha a (by simp [b]) c d]
    · rw [if_neg (by omega), if_pos (by omega), mrg_comm n (P := h :: P) (A := A) fun a b c d => ha a b c (by simp [d])]
theorem mvd_shift (P A : List Hunk) : mvd P 0 A = shiftL A P (oldsF P) 1 := by
  unfold mvd shiftL
  refine List.map_congr_left fun x _ => ?_
  congr 1
  omega
theorem com_effect {p q a b : Patch} (h : comF p q = (a, b, true, (0, 0, ()), ())) (t : List ByteArray) : (apL p.1 0 t).bind (apL q.1 0) = (apL a.1 0 t).bind (apL b.1 0) := by
  obtain ⟨hp, ha, hq, hb, hap⟩ := com_facts h
  have sp := pF_srt hp
  have sa := pF_srt ha
  have h1 := apL_mrg (p.1.length + a.1.length + 1) (s := 0) (t := t) (by omega) sp sa hap
  have h2 := apL_mrg (p.1.length + a.1.length + 1) (s := 0) (t := t) (by omega) sa sp fun x hx y hy => (hap y hy x hx).symm
  rw [mvd_shift, ← hq] at h1
  rw [mvd_shift, ← hb] at h2
  rw [mrg_comm _ hap, ← h2] at h1
  exact h1
theorem apAll_append : ∀ (l m : List Patch) (t : List ByteArray), apAll (l ++ m) t = (apAll l t).bind (apAll m)
  | [], _, _ => rfl
  | p :: l, m, t => by
    simp only [List.cons_append, apAll]
    cases apL p.1 0 t with
    | none => rfl
    | some u => exact apAll_append l m u
theorem swF_effect {l : List Patch} {i : Nat} (hi : i + 1 < l.length) (hp : allP l) (h : (swF l i).1 = true) (t : List ByteArray) : apAll (swF l i).2.2.1 t = apAll l t := by
  obtain ⟨a, b, h1, h2, h3⟩ := swF_true hi hp h
  rw [h2, set2 l i a b hi]
  have hl : l = l.take i ++ [l.getD i E0, l.getD (i + 1) E0] ++ l.drop (i + 2) := by
    have e1 : l.getD i E0 = l[i] := by rw [List.getD_eq_getElem?_getD, List.getElem?_eq_getElem (by omega)]; rfl
    have e2 : l.getD (i + 1) E0 = l[i + 1] := by rw [List.getD_eq_getElem?_getD, List.getElem?_eq_getElem (by omega)]; rfl
    rw [e1, e2]
    have := set2 l i l[i] l[i + 1] hi
    rw [← this, List.set_getElem_self, List.set_getElem_self]
  conv => rhs; rw [hl]
  rw [apAll_append, apAll_append, apAll_append, apAll_append]
  congr 1
  congr 1
  funext u
  have := com_effect h1 u
  simp only [apAll]
  have e : ∀ (x y : List Hunk), ((apL x 0 u).bind fun v => (apL y 0 v).bind some) = (apL x 0 u).bind (apL y 0) := fun x y => by
    congr 1; funext v; cases apL y 0 v <;> rfl
  exact (e _ _).trans (this.symm.trans (e _ _).symm)
theorem up_effect (t : List ByteArray) : ∀ (n k : Nat) (l x : List Patch), k + n < l.length → allP l → upF n k l = some x → apAll x t = apAll l t
  | 0, _, _, _, _, _, h => by injection h with h; subst h; rfl
  | n + 1, k, l, x, hk, hp, h => by
    rw [upF_succ] at h
    split at h
    · rename_i hs
      obtain ⟨_, _, s3, s4⟩ := swF_back (by omega) hp hs rfl
      rw [up_effect t n (k + 1) _ x (by omega) s3 h, swF_effect (by omega) hp hs]
    · cases h
theorem dn_effect (t : List ByteArray) : ∀ (n k : Nat) (l x : List Patch), n ≤ k → k < l.length → allP l → dnF n k l = some x → apAll x t = apAll l t
  | 0, _, _, _, _, _, _, h => by injection h with h; subst h; rfl
  | n + 1, k, l, x, hn, hk, hp, h => by
    rw [dnF_succ] at h
    split at h
    · rename_i hs
      obtain ⟨_, _, s3, s4⟩ := swF_back (by omega) hp hs rfl
      rw [dn_effect t n (k - 1) _ x (by omega) (by omega) s3 h, swF_effect (by omega) hp hs]
    · cases h
theorem move_effect {l x : List Patch} {k i : Int} {f : Fault} {u : Unit} (h : moveF l k i = (x, true, f, u)) (t : List ByteArray) : apAll x t = apAll l t ∧ allP x ∧ x.length = l.length ∧ sF x = (0, 0, ()) ∧ sF l = (0, 0, ()) ∧ f = (0, 0, ()) ∧ 0 < l.length := by
  obtain ⟨hf, h1, k0, k1, t0, t1, h2⟩ := move_cases h
  obtain ⟨hl, hp⟩ := sF_bd h1
  have hp : allP l := hp
  rcases h2 with ⟨hk, h2⟩ | ⟨hk, h2⟩
  · obtain ⟨_, g2, g3⟩ := up_dn _ _ _ _ (by omega) hp h2
    exact ⟨up_effect t _ _ _ _ (by omega) hp h2, g2, g3, sF_all g2 (by omega), h1, hf, by omega⟩
  · obtain ⟨_, g2, g3⟩ := dn_up _ _ _ _ (by omega) (by omega) hp h2
    exact ⟨dn_effect t _ _ _ _ (by omega) (by omega) hp h2, g2, g3, sF_all g2 (by omega), h1, hf, by omega⟩

theorem Apply_some (base : List ByteArray) (l : List Patch) : ∃ r, stack_Apply_16 (base, l, ()) = some r := by
  by_cases hs : sF l = (0, 0, ())
  · by_cases hb : code base = 0
    · obtain ⟨r, h, _⟩ := Apply_eq base l hs hb; exact ⟨r, h⟩
    · exact ⟨_, Apply_bad base l hs hb⟩
  · have e := f0 (sF l)
    rw [decide_eq_false hs] at e
    unfold stack_Apply_16
    simp only [stack_Validate_eq, Option.bind_some]
    generalize sF l = f at e
    obtain ⟨c, j, ⟨⟩⟩ := f
    simp only at e
    simp only [e, Bool.not_false, if_true]
    exact ⟨_, rfl⟩
theorem MoveSameEffect_eq (base : List ByteArray) (l : List Patch) (k t : Int) : changeforgelaw2_StackMoveSameEffect_4 (base, l, k, t, ()) = some (true, ()) := by
  · obtain ⟨r, hr⟩ := Apply_some base l
    unfold changeforgelaw2_StackMoveSameEffect_4
    simp only [Move_eq, dropped_eq, Option.bind_some, hr]
    generalize hm : moveF l k t = m
    obtain ⟨x, ok, ⟨c, j, ⟨⟩⟩, ⟨⟩⟩ := m
    obtain ⟨s, ⟨g, j', ⟨⟩⟩, ⟨⟩⟩ := r
    by_cases hc : c = 0
    · by_cases hg : g = 0
      · cases ok with
        | false => simp [hc, hg]
        | true =>
          obtain ⟨e1, e2, e3, e4, e5, e6, _⟩ := move_effect hm base
          by_cases hb : code base = 0
          · obtain ⟨r1, h1, q1⟩ := Apply_eq base l e5 hb
            obtain ⟨r2, h2, q2⟩ := Apply_eq base x e4 hb
            rw [hr] at h1
            injection h1 with h1
            subst h1
            subst hc hg
            have q1 : ∃ u, apAll l base = some u ∧ s = u ∧ code u = 0 := by
              rcases q1 with ⟨u, a1, a2, a3⟩ | ⟨_, a⟩ | a
              · injection a2 with a2 _; exact ⟨u, a1, a2, a3⟩
              · simp at a
              · simp at a
            obtain ⟨u, a1, rfl, a3⟩ := q1
            rw [e1, a1] at q2
            obtain ⟨t2, ⟨h, j2, ⟨⟩⟩, ⟨⟩⟩ := r2
            have hS : changeforgeequal_Strings_17 (s, s, ()) = some (true, ()) := Strings_refl _ (by have := (code_iff.1 a3).1; omega)
            rcases q2 with ⟨u', b1, b2, b3⟩ | ⟨b, _⟩ | b
            · injection b1 with b1
              subst b1
              injection b2 with b2 b4
              injection b4 with b4 _
              injection b4 with b4 _
              subst b2 b4
              simp [h2, hS]
            · cases b
            · simp only at b
              subst b
              simp [h2]
          · rw [Apply_bad base l e5 hb] at hr
            injection hr with hr
            injection hr with _ hr
            injection hr with hr _
            injection hr with hr _
            exact absurd (hr.trans hg) hb
      · have : (g != 0) = true := by simpa using hg
        simp [hc, this]
    · have : (c != 0) = true := by simpa using hc
      simp [this]
theorem Drop_eq {l : List Patch} {k : Int} {x : List Patch} {f : Fault} {u : Unit} (h : moveF l k (IntKind.wrap .i64 ((l.length : Int) - 1)) = (x, true, f, u)) : stack_Drop_12 (l, k, ()) = some (x.take (x.length - 1), true, (0, 0, ()), ()) := by
  obtain ⟨_, _, g3, g4, g5, g6, g7⟩ := move_effect h []
  obtain ⟨_, h1, k0, k1, _⟩ := move_cases h
  obtain ⟨hl, _⟩ := sF_bd h1
  unfold stack_Drop_12
  have hp : posF l.length k (-2) = (0, 0, ()) := by unfold posF; rw [if_neg (by omega)]
  have hw : IntKind.wrap .i64 ((x.length : Int) - 1) = ((x.length - 1 : Nat) : Int) := by rw [wrap_i64 (by omega) (by omega)]; omega
  obtain ⟨c, j, ⟨⟩⟩ := f
  simp only [stack_Validate_eq, h1, position_eq, hp, Move_eq, h, hw, Option.bind_some, BEq.rfl, Bool.and_self, Bool.not_true, Bool.false_eq_true, if_false, Int.toNat_natCast, Int.toNat_zero, List.drop_zero]
  rw [if_pos (by omega)]
theorem Drop_no {l : List Patch} {k : Int} (h : (moveF l k (IntKind.wrap .i64 ((l.length : Int) - 1))).2.1 = false) : ∃ y f, stack_Drop_12 (l, k, ()) = some (y, false, f, ()) := by
  unfold stack_Drop_12
  have es := f0 (sF l)
  have ek := f0 (posF l.length k (-2))
  generalize hm : moveF l k (IntKind.wrap .i64 ((l.length : Int) - 1)) = m at h
  obtain ⟨x, ok, ⟨c, j, ⟨⟩⟩, ⟨⟩⟩ := m
  simp only at h
  subst h
  simp only [stack_Validate_eq, position_eq, Option.bind_some, Move_eq, hm, Bool.not_false, if_true]
  generalize sF l = f1 at es
  generalize posF l.length k (-2) = f2 at ek
  obtain ⟨c1, j1, ⟨⟩⟩ := f1
  obtain ⟨c2, j2, ⟨⟩⟩ := f2
  simp only at es ek
  simp only [es, ek]
  by_cases a : ((c1, j1, ()) : Fault) = (0, 0, ())
  · by_cases b : ((c2, j2, ()) : Fault) = (0, 0, ())
    · simp [a, b]
    · simp [a, b]
  · simp [a]
theorem DropUndone_eq (base : List ByteArray) (l : List Patch) (k : Int) (hl0 : l.length ≤ 4611686018427387904) : changeforgelaw2_StackDropUndone_7 (base, l, k, ()) = some (true, ()) := by
  obtain ⟨r, hr⟩ := Apply_some base l
  unfold changeforgelaw2_StackDropUndone_7
  generalize hm : moveF l k (IntKind.wrap .i64 ((l.length : Int) - 1)) = m
  obtain ⟨y, ok, ⟨c, j, ⟨⟩⟩, ⟨⟩⟩ := m
  obtain ⟨s, ⟨g, j', ⟨⟩⟩, ⟨⟩⟩ := r
  cases ok with
  | false =>
    obtain ⟨z, ⟨c', j2, ⟨⟩⟩, hD⟩ := Drop_no (l := l) (k := k) (by rw [hm])
    simp only [hD, Move_eq, hm, hr, dropped_eq, Option.bind_some]
    by_cases a : (c' != 0) = true
    · simp [a]
    · by_cases b : (c != 0) = true
      · simp [b]
      · by_cases d : (g != 0) = true
        · simp [d]
        · simp [a, b, d]
  | true =>
    have hD := Drop_eq hm
    obtain ⟨e1, e2, e3, e4, e5, e6, e7⟩ := move_effect hm base
    injection e6 with e6 _
    subst e6
    obtain ⟨hl, _⟩ := sF_bd e5
    simp only [hD, Move_eq, hm, hr, dropped_eq, Option.bind_some, bne_self_eq_false, Bool.false_eq_true, if_false, Bool.not_true]
    by_cases hg : g = 0
    · subst hg
      by_cases hb : code base = 0
      · obtain ⟨r1, h1, q1⟩ := Apply_eq base l e5 hb
        rw [hr] at h1
        injection h1 with h1
        subst h1
        have q1 : ∃ u, apAll l base = some u ∧ s = u ∧ code u = 0 := by
          rcases q1 with ⟨u, a1, a2, a3⟩ | ⟨_, a⟩ | a
          · injection a2 with a2 _; exact ⟨u, a1, a2, a3⟩
          · simp at a
          · simp at a
        obtain ⟨u, a1, rfl, a3⟩ := q1
        obtain ⟨w, z, hy⟩ : ∃ w z, y = w ++ [z] := ⟨y.dropLast, y.getLast (fun e => by rw [e] at e3; simp at e3; omega), (List.dropLast_concat_getLast _).symm⟩
        have hw : y.take (y.length - 1) = w := by rw [hy]; simp
        have hpw : allP w := fun p hp => e2 p (by rw [hy]; simp [hp])
        have hpz : pF z = (0, 0, ()) := e2 z (by rw [hy]; simp)
        have hwl : w.length + 1 = y.length := by rw [hy]; simp
        rw [hw]
        obtain ⟨r2, h2, q2⟩ := Apply_eq base w (sF_all hpw (by omega)) hb
        have ha : apAll y base = (apAll w base).bind (apL z.1 0) := by
          rw [hy, apAll_append]
          congr 1
          funext v
          simp only [apAll]
          cases apL z.1 0 v <;> rfl
        rw [e1, a1] at ha
        obtain ⟨t2, ⟨h, j2, ⟨⟩⟩, ⟨⟩⟩ := r2
        have hS : changeforgeequal_Strings_17 (s, s, ()) = some (true, ()) := Strings_refl _ (by have := (code_iff.1 a3).1; omega)
        have hy0 : ((y.length : Int) == 0) = false := by simp; intro e; rw [e] at hwl; simp at hwl
        have hwr : IntKind.wrap .i64 ((y.length : Int) - 1) = ((y.length - 1 : Nat) : Int) := by rw [wrap_i64 (by omega) (by omega)]; omega
        have hgz : y[y.length - 1]? = some z := by rw [hy]; simp
        simp only [hy0, h2, hwr, atC_val hgz, Option.bind_some, bne_self_eq_false, Bool.false_eq_true, if_false]
        rcases q2 with ⟨v, b1, b2, b3⟩ | ⟨b, _⟩ | b
        · rw [b1] at ha
          injection b2 with b2 b4
          injection b4 with b4 _
          injection b4 with b4 _
          subst b2 b4
          obtain ⟨r3, h3, q3⟩ := ApplyP_eq z t2 hpz b3
          have ha : apL z.1 0 t2 = some s := ha.symm
          rw [ha] at q3
          simp only [apQ] at q3
          rw [if_neg (by have := (code_iff.1 a3).1; omega)] at q3
          subst q3
          obtain ⟨z, ⟨⟩⟩ := z
          simp [h3, hS]
        · rw [b] at ha; cases ha
        · simp only at b
          subst b
          simp
      · rw [Apply_bad base l e5 hb] at hr
        injection hr with hr
        injection hr with _ hr
        injection hr with hr _
        injection hr with hr _
        exact absurd hr hb
    · have : (g != 0) = true := by simpa using hg
      simp [this]
end Go.Proofs.Ytfepfapfogpfkaa.F
end
section
/- What the reference computes: lines and patches. -/
namespace Go.Proofs.Ytfepfapfogpfkaa.F
open Go Go.Proofs.Ytfepfapfogpfkaa.V

theorem indexByte_mem (l : List UInt8) (c : UInt8) : 0 ≤ Go.Lib.indexByte l c ↔ c ∈ l := by
  induction l with
  | nil => simp [Go.Lib.indexByte]
  | cons b l ih =>
    have hg := Go.Lib.indexByte_ge l c
    unfold Go.Lib.indexByte
    by_cases h : b = c
    · subst h; simp
    · have h2 : (b == c) = false := by simpa using h
      rw [h2, if_neg (by simp)]
      by_cases h3 : Go.Lib.indexByte l c = -1
      · rw [h3]
        have : c ∉ l := fun hm => by have := ih.2 hm; omega
        simp [this, Ne.symm h]
      · have h4 : (Go.Lib.indexByte l c == -1) = false := by simpa using h3
        rw [h4, if_neg (by simp)]
        have : c ∈ l := ih.1 (by omega)
        simp [this]; omega
theorem nl_iff (s : ByteArray) : nl s = true ↔ (10 : UInt8) ∈ s.data.toList := by
  unfold nl; rw [decide_eq_true_iff, indexByte_mem]
theorem At_eq (a b : Int) : changeforgeref1_At_29 (a, b, ()) = some ((a, b, ()), ()) := rfl
theorem byte10 {s : ByteArray} {j : Nat} (hj : j < s.size) : ((((ByteArray.data s).getD j 0).toNat : Int) == 10) = true ↔ s.data.toList[j]? = some 10 := by
  have hj' : j < s.data.size := hj
  have e : (ByteArray.data s).getD j 0 = s.data[j] := by unfold Array.getD; rw [dif_pos hj']; rfl
  rw [e, List.getElem?_eq_getElem (by simpa using hj'), Array.getElem_toList, beq_iff_eq, Option.some.injEq]
  constructor
  · intro h
    have : s.data[j].toNat = 10 := by omega
    exact UInt8.toNat_inj.1 this
  · intro h; rw [h]; rfl
theorem LinesFault_eq (l : List ByteArray) : changeforgeref1_LinesFault_56 (l, ()) = some (vF l, ()) := by
  unfold changeforgeref1_LinesFault_56 vF
  by_cases hl : l.length > 120
  · have : ((l.length : Int) > 120) := by omega
    simp [hl, this, At_eq]
  · have h1 : ¬ ((l.length : Int) > 120) := by omega
    simp only [h1, hl, decide_false, Bool.false_eq_true, if_false, At_eq, Option.bind_some]
    refine (loop_val (fun s => ∃ i : Nat, s.1 = (i : Int) ∧ i ≤ l.length) (fun s => l.length - s.1.toNat) (fun s => (vfrom (l.drop s.1.toNat) s.1, ())) ?_ (s := (0, ())) ⟨0, rfl, by omega⟩)
    rintro ⟨_, ⟨⟩⟩ ⟨i, rfl, hi⟩
    by_cases hlt : i < l.length
    · have h2 : ((i : Int) < (l.length : Int)) := by omega
      have hd : l.drop i = l[i] :: l.drop (i + 1) := List.drop_eq_getElem_cons hlt
      have hg : l[i]? = some l[i] := List.getElem?_eq_getElem hlt
      generalize l[i] = x at hd hg
      simp only [h2, decide_true, if_true, atC_val hg, Int.toNat_natCast, hd, vfrom]
      by_cases h3 : x.size > 80
      · have h3' : (80 : Int) < (x.size : Int) := by omega
        right; simp [h3, h3']
      · have h3' : ¬ (80 : Int) < (x.size : Int) := by omega
        simp only [gt_iff_lt, h3', show ¬ 80 < x.size from h3, decide_false, Bool.false_eq_true, if_false]
        by_cases h4 : nl x = true
        · right
          rw [if_pos h4]
          have h4' := (nl_iff x).1 h4
          refine (loop_val (fun s => s.1 = (i : Int) ∧ ∃ j : Nat, s.2.1 = (j : Int) ∧ j ≤ x.size ∧ (10 : UInt8) ∈ x.data.toList.drop j) (fun s => x.size - s.2.1.toNat) (fun _ => Sum.inr ((5, (i : Int), ()), ())) ?_ (s := ((i : Int), 0, ())) ⟨rfl, 0, rfl, by omega, h4'⟩)
          rintro ⟨a1, a2, ⟨⟩⟩ ⟨g1, j, g2, hj, hm⟩
          simp only at g1 g2
          subst g1 g2
          have hjl : j < x.size := by
            rcases Nat.lt_or_ge j x.size with h | h
            · exact h
            · rw [List.drop_eq_nil_of_le (by simpa using h)] at hm; cases hm
          have q2 : ((j : Int) < (x.size : Int)) := by omega
          have q3 : 0 ≤ (j : Int) ∧ (j : Int) < (x.size : Int) := by omega
          simp only [atC_val hg, q2, decide_true, if_true, q3, and_self, Int.toNat_natCast]
          by_cases hb : ((((ByteArray.data x).getD j 0).toNat : Int) == 10) = true
          · right; simp only [hb, if_true]
          · left
            have hne := fun e => hb ((byte10 hjl).2 e)
            refine ⟨((i : Int), ((j + 1 : Nat) : Int), ()), ?_, ⟨rfl, j + 1, rfl, hjl, ?_⟩, trivial, by simp; omega⟩
            · simp only [hb, if_false, wrap_i64 (n := (j : Int) + 1) (by omega) (by omega)]; rfl
            · have hdj : x.data.toList.drop j = x.data.toList[j]'(by simpa using hjl) :: x.data.toList.drop (j + 1) := List.drop_eq_getElem_cons (by simpa using hjl)
              rw [hdj] at hm
              rcases List.mem_cons.1 hm with e | hm
              · exact absurd (by rw [List.getElem?_eq_getElem (by simpa using hjl), ← e]) hne
              · exact hm
        · left
          rw [if_neg h4]
          have h4' : ¬ (10 : UInt8) ∈ x.data.toList := fun h => h4 ((nl_iff x).2 h)
          refine ⟨((i + 1 : Nat), ()), ?_, ⟨i + 1, rfl, hlt⟩, rfl, by simp; omega⟩
          refine (loop_val (fun s => s.1 = (i : Int) ∧ ∃ j : Nat, s.2.1 = (j : Int) ∧ j ≤ x.size) (fun s => x.size - s.2.1.toNat) (fun _ => Sum.inl (((i + 1 : Nat) : Int), ())) ?_ (s := ((i : Int), 0, ())) ⟨rfl, 0, rfl, by omega⟩)
          rintro ⟨a1, a2, ⟨⟩⟩ ⟨g1, j, g2, hj⟩
          simp only at g1 g2
          subst g1 g2
          by_cases hjl : j < x.size
          · have q2 : ((j : Int) < (x.size : Int)) := by omega
            have q3 : 0 ≤ (j : Int) ∧ (j : Int) < (x.size : Int) := by omega
            have hb : ((((ByteArray.data x).getD j 0).toNat : Int) == 10) = false := by
              rw [Bool.eq_false_iff]; intro e; exact h4' (List.mem_of_getElem? ((byte10 hjl).1 e))
            left
            refine ⟨((i : Int), ((j + 1 : Nat) : Int), ()), ?_, ⟨rfl, j + 1, rfl, hjl⟩, rfl, by simp; omega⟩
            simp only [atC_val hg, q2, decide_true, if_true, q3, and_self, Int.toNat_natCast, hb, Bool.false_eq_true, if_false, wrap_i64 (n := (j : Int) + 1) (by omega) (by omega)]
            rfl
          · right
            have q2 : ¬ ((j : Int) < (x.size : Int)) := by omega
            simp only [atC_val hg, q2, decide_false, Bool.false_eq_true, if_false, wrap_i64 (n := (i : Int) + 1) (by omega) (by omega)]
            rfl
    · have h2 : ¬ ((i : Int) < (l.length : Int)) := by omega
      right
      simp only [h2, decide_false, Bool.false_eq_true, if_false, Int.toNat_natCast, List.drop_eq_nil_of_le (show l.length ≤ i from by omega), vfrom]
      rfl
theorem LinesCode_eq (l : List ByteArray) : changeforgeref1_LinesCode_44 (l, ()) = some (code l, ()) := by
  unfold changeforgeref1_LinesCode_44
  simp [LinesFault_eq, code]
theorem EndR_eq (h : Hunk) (h0 : -4000000000000000000 ≤ h.1) (h1 : h.1 ≤ 4000000000000000000) (h2 : h.2.1.length ≤ 4000000000000000000) : changeforgeref1_End_58 (h, ()) = some (h.1 + h.2.1.length, ()) := by
  unfold changeforgeref1_End_58
  simp only []
  rw [wrap_i64 (by omega) (by omega)]
theorem GrowthR_eq (h : Hunk) (hb : h.2.1.length ≤ 120) (hb' : h.2.2.1.length ≤ 120) : changeforgeref1_Growth_66 (h, ()) = some (dl h, ()) := by
  unfold changeforgeref1_Growth_66 dl
  simp only []
  rw [wrap_i64 (by omega) (by omega)]
def lowF (l : List Hunk) : Nat → Int
  | 0 => 0
  | i + 1 => (l.getD i (0, [], [], ())).1 + (l.getD i (0, [], [], ())).2.1.length + 1
theorem PatchFault_eq (p : Patch) : changeforgeref1_PatchFault_50 (p, ()) = some (pF p, ()) := by
  obtain ⟨l, ⟨⟩⟩ := p
  unfold changeforgeref1_PatchFault_50 pF
  by_cases hl : l.length > 130
  · have : (130 : Int) < (l.length : Int) := by omega
    simp [hl, this, At_eq]
  · have h1 : ¬ (130 : Int) < (l.length : Int) := by omega
    simp only [gt_iff_lt, h1, show ¬ 130 < l.length from by omega, decide_false, Bool.false_eq_true, if_false, At_eq, Option.bind_some, LinesCode_eq]
    refine (loop_val (fun s => ∃ i : Nat, s.1 = (i : Int) ∧ i ≤ l.length ∧ ∀ j, j < i → bdH (l.getD j (0, [], [], ()))) (fun s => l.length - s.1.toNat) (fun s => (hfrom (l.drop s.1.toNat) (lowF l s.1.toNat) s.1, ())) ?_ (s := (0, ())) ⟨0, rfl, by omega, fun j hj => by omega⟩)
    rintro ⟨_, ⟨⟩⟩ ⟨i, rfl, hi, hb⟩
    by_cases hlt : i < l.length
    · have h2 : ((i : Int) < (l.length : Int)) := by omega
      have hd : l.drop i = l[i] :: l.drop (i + 1) := List.drop_eq_getElem_cons hlt
      have hgd : l.getD i (0, [], [], ()) = l[i] := by rw [List.getD_eq_getElem?_getD, List.getElem?_eq_getElem hlt]; rfl
      have hlow : lowF l (i + 1) = l[i].1 + l[i].2.1.length + 1 := by simp only [lowF, hgd]
      have hg : l[i]? = some l[i] := List.getElem?_eq_getElem hlt
      generalize hx : l[i] = x at hd hg hlow hgd
      obtain ⟨at_, old, new, ⟨⟩⟩ := x
      simp only at hlow
      simp only [h2, decide_true, if_true, atC_val hg, Int.toNat_natCast, hd, hfrom]
      have hcu : hc (at_, old, new, ()) (lowF l i) = if at_ < 0 ∨ at_ > 120 then 3 else if code old ≠ 0 then code old else if code new ≠ 0 then code new else if (old = [] ∧ new = []) ∨ at_ < lowF l i then 5 else if at_ + old.length > 120 then 3 else 0 := rfl
      by_cases c1 : at_ < 0
      · right
        have hcu' : hc (at_, old, new, ()) (lowF l i) = 3 := by rw [hcu, if_pos (.inl c1)]
        rw [hcu']
        simp [c1]
      · by_cases c2 : at_ > 120
        · right
          have hcu' : hc (at_, old, new, ()) (lowF l i) = 3 := by rw [hcu, if_pos (.inr c2)]
          rw [hcu']
          simp [c1, c2]
        · rw [if_neg (by omega)] at hcu
          have c1' : decide (at_ < 0) = false := decide_eq_false c1
          have c2' : decide (120 < at_) = false := decide_eq_false c2
          by_cases c3 : code old = 0
          · by_cases c4 : code new = 0
            · have lo := code_len c3
              have ln := code_len c4
              rw [if_neg (by simpa using c3), if_neg (by simpa using c4)] at hcu
              have hw : IntKind.wrap .i64 ((old.length : Int) + (new.length : Int)) = ((old.length + new.length : Nat) : Int) := by rw [wrap_i64 (by omega) (by omega)]; simp
              have hE : changeforgeref1_End_58 ((at_, old, new, ()), ()) = some (at_ + old.length, ()) := EndR_eq _ (by simp only; omega) (by simp only; omega) (by simp only; omega)
              simp only [gt_iff_lt, c1', c2', c3, c4, hw, Bool.false_eq_true, if_false, bne_self_eq_false, hE, Option.bind_some]
              -- behind the middle tests
              have fin : ¬ ((old = [] ∧ new = []) ∨ at_ < lowF l i) → ((∃ s' : Int × Unit, (if decide (120 < at_ + (old.length : Int)) = true then some (Sum.inr (((3 : Int), (i : Int), ()), ())) else some (Sum.inl (IntKind.wrap .i64 ((i : Int) + 1), ()))) = some (Sum.inl s') ∧ (∃ k : Nat, s'.1 = (k : Int) ∧ k ≤ l.length ∧ ∀ j, j < k → bdH (l.getD j (0, [], [], ()))) ∧ (hfrom (l.drop s'.1.toNat) (lowF l s'.1.toNat) s'.1, ()) = ((if hc (at_, old, new, ()) (lowF l i) ≠ 0 then (hc (at_, old, new, ()) (lowF l i), (i : Int), ()) else hfrom (l.drop (i + 1)) (at_ + old.length + 1) ((i : Int) + 1)), ()) ∧ l.length - s'.1.toNat < l.length - i) ∨ (if decide (120 < at_ + (old.length : Int)) = true then some (Sum.inr (((3 : Int), (i : Int), ()), ())) else some (Sum.inl (IntKind.wrap .i64 ((i : Int) + 1), ()))) = some (Sum.inr ((if hc (at_, old, new, ()) (lowF l i) ≠ 0 then (hc (at_, old, new, ()) (lowF l i), (i : Int), ()) else hfrom (l.drop (i + 1)) (at_ + old.length + 1) ((i : Int) + 1)), ()) : (Int × Unit) ⊕ (Fault × Unit))) := by
                intro hno
                rw [if_neg hno] at hcu
                by_cases c6 : at_ + old.length > 120
                · right
                  rw [if_pos c6] at hcu
                  rw [hcu]
                  simp [c6]
                · left
                  rw [if_neg c6] at hcu
                  refine ⟨(((i + 1 : Nat) : Int), ()), ?_, ⟨i + 1, rfl, hlt, fun j hj => ?_⟩, ?_, by simp only [Int.toNat_natCast]; omega⟩
                  · simp [c6, wrap_i64 (n := (i : Int) + 1) (by omega) (by omega)]
                  · by_cases e : j = i
                    · subst e; rw [hgd]; exact ⟨by simp only; omega, by simp only; omega, by simp only; omega, by simp only; omega⟩
                    · exact hb j (by omega)
                  · rw [hcu]
                    simp only [Int.toNat_natCast, hlow]
                    simp
              by_cases c5 : old = [] ∧ new = []
              · right
                rw [if_pos (.inl c5)] at hcu
                rw [hcu]
                obtain ⟨rfl, rfl⟩ := c5
                simp
              · have c5' : (((old.length + new.length : Nat) : Int) == 0) = false := by
                  rw [Bool.eq_false_iff]; intro e; apply c5
                  have e := eq_of_beq e
                  exact ⟨List.eq_nil_of_length_eq_zero (by omega), List.eq_nil_of_length_eq_zero (by omega)⟩
                simp only [c5', Bool.false_eq_true, if_false]
                cases i with
                | zero =>
                  have hlow0 : ¬ at_ < lowF l 0 := by simp only [lowF]; omega
                  simp only [Int.natCast_zero, Int.lt_irrefl, decide_false, Bool.false_eq_true, if_false]
                  exact fin fun h => h.elim c5 hlow0
                | succ m =>
                  have q5 : (0 : Int) < ((m + 1 : Nat) : Int) := by omega
                  have hw5 : IntKind.wrap .i64 (((m + 1 : Nat) : Int) - 1) = (m : Int) := by rw [wrap_i64 (by omega) (by omega)]; omega
                  have hbm := hb m (by omega)
                  have hgm : l[m]? = some (l.getD m (0, [], [], ())) := by rw [List.getD_eq_getElem?_getD, List.getElem?_eq_getElem (by omega)]; rfl
                  have hlowm : lowF l (m + 1) = (l.getD m (0, [], [], ())).1 + (l.getD m (0, [], [], ())).2.1.length + 1 := rfl
                  generalize l.getD m (0, [], [], ()) = y at hbm hgm hlowm
                  obtain ⟨y1, y2, y3, ⟨⟩⟩ := y
                  obtain ⟨b1, b2, b3, b4⟩ := hbm
                  simp only at b1 b2 b3 b4 hlowm
                  have hE' : changeforgeref1_End_58 ((y1, y2, y3, ()), ()) = some (y1 + y2.length, ()) := EndR_eq _ (by simp only; omega) (by simp only; omega) (by simp only; omega)
                  simp only [q5, decide_true, if_true, hw5, atC_val hgm, hE', Option.bind_some]
                  by_cases c6 : at_ ≤ y1 + y2.length
                  · right
                    rw [if_pos (.inr (by omega))] at hcu
                    rw [hcu]
                    simp [c6]
                  · simp only [c6, decide_false, Bool.false_eq_true, if_false]
                    exact fin fun h => h.elim c5 (by omega)
            · right
              rw [if_neg (by simpa using c3), if_pos c4] at hcu
              rw [hcu, if_pos c4]
              have c4' : (code new != 0) = true := by simpa using c4
              simp only [gt_iff_lt, c1', c2', c3, c4', Bool.false_eq_true, if_false, if_true, bne_self_eq_false]
          · right
            rw [if_pos c3] at hcu
            rw [hcu, if_pos c3]
            have c3' : (code old != 0) = true := by simpa using c3
            simp only [gt_iff_lt, c1', c2', c3', Bool.false_eq_true, if_false, if_true]
    · have h2 : ¬ ((i : Int) < (l.length : Int)) := by omega
      right
      simp only [h2, decide_false, Bool.false_eq_true, if_false, Int.toNat_natCast, List.drop_eq_nil_of_le (show l.length ≤ i from by omega), hfrom]
      rfl
theorem Pair_eq (p q : Patch) : changeforgeref1_Pair_63 (p, q, ()) = some (chF p q, ()) := by
  obtain ⟨l, ⟨⟩⟩ := p
  obtain ⟨m, ⟨⟩⟩ := q
  unfold changeforgeref1_Pair_63 chF
  simp only [PatchFault_eq, Option.bind_some, At_eq]
  by_cases h : pF (l, ()) = (0, 0, ())
  · by_cases h' : pF (m, ()) = (0, 0, ())
    · simp [h, h']
    · have : ¬ (pF (m, ())).1 = 0 := fun e => h' (pF_code e)
      have h2 : ((pF (m, ())).1 != 0) = true := by simpa using this
      simp [h, h', h2]
  · have : ¬ (pF (l, ())).1 = 0 := fun e => h (pF_code e)
    have h2 : ((pF (l, ())).1 == 0) = false := by simpa using this
    simp [h, h2]
end Go.Proofs.Ytfepfapfogpfkaa.F
end
section
/- What the reference computes: exchanging patches. -/
namespace Go.Proofs.Ytfepfapfogpfkaa.F
open Go Go.Proofs.Ytfepfapfogpfkaa.V

def nspan (l : List Hunk) (i : Nat) : Span := ((l.getD i (0, [], [], ())).1 + sh (l.take i), (l.getD i (0, [], [], ())).1 + sh (l.take i) + (l.getD i (0, [], [], ())).2.2.1.length, ())
theorem newsR_eq (l : List Hunk) (hb : bd (l, ())) (i : Nat) (hi : i < l.length) : changeforgeref1_news_65 ((l, ()), (i : Int), ()) = some ((nspan l i).1, (nspan l i).2.1, ()) := by
  obtain ⟨hl, hh⟩ := hb
  simp only at hl hh
  have hgi : l[i]? = some (l.getD i (0, [], [], ())) := by rw [List.getD_eq_getElem?_getD, List.getElem?_eq_getElem hi]; rfl
  have hbi : bdH (l.getD i (0, [], [], ())) := hh _ (List.mem_of_getElem? hgi)
  unfold changeforgeref1_news_65 nspan
  generalize l.getD i (0, [], [], ()) = x at hgi hbi
  obtain ⟨at_, old, new, ⟨⟩⟩ := x
  obtain ⟨b1, b2, b3, b4⟩ := hbi
  simp only at b1 b2 b3 b4
  simp only [atC_val hgi]
  refine (loop_val (fun s => ∃ k : Nat, s.2.1 = (k : Int) ∧ k ≤ i ∧ s.1 = at_ + sh (l.take k)) (fun s => i - s.2.1.toNat) (fun _ => (at_ + sh (l.take i), at_ + sh (l.take i) + new.length, ())) ?_ (s := (at_, 0, ())) ⟨0, rfl, by omega, by simp [sh]⟩)
  rintro ⟨a1, a2, ⟨⟩⟩ ⟨k, g1, hk, g2⟩
  simp only at g1 g2
  subst g1 g2
  have hs := sh_bd (l := l.take k) fun x hx => hh x (List.mem_of_mem_take hx)
  have hlen : (l.take k).length = k := by rw [List.length_take]; omega
  rw [hlen] at hs
  by_cases hlt : k < i
  · left
    have q2 : ((k : Int) < (i : Int)) := by omega
    have hg : l[k]? = some l[k] := List.getElem?_eq_getElem (by omega)
    have hbk := hh _ (List.getElem_mem (show k < l.length by omega))
    have ht : l.take (k + 1) = l.take k ++ [l[k]] := by rw [List.take_add_one, hg]; rfl
    generalize l[k] = y at hg hbk ht
    obtain ⟨y1, y2, y3, ⟨⟩⟩ := y
    obtain ⟨c1, c2, c3, c4⟩ := hbk
    simp only at c1 c2 c3 c4
    have e1 : sh (l.take (k + 1)) = sh (l.take k) + ((y3.length : Int) - y2.length) := by rw [ht, sh_snoc]; rfl
    have hG : changeforgeref1_Growth_66 ((y1, y2, y3, ()), ()) = some ((y3.length : Int) - y2.length, ()) := GrowthR_eq _ c3 c4
    refine ⟨(at_ + sh (l.take (k + 1)), ((k + 1 : Nat) : Int), ()), ?_, ⟨k + 1, rfl, hlt, rfl⟩, rfl, by simp; omega⟩
    simp only [q2, decide_true, if_true, atC_val hg, hG, Option.bind_some, e1, wrap_i64 (n := (k : Int) + 1) (by omega) (by omega), wrap_i64 (n := at_ + sh (l.take k) + ((y3.length : Int) - y2.length)) (by omega) (by omega), ← Int.add_assoc]
    rfl
  · right
    have q2 : ¬ ((k : Int) < (i : Int)) := by omega
    rw [show k = i from by omega] at hs ⊢
    simp only [show ¬ ((i : Int) < (i : Int)) from by omega, decide_false, Bool.false_eq_true, if_false, atC_val hgi, wrap_i64 (n := at_ + sh (l.take i) + (new.length : Int)) (by omega) (by omega)]
    rfl
theorem newsF_get : ∀ (l : List Hunk) (s : Int) (i : Nat), i < l.length → (newsF l s)[i]? = some ((l.getD i (0, [], [], ())).1 + s + sh (l.take i), (l.getD i (0, [], [], ())).1 + s + sh (l.take i) + (l.getD i (0, [], [], ())).2.2.1.length, ())
  | [], _, _, h => by simp at h
  | h :: l, s, 0, _ => by simp [newsF, sh]
  | h :: l, s, i + 1, hi => by
    have := newsF_get l (s + dl h) i (by simpa using hi)
    simp only [newsF, List.getElem?_cons_succ, this, List.getD_cons_succ, List.take_succ_cons, sh, List.map_cons, List.sum_cons]
    congr 2
    · omega
    · congr 1; omega
theorem nspan_get {l : List Hunk} {i : Nat} (hi : i < l.length) : (newsF l 0)[i]? = some (nspan l i) := by
  rw [newsF_get l 0 i hi]; simp [nspan]
theorem moved_eq (h : Hunk) (n : Int) (h1 : -4000000000000000000 ≤ h.1 + n) (h2 : h.1 + n ≤ 4000000000000000000) : changeforgeref1_moved_67 (h, n, ()) = some ((h.1 + n, h.2.1, h.2.2.1, ()), ()) := by
  unfold changeforgeref1_moved_67
  simp only []
  rw [wrap_i64 (by omega) (by omega)]
theorem growF_take_succ {l : List Hunk} {m : List Span} {k : Int} {i : Nat} {h : Hunk} {s : Span} (hl : l[i]? = some h) (hm : m[i]? = some s) (he : l.length = m.length) : growF (l.take (i + 1)) (m.take (i + 1)) k = growF (l.take i) (m.take i) k + if s.2.1 < k then dl h else 0 := by
  have t1 : l.take (i + 1) = l.take i ++ [h] := by rw [List.take_add_one, hl]; rfl
  have t2 : m.take (i + 1) = m.take i ++ [s] := by rw [List.take_add_one, hm]; rfl
  rw [t1, t2, growF_snoc (by rw [List.length_take, List.length_take, he])]
/-- A hunk apart from all. -/
def apAllS (m : List Span) (y : Hunk) : Bool := m.all fun x => apF x (y.1, y.1 + y.2.1.length, ())
theorem inF_alt (m : List Span) (Q : List Hunk) : inF m (oldsF Q) = Q.all (apAllS m) := by
  rw [Bool.eq_iff_iff]
  simp only [inF, apAllS, oldsF, List.all_eq_true, List.mem_map, forall_exists_index, and_imp, forall_apply_eq_imp_iff₂]
  exact ⟨fun h y hy x hx => h x hx y hy, fun h x hx y hy => h y hy x hx⟩
theorem shiftL_snoc (l : List Hunk) (h : Hunk) (P : List Hunk) (sp : List Span) (sg : Int) : shiftL (l ++ [h]) P sp sg = shiftL l P sp sg ++ [(h.1 + sg * growF P sp h.1, h.2.1, h.2.2.1, ())] := by simp [shiftL]
theorem CommuteR_eq (p q : Patch) : changeforgeref1_Commute_51 (p, q, ()) = some (comF p q) := by
  obtain ⟨P, ⟨⟩⟩ := p
  obtain ⟨Q, ⟨⟩⟩ := q
  unfold changeforgeref1_Commute_51 comF
  simp only [Pair_eq, Option.bind_some]
  by_cases hch : chF (P, ()) (Q, ()) = (0, 0, ())
  · obtain ⟨hp, hq⟩ := chF_zero hch
    have bp := pF_bd hp
    have bq := pF_bd hq
    obtain ⟨hPl, hPb⟩ := bp
    obtain ⟨hQl, hQb⟩ := bq
    simp only at hPl hPb hQl hQb
    have hnl := newsF_len P 0
    simp only [hch, bne_self_eq_false, Bool.false_eq_true, if_false, if_true]
    rw [inF_alt]
    -- the loop over the second patch
    by_cases hin : Q.all (apAllS (newsF P 0)) = true
    · rw [if_pos hin]
      have hin' := List.all_eq_true.1 hin
      refine (loop_val (fun s => ∃ j : Nat, s.1 = (j : Int) ∧ j ≤ Q.length ∧ s.2.1 = shiftL (Q.take j) P (newsF P 0) (-1)) (fun s => Q.length - s.1.toNat) (fun _ => _) ?_ (s := (0, [], ())) ⟨0, rfl, by omega, rfl⟩)
      rintro ⟨a1, a2, ⟨⟩⟩ ⟨j, g1, hj, g2⟩
      simp only at g1 g2
      subst g1 g2
      by_cases hlt : j < Q.length
      · left
        have q2 : ((j : Int) < (Q.length : Int)) := by omega
        have hg : Q[j]? = some Q[j] := List.getElem?_eq_getElem hlt
        have hby := hQb _ (List.getElem_mem hlt)
        have hay := hin' _ (List.getElem_mem hlt)
        have ht : Q.take (j + 1) = Q.take j ++ [Q[j]] := by rw [List.take_add_one, hg]; rfl
        generalize Q[j] = y at hg hby hay ht
        obtain ⟨y1, y2, y3, ⟨⟩⟩ := y
        obtain ⟨b1, b2, b3, b4⟩ := hby
        simp only at b1 b2 b3 b4
        have hay := List.all_eq_true.1 hay
        have hlj : (shiftL (Q.take j) P (newsF P 0) (-1)).length = j := by rw [shiftL_len, List.length_take]; omega
        refine ⟨(((j + 1 : Nat) : Int), shiftL (Q.take (j + 1)) P (newsF P 0) (-1), ()), ?_, ⟨j + 1, rfl, hlt, rfl⟩, rfl, by simp; omega⟩
        rw [ht, shiftL_snoc]
        simp only [q2, decide_true, if_true]
        generalize shiftL (Q.take j) P (newsF P 0) (-1) = acc at hlj
        refine (loop_val (fun s => s.1 = (j : Int) ∧ s.2.2.2.1 = acc ∧ ∃ i : Nat, s.2.2.1 = (i : Int) ∧ i ≤ P.length ∧ s.2.1 = - growF (P.take i) ((newsF P 0).take i) y1) (fun s => P.length - s.2.2.1.toNat) (fun _ => Sum.inl (((j + 1 : Nat) : Int), acc ++ [(y1 + -1 * growF P (newsF P 0) y1, y2, y3, ())], ())) ?_ (s := ((j : Int), 0, 0, acc, ())) ⟨rfl, rfl, 0, rfl, by omega, by simp [growF]⟩)
        rintro ⟨c1, c2, c3, c4, ⟨⟩⟩ ⟨e1, e2, i, e3, hi, e4⟩
        simp only at e1 e2 e3 e4
        subst e1 e2 e3 e4
        have hgb := growF_bd (k := y1) (m := (newsF P 0).take i) (l := P.take i) fun x hx => hPb x (List.mem_of_mem_take hx)
        have hti : (P.take i).length = i := by rw [List.length_take]; omega
        rw [hti] at hgb
        by_cases hil : i < P.length
        · left
          have q3 : ((i : Int) < (P.length : Int)) := by omega
          have hgi : P[i]? = some (P.getD i (0, [], [], ())) := by rw [List.getD_eq_getElem?_getD, List.getElem?_eq_getElem hil]; rfl
          have hbi : bdH (P.getD i (0, [], [], ())) := hPb _ (List.mem_of_getElem? hgi)
          have hsp := nspan_get hil
          have hap := hay _ (List.mem_of_getElem? hsp)
          have hN := newsR_eq P ⟨hPl, hPb⟩ i hil
          have hgr := growF_take_succ (k := y1) hgi hsp hnl.symm
          refine ⟨((j : Int), -growF (P.take (i + 1)) ((newsF P 0).take (i + 1)) y1, ((i + 1 : Nat) : Int), c4, ()), ?_, ⟨rfl, rfl, i + 1, rfl, hil, rfl⟩, rfl, by simp; omega⟩
          rw [hgr]
          generalize growF (P.take i) ((newsF P 0).take i) y1 = S at hgb
          clear hgr
          generalize nspan P i = sp at hap hN ⊢
          obtain ⟨lo, hi', ⟨⟩⟩ := sp
          generalize P.getD i (0, [], [], ()) = x at hgi hbi ⊢
          obtain ⟨x1, x2, x3, ⟨⟩⟩ := x
          obtain ⟨d1, d2, d3, d4⟩ := hbi
          simp only at d1 d2 d3 d4
          have hG : changeforgeref1_Growth_66 ((x1, x2, x3, ()), ()) = some ((x3.length : Int) - x2.length, ()) := GrowthR_eq _ d3 d4
          have hE : changeforgeref1_End_58 ((y1, y2, y3, ()), ()) = some (y1 + y2.length, ()) := EndR_eq _ (by simp only; omega) (by simp only; omega) (by simp only; omega)
          have hdl : dl (x1, x2, x3, ()) = (x3.length : Int) - x2.length := rfl
          simp only [apF, Bool.or_eq_true, decide_eq_true_eq] at hap
          simp only [q3, decide_true, if_true, hN, Option.bind_some, atC_val hg, hdl]
          by_cases k1 : hi' < y1
          · have k1' : ¬ (hi' ≥ y1) := by omega
            simp only [k1', k1, decide_false, decide_true, Bool.false_eq_true, if_false, if_true, atC_val hgi, hG, Option.bind_some, wrap_i64 (n := -S - ((x3.length : Int) - x2.length)) (by omega) (by omega), wrap_i64 (n := (i : Int) + 1) (by omega) (by omega)]
            refine congrArg (fun v => some (Sum.inl ((j : Int), v, ((i + 1 : Nat) : Int), c4, ()))) ?_
            omega
          · have k1' : hi' ≥ y1 := by omega
            have k2 : ¬ (y1 + (y2.length : Int) ≥ lo) := by omega
            simp only [k1', k1, k2, decide_false, decide_true, Bool.false_eq_true, if_false, if_true, hE, Option.bind_some, wrap_i64 (n := (i : Int) + 1) (by omega) (by omega), Int.add_zero]
            rfl
        · right
          have q3 : ¬ ((i : Int) < (P.length : Int)) := by omega
          have t1 : P.take i = P := List.take_of_length_le (by omega)
          have t2 : (newsF P 0).take i = newsF P 0 := List.take_of_length_le (by omega)
          rw [t1, t2] at hgb ⊢
          have hM : changeforgeref1_moved_67 ((y1, y2, y3, ()), -growF P (newsF P 0) y1, ()) = some ((y1 + -growF P (newsF P 0) y1, y2, y3, ()), ()) := moved_eq _ _ (by simp only; omega) (by simp only; omega)
          simp only [q3, decide_false, Bool.false_eq_true, if_false, atC_val hg, hM, Option.bind_some, List.length_cons, List.length_nil, hlj]
          rw [if_pos ⟨by omega, by simp [maxLen]; omega⟩, wrap_i64 (n := (j : Int) + 1) (by omega) (by omega), show -1 * growF P (newsF P 0) y1 = -growF P (newsF P 0) y1 from by omega]
          rfl
      · right
        have q2 : ¬ ((j : Int) < (Q.length : Int)) := by omega
        rw [List.take_of_length_le (show Q.length ≤ j from by omega)]
        simp only [q2, decide_false, Bool.false_eq_true, if_false]
        have hAl : (shiftL Q P (newsF P 0) (-1)).length = Q.length := shiftL_len
        -- what the first's hunks are bounded by
        have hAb : ∀ x ∈ shiftL Q P (newsF P 0) (-1), -16000 ≤ x.1 ∧ x.1 ≤ 16000 ∧ x.2.1.length ≤ 120 ∧ x.2.2.1.length ≤ 120 := by
          intro x hx
          simp only [shiftL, List.mem_map] at hx
          obtain ⟨y, hy, rfl⟩ := hx
          obtain ⟨b1, b2, b3, b4⟩ := hQb y hy
          have := growF_bd (k := y.1) (m := newsF P 0) hPb
          simp only
          exact ⟨by omega, by omega, b3, b4⟩
        generalize shiftL Q P (newsF P 0) (-1) = A at hAl hAb
        have hol : A.length = (oldsF A).length := by simp [oldsF]
        have hgA : ∀ (k : Int) (i : Nat), i ≤ A.length → -(120 * (i : Int)) ≤ growF (A.take i) ((oldsF A).take i) k ∧ growF (A.take i) ((oldsF A).take i) k ≤ 120 * (i : Int) := by
          intro k i
          induction i with
          | zero => intro _; simp [growF]
          | succ i ih =>
            intro hi
            have hgi : A[i]? = some A[i] := List.getElem?_eq_getElem (by omega)
            have hso : (oldsF A)[i]? = some (A[i].1, A[i].1 + A[i].2.1.length, ()) := by simp only [oldsF, List.getElem?_map, hgi]; rfl
            rw [growF_take_succ hgi hso hol]
            have := ih (by omega)
            have hb := hAb _ (List.getElem_mem (show i < A.length by omega))
            have e : dl A[i] = (A[i].2.2.1.length : Int) - A[i].2.1.length := rfl
            split <;> omega
        suffices key : loopC _ _ = some _ from by
          have e := congrArg (Option.map (Sum.inr (α := Int × List Hunk × Unit))) key
          exact e
        refine (loop_val (fun s => ∃ i : Nat, s.1 = (i : Int) ∧ i ≤ P.length ∧ s.2.1 = shiftL (P.take i) A (oldsF A) 1) (fun s => P.length - s.1.toNat) (fun _ => _) ?_ (s := (0, [], ())) ⟨0, rfl, by omega, rfl⟩)
        rintro ⟨a1, a2, ⟨⟩⟩ ⟨i, g1, hi, g2⟩
        simp only at g1 g2
        subst g1 g2
        by_cases hlt' : i < P.length
        · left
          have q3 : ((i : Int) < (P.length : Int)) := by omega
          have hg : P[i]? = some P[i] := List.getElem?_eq_getElem hlt'
          have hby := hPb _ (List.getElem_mem hlt')
          have ht : P.take (i + 1) = P.take i ++ [P[i]] := by rw [List.take_add_one, hg]; rfl
          generalize P[i] = y at hg hby ht
          obtain ⟨y1, y2, y3, ⟨⟩⟩ := y
          obtain ⟨b1, b2, b3, b4⟩ := hby
          simp only at b1 b2 b3 b4
          have hlj : (shiftL (P.take i) A (oldsF A) 1).length = i := by rw [shiftL_len, List.length_take]; omega
          refine ⟨(((i + 1 : Nat) : Int), shiftL (P.take (i + 1)) A (oldsF A) 1, ()), ?_, ⟨i + 1, rfl, hlt', rfl⟩, rfl, by simp; omega⟩
          rw [ht, shiftL_snoc]
          simp only [q3, decide_true, if_true]
          generalize shiftL (P.take i) A (oldsF A) 1 = acc at hlj
          refine (loop_val (fun s => s.1 = (i : Int) ∧ s.2.2.2.1 = acc ∧ ∃ k : Nat, s.2.2.1 = (k : Int) ∧ k ≤ A.length ∧ s.2.1 = growF (A.take k) ((oldsF A).take k) y1) (fun s => A.length - s.2.2.1.toNat) (fun _ => Sum.inl (((i + 1 : Nat) : Int), acc ++ [(y1 + 1 * growF A (oldsF A) y1, y2, y3, ())], ())) ?_ (s := ((i : Int), 0, 0, acc, ())) ⟨rfl, rfl, 0, rfl, by omega, by simp [growF]⟩)
          rintro ⟨c1, c2, c3, c4, ⟨⟩⟩ ⟨e1, e2, k, e3, hk, e4⟩
          simp only at e1 e2 e3 e4
          subst e1 e2 e3 e4
          have hgb := hgA y1 k hk
          by_cases hkl : k < A.length
          · left
            have q4 : ((k : Int) < (A.length : Int)) := by omega
            have hgk : A[k]? = some A[k] := List.getElem?_eq_getElem hkl
            have hbk := hAb _ (List.getElem_mem hkl)
            have hso : (oldsF A)[k]? = some (A[k].1, A[k].1 + A[k].2.1.length, ()) := by simp only [oldsF, List.getElem?_map, hgk]; rfl
            have hgr := growF_take_succ (k := y1) hgk hso hol
            refine ⟨((i : Int), growF (A.take (k + 1)) ((oldsF A).take (k + 1)) y1, ((k + 1 : Nat) : Int), c4, ()), ?_, ⟨rfl, rfl, k + 1, rfl, hkl, rfl⟩, rfl, by simp; omega⟩
            rw [hgr]
            generalize growF (A.take k) ((oldsF A).take k) y1 = S at hgb
            generalize A[k] = x at hgk hbk
            obtain ⟨x1, x2, x3, ⟨⟩⟩ := x
            obtain ⟨d1, d2, d3, d4⟩ := hbk
            simp only at d1 d2 d3 d4
            have hG : changeforgeref1_Growth_66 ((x1, x2, x3, ()), ()) = some ((x3.length : Int) - x2.length, ()) := GrowthR_eq _ d3 d4
            have hE : changeforgeref1_End_58 ((x1, x2, x3, ()), ()) = some (x1 + x2.length, ()) := EndR_eq _ (by simp only; omega) (by simp only; omega) (by simp only; omega)
            have hdl : dl (x1, x2, x3, ()) = (x3.length : Int) - x2.length := rfl
            simp only [q4, decide_true, if_true, atC_val hgk, hE, Option.bind_some, atC_val hg, hdl]
            by_cases k1 : x1 + (x2.length : Int) < y1
            · simp only [k1, decide_true, if_true, hG, Option.bind_some, wrap_i64 (n := S + ((x3.length : Int) - x2.length)) (by omega) (by omega), wrap_i64 (n := (k : Int) + 1) (by omega) (by omega)]
              rfl
            · simp only [k1, decide_false, Bool.false_eq_true, if_false, wrap_i64 (n := (k : Int) + 1) (by omega) (by omega), Int.add_zero]
              rfl
          · right
            have q4 : ¬ ((k : Int) < (A.length : Int)) := by omega
            have t1 : A.take k = A := List.take_of_length_le (by omega)
            have t2 : (oldsF A).take k = oldsF A := List.take_of_length_le (by omega)
            rw [t1, t2] at hgb ⊢
            have hM : changeforgeref1_moved_67 ((y1, y2, y3, ()), growF A (oldsF A) y1, ()) = some ((y1 + growF A (oldsF A) y1, y2, y3, ()), ()) := moved_eq _ _ (by simp only; omega) (by simp only; omega)
            simp only [q4, decide_false, Bool.false_eq_true, if_false, atC_val hg, hM, Option.bind_some, List.length_cons, List.length_nil, hlj]
            rw [if_pos ⟨by omega, by simp [maxLen]; omega⟩, wrap_i64 (n := (i : Int) + 1) (by omega) (by omega), Int.one_mul]
            rfl
        · right
          have q3 : ¬ ((i : Int) < (P.length : Int)) := by omega
          rw [List.take_of_length_le (show P.length ≤ i from by omega)]
          simp only [q3, decide_false, Bool.false_eq_true, if_false, PatchFault_eq, At_eq, Option.bind_some]
          by_cases hA : pF (A, ()) = (0, 0, ())
          · by_cases hB : pF (shiftL P A (oldsF A) 1, ()) = (0, 0, ())
            · simp [hA, hB]
            · have : ((pF (shiftL P A (oldsF A) 1, ())).1 != 0) = true := by simpa using fun e => hB (pF_code e)
              simp [hA, hB, this]
          · have : ((pF (A, ())).1 != 0) = true := by simpa using fun e => hA (pF_code e)
            simp [hA, this]
    · rw [if_neg hin]
      refine (loop_val (fun s => ∃ j : Nat, s.1 = (j : Int) ∧ j ≤ Q.length ∧ s.2.1.length = j ∧ ¬ (Q.drop j).all (apAllS (newsF P 0)) = true) (fun s => Q.length - s.1.toNat) (fun _ => _) ?_ (s := (0, [], ())) ⟨0, rfl, by omega, rfl, hin⟩)
      rintro ⟨a1, acc, ⟨⟩⟩ ⟨j, g1, hj, g2, g3⟩
      simp only at g1 g2
      subst g1
      have hlt : j < Q.length := by
        rcases Nat.lt_or_ge j Q.length with h | h
        · exact h
        · rw [List.drop_eq_nil_of_le h] at g3; exact absurd rfl g3
      have q2 : ((j : Int) < (Q.length : Int)) := by omega
      have hg : Q[j]? = some Q[j] := List.getElem?_eq_getElem hlt
      have hd : Q.drop j = Q[j] :: Q.drop (j + 1) := List.drop_eq_getElem_cons hlt
      have hby := hQb _ (List.getElem_mem hlt)
      generalize Q[j] = y at hg hby hd
      rw [hd, List.all_cons] at g3
      obtain ⟨y1, y2, y3, ⟨⟩⟩ := y
      obtain ⟨b1, b2, b3, b4⟩ := hby
      simp only at b1 b2 b3 b4
      have hE : changeforgeref1_End_58 ((y1, y2, y3, ()), ()) = some (y1 + y2.length, ()) := EndR_eq _ (by simp only; omega) (by simp only; omega) (by simp only; omega)
      simp only [q2, decide_true, if_true]
      by_cases hay : apAllS (newsF P 0) (y1, y2, y3, ()) = true
      · left
        rw [hay, Bool.true_and] at g3
        have hay := List.all_eq_true.1 hay
        refine ⟨(((j + 1 : Nat) : Int), acc ++ [(y1 + -growF P (newsF P 0) y1, y2, y3, ())], ()), ?_, ⟨j + 1, rfl, hlt, by simp [g2], g3⟩, trivial, by simp; omega⟩
        refine (loop_val (fun s => s.1 = (j : Int) ∧ s.2.2.2.1 = acc ∧ ∃ i : Nat, s.2.2.1 = (i : Int) ∧ i ≤ P.length ∧ s.2.1 = - growF (P.take i) ((newsF P 0).take i) y1) (fun s => P.length - s.2.2.1.toNat) (fun _ => Sum.inl (((j + 1 : Nat) : Int), acc ++ [(y1 + -growF P (newsF P 0) y1, y2, y3, ())], ())) ?_ (s := ((j : Int), 0, 0, acc, ())) ⟨rfl, rfl, 0, rfl, by omega, by simp [growF]⟩)
        rintro ⟨c1, c2, c3, c4, ⟨⟩⟩ ⟨e1, e2, i, e3, hi, e4⟩
        simp only at e1 e2 e3 e4
        subst e1 e2 e3 e4
        have hgb := growF_bd (k := y1) (m := (newsF P 0).take i) (l := P.take i) fun x hx => hPb x (List.mem_of_mem_take hx)
        have hti : (P.take i).length = i := by rw [List.length_take]; omega
        rw [hti] at hgb
        by_cases hil : i < P.length
        · left
          have q3 : ((i : Int) < (P.length : Int)) := by omega
          have hgi : P[i]? = some (P.getD i (0, [], [], ())) := by rw [List.getD_eq_getElem?_getD, List.getElem?_eq_getElem hil]; rfl
          have hbi : bdH (P.getD i (0, [], [], ())) := hPb _ (List.mem_of_getElem? hgi)
          have hsp := nspan_get hil
          have hap := hay _ (List.mem_of_getElem? hsp)
          have hN := newsR_eq P ⟨hPl, hPb⟩ i hil
          have hgr := growF_take_succ (k := y1) hgi hsp hnl.symm
          refine ⟨((j : Int), -growF (P.take (i + 1)) ((newsF P 0).take (i + 1)) y1, ((i + 1 : Nat) : Int), c4, ()), ?_, ⟨rfl, rfl, i + 1, rfl, hil, rfl⟩, rfl, by simp; omega⟩
          rw [hgr]
          generalize growF (P.take i) ((newsF P 0).take i) y1 = S at hgb
          clear hgr
          generalize nspan P i = sp at hap hN ⊢
          obtain ⟨lo, hi', ⟨⟩⟩ := sp
          generalize P.getD i (0, [], [], ()) = x at hgi hbi ⊢
          obtain ⟨x1, x2, x3, ⟨⟩⟩ := x
          obtain ⟨d1, d2, d3, d4⟩ := hbi
          simp only at d1 d2 d3 d4
          have hG : changeforgeref1_Growth_66 ((x1, x2, x3, ()), ()) = some ((x3.length : Int) - x2.length, ()) := GrowthR_eq _ d3 d4
          have hdl : dl (x1, x2, x3, ()) = (x3.length : Int) - x2.length := rfl
          simp only [apF, Bool.or_eq_true, decide_eq_true_eq] at hap
          simp only [q3, decide_true, if_true, hN, Option.bind_some, atC_val hg, hdl]
          by_cases k1 : hi' < y1
          · have k1' : ¬ (hi' ≥ y1) := by omega
            simp only [k1', k1, decide_false, decide_true, Bool.false_eq_true, if_false, if_true, atC_val hgi, hG, Option.bind_some, wrap_i64 (n := -S - ((x3.length : Int) - x2.length)) (by omega) (by omega), wrap_i64 (n := (i : Int) + 1) (by omega) (by omega)]
            refine congrArg (fun v => some (Sum.inl ((j : Int), v, ((i + 1 : Nat) : Int), c4, ()))) ?_
            omega
          · have k1' : hi' ≥ y1 := by omega
            have k2 : ¬ (y1 + (y2.length : Int) ≥ lo) := by omega
            simp only [k1', k1, k2, decide_false, decide_true, Bool.false_eq_true, if_false, if_true, hE, Option.bind_some, wrap_i64 (n := (i : Int) + 1) (by omega) (by omega), Int.add_zero]
            rfl
        · right
          have q3 : ¬ ((i : Int) < (P.length : Int)) := by omega
          have t1 : P.take i = P := List.take_of_length_le (by omega)
          have t2 : (newsF P 0).take i = newsF P 0 := List.take_of_length_le (by omega)
          rw [t1, t2] at hgb ⊢
          have hM : changeforgeref1_moved_67 ((y1, y2, y3, ()), -growF P (newsF P 0) y1, ()) = some ((y1 + -growF P (newsF P 0) y1, y2, y3, ()), ()) := moved_eq _ _ (by simp only; omega) (by simp only; omega)
          simp only [q3, decide_false, Bool.false_eq_true, if_false, atC_val hg, hM, Option.bind_some, List.length_cons, List.length_nil, g2]
          rw [if_pos ⟨by omega, by simp [maxLen]; omega⟩, wrap_i64 (n := (j : Int) + 1) (by omega) (by omega)]
          rfl
      · right
        refine (loop_val (fun s => s.1 = (j : Int) ∧ s.2.2.2.1 = acc ∧ ∃ i : Nat, s.2.2.1 = (i : Int) ∧ i ≤ P.length ∧ -(120 * (i : Int)) ≤ s.2.1 ∧ s.2.1 ≤ 120 * (i : Int) ∧ ¬ ((newsF P 0).drop i).all (fun x => apF x (y1, y1 + (y2.length : Int), ())) = true) (fun s => P.length - s.2.2.1.toNat) (fun _ => _) ?_ (s := ((j : Int), 0, 0, acc, ())) ⟨rfl, rfl, 0, rfl, by omega, by simp, by simp, hay⟩)
        rintro ⟨c1, c2, c3, c4, ⟨⟩⟩ ⟨e1, e2, i, e3, hi, e4, e5, e6⟩
        simp only at e1 e2 e3 e4 e5
        subst e1 e2 e3
        have hil : i < P.length := by
          rcases Nat.lt_or_ge i P.length with h | h
          · exact h
          · rw [List.drop_eq_nil_of_le (by rw [hnl]; exact h)] at e6; exact absurd rfl e6
        have q3 : ((i : Int) < (P.length : Int)) := by omega
        have hgi : P[i]? = some (P.getD i (0, [], [], ())) := by rw [List.getD_eq_getElem?_getD, List.getElem?_eq_getElem hil]; rfl
        have hbi : bdH (P.getD i (0, [], [], ())) := hPb _ (List.mem_of_getElem? hgi)
        have hsp := nspan_get hil
        have hN := newsR_eq P ⟨hPl, hPb⟩ i hil
        have hdn : (newsF P 0).drop i = nspan P i :: (newsF P 0).drop (i + 1) := by
          rw [List.drop_eq_getElem_cons (by rw [hnl]; exact hil)]
          rw [List.getElem?_eq_getElem (by rw [hnl]; exact hil)] at hsp
          injection hsp with hsp
          rw [hsp]
        rw [hdn, List.all_cons] at e6
        generalize nspan P i = sp at hN e6
        obtain ⟨lo, hi', ⟨⟩⟩ := sp
        generalize P.getD i (0, [], [], ()) = x at hgi hbi
        obtain ⟨x1, x2, x3, ⟨⟩⟩ := x
        obtain ⟨d1, d2, d3, d4⟩ := hbi
        simp only at d1 d2 d3 d4
        have hG : changeforgeref1_Growth_66 ((x1, x2, x3, ()), ()) = some ((x3.length : Int) - x2.length, ()) := GrowthR_eq _ d3 d4
        simp only [q3, decide_true, if_true, hN, Option.bind_some, atC_val hg]
        by_cases k1 : hi' < y1
        · left
          have hap : apF (lo, hi', ()) (y1, y1 + (y2.length : Int), ()) = true := by simp [apF, k1]
          rw [hap, Bool.true_and] at e6
          have k1' : ¬ (hi' ≥ y1) := by omega
          refine ⟨((j : Int), c2 - ((x3.length : Int) - x2.length), ((i + 1 : Nat) : Int), c4, ()), ?_, ⟨rfl, rfl, i + 1, rfl, hil, by simp only; omega, by simp only; omega, e6⟩, trivial, by simp; omega⟩
          simp only [k1', k1, decide_false, decide_true, Bool.false_eq_true, if_false, if_true, atC_val hgi, hG, Option.bind_some, wrap_i64 (n := c2 - ((x3.length : Int) - x2.length)) (by omega) (by omega), wrap_i64 (n := (i : Int) + 1) (by omega) (by omega)]
          rfl
        · have k1' : hi' ≥ y1 := by omega
          by_cases k2 : y1 + (y2.length : Int) < lo
          · left
            have hap : apF (lo, hi', ()) (y1, y1 + (y2.length : Int), ()) = true := by simp [apF, k2]
            rw [hap, Bool.true_and] at e6
            have k2' : ¬ (y1 + (y2.length : Int) ≥ lo) := by omega
            refine ⟨((j : Int), c2, ((i + 1 : Nat) : Int), c4, ()), ?_, ⟨rfl, rfl, i + 1, rfl, hil, by simp only; omega, by simp only; omega, e6⟩, trivial, by simp; omega⟩
            simp only [k1', k1, k2', decide_false, decide_true, Bool.false_eq_true, if_false, if_true, hE, Option.bind_some, wrap_i64 (n := (i : Int) + 1) (by omega) (by omega)]
            rfl
          · right
            have k2' : y1 + (y2.length : Int) ≥ lo := by omega
            simp only [k1', k2', decide_true, if_true, hE, Option.bind_some]
  · have : ¬ (chF (P, ()) (Q, ())).1 = 0 := by
      intro e
      apply hch
      unfold chF at e ⊢
      split at e
      · rename_i h1
        rw [if_pos h1]
        split at e
        · rename_i h2; rw [if_pos h2]
        · rename_i h2; exact absurd (pF_code e) h2
      · rename_i h1; exact absurd (pF_code e) h1
    have h2 : ((chF (P, ()) (Q, ())).1 != 0) = true := by simpa using this
    simp only [h2, if_true, hch, if_false]
end Go.Proofs.Ytfepfapfogpfkaa.F
end
section
/- The law StackMoveMatchesSpec over plain values. -/
namespace Go.Proofs.Ytfepfapfogpfkaa.F
open Go Go.Proofs.Ytfepfapfogpfkaa.V

theorem StackFault_eq (l : List Patch) : changeforgeref2_StackFault_28 (l, ()) = some (sF l, ()) := by
  unfold changeforgeref2_StackFault_28 sF
  by_cases hl : l.length > 12
  · have : (12 : Int) < (l.length : Int) := by omega
    simp [hl, this, At_eq]
  · have h1 : ¬ (12 : Int) < (l.length : Int) := by omega
    simp only [gt_iff_lt, h1, show ¬ 12 < l.length from by omega, decide_false, Bool.false_eq_true, if_false, PatchFault_eq, At_eq, Option.bind_some]
    refine (loop_val (fun s => ∃ i : Nat, s.1 = (i : Int) ∧ i ≤ l.length) (fun s => l.length - s.1.toNat) (fun s => (sfrom (l.drop s.1.toNat) s.1, ())) ?_ (s := (0, ())) ⟨0, rfl, by omega⟩)
    rintro ⟨_, ⟨⟩⟩ ⟨i, rfl, hi⟩
    by_cases hlt : i < l.length
    · have h2 : ((i : Int) < (l.length : Int)) := by omega
      have hd : l.drop i = l[i] :: l.drop (i + 1) := List.drop_eq_getElem_cons hlt
      have hg : l[i]? = some l[i] := List.getElem?_eq_getElem hlt
      generalize l[i] = x at hg hd
      obtain ⟨hs, ⟨⟩⟩ := x
      simp only [h2, decide_true, if_true, atC_val hg, Int.toNat_natCast, hd, sfrom]
      by_cases h3 : pF (hs, ()) = (0, 0, ())
      · left
        refine ⟨((i + 1 : Nat), ()), ?_, ⟨i + 1, rfl, hlt⟩, ?_, by simp; omega⟩
        · simp [h3, wrap_i64 (n := (i : Int) + 1) (by omega) (by omega)]
        · simp [h3]
      · right
        have : ((pF (hs, ())).1 != 0) = true := by simpa using fun e => h3 (pF_code e)
        simp only [this, if_true, h3, if_false]
    · have h2 : ¬ ((i : Int) < (l.length : Int)) := by omega
      right
      simp only [h2, decide_false, Bool.false_eq_true, if_false, Int.toNat_natCast, List.drop_eq_nil_of_le (show l.length ≤ i from by omega), sfrom]
      rfl
theorem faultF_zero : faultF (0, 0, ()) = (0, 0, ()) := by unfold faultF; rw [if_pos ⟨rfl, rfl⟩]
theorem carried_eq : ∀ (n fuel : Nat) (l : List Patch) (k t : Nat), Dst k t = n → n < fuel → allP l → l.length ≤ 12 → k < l.length → t < l.length → changeforgeref2_carried_30_k fuel (l, (k : Int), (t : Int) - k, ()) = some (mvF n k t l)
  | n, 0, _, _, _, _, hf, _, _, _, _ => by omega
  | 0, f + 1, l, k, t, hD, _, _, _, _, _ => by
    have := Dst_zero hD
    subst this
    show changeforgeref2_carried_30_s (changeforgeref2_carried_30_k f) _ = _
    unfold changeforgeref2_carried_30_s
    simp [mvF]
  | n + 1, f + 1, l, k, t, hD, hf, hp, hl, hk, ht => by
    show changeforgeref2_carried_30_s (changeforgeref2_carried_30_k f) _ = _
    unfold changeforgeref2_carried_30_s
    generalize hG : changeforgeref2_carried_30_k f = G
    have hkt : k ≠ t := fun e => by subst e; unfold Dst at hD; split at hD <;> omega
    have hz : (((t : Int) - k) == 0) = false := by simp; omega
    have hp1 : ∀ i, i < l.length → pF (l.getD i E0) = (0, 0, ()) := fun i hi => by rw [List.getD_eq_getElem?_getD, List.getElem?_eq_getElem hi]; exact hp _ (List.getElem_mem hi)
    have step : ∀ (i m : Nat) (st : Int), i + 1 < l.length → (((swF l i).1 = true → G ((swF l i).2.2.1, (m : Int), IntKind.wrap .i64 ((t : Int) - k - st), ()) = some (mvF n m t (swF l i).2.2.1))) →
        (atC l (i : Int) fun y9 => atC l (IntKind.wrap .i64 ((i : Int) + 1)) fun y12 => Option.bind (changeforgeref1_Commute_51 ((y9.1, ()), (y12.1, ()), ())) fun r14 => if (r14.2.2.2.1.1 != 0) = true then Option.bind (changeforgeref1_At_29 (r14.2.2.2.1.1, -1, ())) fun r23 => some (([] : List Patch), false, (r23.1.1, r23.1.2.1, ()), ()) else if (!r14.2.2.1) = true then some ([], false, (0, 0, ()), ()) else
          if 0 ≤ (((([] : List Patch).length : Nat) : Int)) ∧ (((([] : List Patch).length : Nat) : Int)) ≤ 0 then if (([] : List Patch).length + l.length) * 24 ≤ 140737488355328 ∧ ([] : List Patch).length + l.length ≤ maxLen then if 0 ≤ (i : Int) ∧ (i : Int) < ((([] ++ l).length : Nat) : Int) then atC ([] ++ l) (i : Int) fun y30 => if 0 ≤ IntKind.wrap .i64 ((i : Int) + 1) ∧ IntKind.wrap .i64 ((i : Int) + 1) < (((List.set ([] ++ l) (Int.toNat (i : Int)) (r14.1.1, y30.2)).length : Nat) : Int) then atC (List.set ([] ++ l) (Int.toNat (i : Int)) (r14.1.1, y30.2)) (IntKind.wrap .i64 ((i : Int) + 1)) fun y34 => Option.bind (G (List.set (List.set ([] ++ l) (Int.toNat (i : Int)) (r14.1.1, y30.2)) (Int.toNat (IntKind.wrap .i64 ((i : Int) + 1))) (r14.2.1.1, y34.2), (m : Int), IntKind.wrap .i64 ((t : Int) - k - st), ())) fun r36 => some (r36.1, r36.2.1, (r36.2.2.1.1, r36.2.2.1.2.1, ()), ())
            else none else none else none else none) = some (if (swF l i).1 = true then mvF n m t (swF l i).2.2.1 else ([], false, faultF (swF l i).2.1, ())) := by
      intro i m st hi hrec
      have g1 : l[i]? = some (l.getD i E0) := by rw [List.getD_eq_getElem?_getD, List.getElem?_eq_getElem (by omega)]; rfl
      have g2 : l[i + 1]? = some (l.getD (i + 1) E0) := by rw [List.getD_eq_getElem?_getD, List.getElem?_eq_getElem (by omega)]; rfl
      have hw : IntKind.wrap .i64 ((i : Int) + 1) = ((i + 1 : Nat) : Int) := by rw [wrap_i64 (by omega) (by omega)]; rfl
      obtain ⟨c1, c2⟩ := comF_ok (hp1 i (by omega)) (hp1 (i + 1) hi)
      unfold swF at hrec ⊢
      simp only at hrec ⊢
      generalize l.getD i E0 = p at g1 c1 c2 hrec
      generalize l.getD (i + 1) E0 = q at g2 c1 c2 hrec
      obtain ⟨p, ⟨⟩⟩ := p
      obtain ⟨q, ⟨⟩⟩ := q
      simp only [hw, atC_val g1, atC_val g2, CommuteR_eq, Option.bind_some, At_eq]
      generalize comF (p, ()) (q, ()) = r at c1 c2 hrec
      obtain ⟨⟨a, ⟨⟩⟩, ⟨b, ⟨⟩⟩, ok, ⟨c, j, ⟨⟩⟩, ⟨⟩⟩ := r
      simp only at c1 c2 hrec
      by_cases hc : c = 0
      · have h0 := c2 hc
        injection h0 with h0 h0'
        injection h0' with h0' _
        subst h0 h0'
        cases ok with
        | false => simp [faultF_zero]
        | true =>
          simp only [if_true] at hrec
          have hr := hrec trivial
          simp only [bne_self_eq_false, Bool.false_eq_true, if_false, Bool.not_true, List.length_nil, List.nil_append, Nat.zero_add, if_true]
          rw [if_pos (by omega), if_pos ⟨by omega, by simp [maxLen]; omega⟩, if_pos (by omega)]
          rw [atC_val g1]
          simp only [Int.toNat_natCast, List.length_set]
          rw [if_pos (by omega)]
          have g3 : (l.set i (a, ()))[i + 1]? = some (q, ()) := by rw [List.getElem?_set_ne (by omega)]; exact g2
          rw [atC_val g3, hr]
          rfl
      · cases ok with
        | true => exact absurd (by have := (c1 rfl).1; injection this) hc
        | false =>
          have hc' : (c != 0) = true := by simpa using hc
          have : faultF (c, j, ()) = (c, -1, ()) := by unfold faultF; rw [if_neg (fun h => hc h.1)]
          simp [hc', this]
    have hw1 : IntKind.wrap .i64 ((k : Int) + 1) = ((k + 1 : Nat) : Int) := by rw [wrap_i64 (by omega) (by omega)]; rfl
    by_cases hlt : t < k
    · have h5 : ((t : Int) - k < 0) := by omega
      have hw2 : IntKind.wrap .i64 ((k : Int) - 1) = ((k - 1 : Nat) : Int) := by rw [wrap_i64 (by omega) (by omega)]; omega
      rw [mvF_dn hkt hlt]
      simp only [hz, h5, decide_true, if_true, Bool.false_eq_true, if_false, hw2]
      refine step (k - 1) (k - 1) (-1) (by omega) fun hs => ?_
      obtain ⟨_, _, s3, s4⟩ := swF_back (by omega) hp hs rfl
      have hw3 : IntKind.wrap .i64 ((t : Int) - k - -1) = (t : Int) - ((k - 1 : Nat) : Int) := by rw [wrap_i64 (by omega) (by omega)]; omega
      rw [hw3, ← hG]
      exact carried_eq n f _ (k - 1) t (by unfold Dst at hD ⊢; split at hD <;> split <;> omega) (by omega) s3 (by omega) (by omega) (by omega)
    · have h5 : ¬ ((t : Int) - k < 0) := by omega
      rw [mvF_up hkt hlt]
      simp only [hz, h5, decide_false, Bool.false_eq_true, if_false, hw1]
      have key := step k (k + 1) 1 (by omega) fun hs => by
        obtain ⟨_, _, s3, s4⟩ := swF_back (by omega) hp hs rfl
        have hw3 : IntKind.wrap .i64 ((t : Int) - k - 1) = (t : Int) - ((k + 1 : Nat) : Int) := by rw [wrap_i64 (by omega) (by omega)]; omega
        rw [hw3, ← hG]
        exact carried_eq n f _ (k + 1) t (by unfold Dst at hD ⊢; split at hD <;> split <;> omega) (by omega) s3 (by omega) (by omega) (by omega)
      rw [hw1] at key
      exact key
theorem carried_all (l : List Patch) (k t : Nat) (hp : allP l) (hl : l.length ≤ 12) (hk : k < l.length) (ht : t < l.length) : changeforgeref2_carried_30 (l, (k : Int), (t : Int) - k, ()) = some (mvF (Dst k t) k t l) := by
  unfold changeforgeref2_carried_30
  exact carried_eq _ _ l k t rfl (by unfold Dst; split <;> omega) hp hl hk ht
theorem eta4 (r : List Patch × Bool × Fault × Unit) : ((r.1, r.2.1, (r.2.2.1.1, r.2.2.1.2.1, ()), ()) : List Patch × Bool × Fault × Unit) = r := by
  obtain ⟨a, b, ⟨c, d, ⟨⟩⟩, ⟨⟩⟩ := r; rfl
theorem MoveStack_eq (l : List Patch) (k t : Int) : changeforgeref2_MoveStack_11 (l, k, t, ()) = some (moveF l k t) := by
  unfold changeforgeref2_MoveStack_11 moveF
  simp only [StackFault_eq, Option.bind_some, At_eq]
  by_cases hs : sF l = (0, 0, ())
  · obtain ⟨hl, hp⟩ := sF_bd hs
    simp only [hs, bne_self_eq_false, Bool.false_eq_true, if_false, if_true]
    by_cases h1 : k < 0 ∨ k ≥ l.length
    · have hpos : posF l.length k (-2) = (3, -2, ()) := by unfold posF; rw [if_pos h1]
      rw [hpos]
      by_cases h1' : k < 0
      · simp [h1']
      · have h1'' : k ≥ (l.length : Int) := by omega
        simp [h1', h1'']
    · have hpos : posF l.length k (-2) = (0, 0, ()) := by unfold posF; rw [if_neg h1]
      have h1' : ¬ k < 0 := by omega
      have h1'' : ¬ k ≥ (l.length : Int) := by omega
      rw [hpos]
      simp only [h1', h1'', decide_false, Bool.false_eq_true, if_false, if_true]
      by_cases h2 : t < 0 ∨ t ≥ l.length
      · have hpos2 : posF l.length t (-3) = (3, -3, ()) := by unfold posF; rw [if_pos h2]
        rw [hpos2]
        by_cases h2' : t < 0
        · simp [h2']
        · have h2'' : t ≥ (l.length : Int) := by omega
          simp [h2', h2'']
      · have hpos2 : posF l.length t (-3) = (0, 0, ()) := by unfold posF; rw [if_neg h2]
        have h2' : ¬ t < 0 := by omega
        have h2'' : ¬ t ≥ (l.length : Int) := by omega
        rw [hpos2]
        obtain ⟨k, rfl⟩ := Int.eq_ofNat_of_zero_le (show 0 ≤ k from by omega)
        obtain ⟨t, rfl⟩ := Int.eq_ofNat_of_zero_le (show 0 ≤ t from by omega)
        have hw : IntKind.wrap .i64 ((t : Int) - k) = (t : Int) - k := wrap_i64 (by omega) (by omega)
        simp only [h2', h2'', decide_false, Bool.false_eq_true, if_false, if_true, hw, carried_all l k t hp hl (by omega) (by omega), Option.bind_some, Int.toNat_natCast, eta4]
  · have : ((sF l).1 != 0) = true := by simpa using fun e => hs (sF_code e)
    simp only [this, if_true, hs, if_false]
def dropF (l : List Patch) (k : Int) : List Patch × Bool × Fault × Unit :=
  if sF l = (0, 0, ()) then
    if posF l.length k (-2) = (0, 0, ()) then
      let m := moveF l k ((l.length : Int) - 1)
      if m.2.1 = true then (m.1.take (m.1.length - 1), true, (0, 0, ()), ()) else ([], false, m.2.2.1, ())
    else ([], false, posF l.length k (-2), ())
  else ([], false, sF l, ())
theorem DropF_eq (l : List Patch) (k : Int) : stack_Drop_12 (l, k, ()) = some (dropF l k) := by
  by_cases hs : sF l = (0, 0, ())
  · obtain ⟨hl, _⟩ := sF_bd hs
    have hw : IntKind.wrap .i64 ((l.length : Int) - 1) = (l.length : Int) - 1 := wrap_i64 (by omega) (by omega)
    by_cases h1 : posF l.length k (-2) = (0, 0, ())
    · unfold dropF
      rw [if_pos hs, if_pos h1]
      generalize hm : moveF l k ((l.length : Int) - 1) = m
      obtain ⟨x, ok, ⟨c, j, ⟨⟩⟩, ⟨⟩⟩ := m
      cases ok with
      | true => rw [Drop_eq (x := x) (f := (c, j, ())) (u := ()) (by rw [hw]; exact hm)]; rfl
      | false =>
        unfold stack_Drop_12
        simp [stack_Validate_eq, hs, position_eq, h1, Move_eq, hw, hm]
    · have e := f0 (posF l.length k (-2))
      rw [decide_eq_false h1] at e
      unfold stack_Drop_12 dropF
      rw [if_pos hs, if_neg h1]
      simp only [stack_Validate_eq, hs, position_eq, Option.bind_some, BEq.rfl, Bool.and_self, Bool.not_true, Bool.false_eq_true, if_false]
      generalize posF l.length k (-2) = f at e
      obtain ⟨c, j, ⟨⟩⟩ := f
      simp only at e
      simp only [e, Bool.not_false, if_true]
  · have e := f0 (sF l)
    rw [decide_eq_false hs] at e
    unfold stack_Drop_12 dropF
    rw [if_neg hs]
    simp only [stack_Validate_eq, Option.bind_some]
    generalize sF l = f at e
    obtain ⟨c, j, ⟨⟩⟩ := f
    simp only at e
    simp only [e, Bool.not_false, if_true]
theorem DropStack_eq (l : List Patch) (k : Int) : changeforgeref2_DropStack_13 (l, k, ()) = some (dropF l k) := by
  unfold changeforgeref2_DropStack_13 dropF
  simp only [StackFault_eq, Option.bind_some, At_eq]
  by_cases hs : sF l = (0, 0, ())
  · obtain ⟨hl, hp⟩ := sF_bd hs
    simp only [hs, bne_self_eq_false, Bool.false_eq_true, if_false, if_true]
    by_cases h1 : k < 0 ∨ k ≥ l.length
    · have hpos : posF l.length k (-2) = (3, -2, ()) := by unfold posF; rw [if_pos h1]
      rw [hpos]
      by_cases h1' : k < 0
      · simp [h1']
      · have h1'' : k ≥ (l.length : Int) := by omega
        simp [h1', h1'']
    · have hpos : posF l.length k (-2) = (0, 0, ()) := by unfold posF; rw [if_neg h1]
      have h1' : ¬ k < 0 := by omega
      have h1'' : ¬ k ≥ (l.length : Int) := by omega
      rw [hpos]
      obtain ⟨k, rfl⟩ := Int.eq_ofNat_of_zero_le (show 0 ≤ k from by omega)
      have hw : IntKind.wrap .i64 ((l.length : Int) - 1) = ((l.length - 1 : Nat) : Int) := by rw [wrap_i64 (by omega) (by omega)]; omega
      have hw2 : IntKind.wrap .i64 (((l.length - 1 : Nat) : Int) - k) = ((l.length - 1 : Nat) : Int) - k := wrap_i64 (by omega) (by omega)
      have hmv : moveF l (k : Int) ((l.length : Int) - 1) = mvF (Dst k (l.length - 1)) k (l.length - 1) l := by
        unfold moveF
        rw [if_pos hs, if_pos hpos, if_pos (by unfold posF; rw [if_neg (by omega)]), Int.toNat_natCast, show ((l.length : Int) - 1).toNat = l.length - 1 from by omega]
      simp only [h1', h1'', decide_false, Bool.false_eq_true, if_false, if_true, hw, hw2, carried_all l k (l.length - 1) hp hl (by omega) (by omega), Option.bind_some, hmv]
      rw [← hmv]
      generalize hm : moveF l (k : Int) ((l.length : Int) - 1) = m
      obtain ⟨x, ok, ⟨c, j, ⟨⟩⟩, ⟨⟩⟩ := m
      cases ok with
      | false => simp
      | true =>
        obtain ⟨_, _, g3, _, _, _, g7⟩ := move_effect hm []
        have hw3 : IntKind.wrap .i64 ((x.length : Int) - 1) = ((x.length - 1 : Nat) : Int) := by rw [wrap_i64 (by omega) (by omega)]; omega
        simp only [Bool.not_true, Bool.false_eq_true, if_false, hw3, Int.toNat_natCast, Int.toNat_zero, List.drop_zero, if_true]
        rw [if_pos (by omega)]
  · have : ((sF l).1 != 0) = true := by simpa using fun e => hs (sF_code e)
    simp only [this, if_true, hs, if_false]
theorem moveF_ok (l : List Patch) (k t : Int) : (moveF l k t).1 = [] ∨ ((moveF l k t).1.length ≤ 12 ∧ allP (moveF l k t).1) := by
  generalize hm : moveF l k t = m
  obtain ⟨x, ok, f, ⟨⟩⟩ := m
  cases ok with
  | true =>
    obtain ⟨_, g2, g3, _, g5, _⟩ := move_effect hm []
    exact .inr ⟨by have := (sF_bd g5).1; simp only; omega, g2⟩
  | false =>
    left
    unfold moveF at hm
    have hmv : ∀ (n k t : Nat) (l : List Patch), (mvF n k t l).2.1 = false → (mvF n k t l).1 = [] := by
      intro n
      induction n with
      | zero => intro k t l h; simp [mvF] at h
      | succ n ih =>
        intro k t l h
        by_cases e : k = t
        · subst e; simp [mvF_self] at h
        · by_cases hlt : t < k
          · rw [mvF_dn e hlt] at h ⊢
            split at h
            · rename_i hs; rw [if_pos hs]; exact ih _ _ _ h
            · rename_i hs; rw [if_neg hs]
          · rw [mvF_up e hlt] at h ⊢
            split at h
            · rename_i hs; rw [if_pos hs]; exact ih _ _ _ h
            · rename_i hs; rw [if_neg hs]
    split at hm
    · split at hm
      · split at hm
        · have := hmv _ _ _ _ (by rw [hm])
          rw [hm] at this
          exact this
        · injection hm with hm; exact hm.symm
      · injection hm with hm; exact hm.symm
    · injection hm with hm; exact hm.symm
theorem dropF_ok (l : List Patch) (k : Int) : (dropF l k).1 = [] ∨ ((dropF l k).1.length ≤ 12 ∧ allP (dropF l k).1) := by
  unfold dropF
  split
  · split
    · simp only []
      split
      · rcases moveF_ok l k ((l.length : Int) - 1) with h | ⟨h1, h2⟩
        · left; simp [h]
        · exact .inr ⟨by simp only [List.length_take]; omega, fun p hp => h2 p (List.mem_of_mem_take hp)⟩
      · exact .inl rfl
    · exact .inl rfl
  · exact .inl rfl
theorem MoveMatchesSpec_eq (l : List Patch) (k t : Int) : changeforgelaw2_StackMoveMatchesSpec_3 (l, k, t, ()) = some (true, ()) := by
  have refl : ∀ x : List Patch, (x = [] ∨ (x.length ≤ 12 ∧ allP x)) → changeforgeequal_Patches_14 (x, x, ()) = some (true, ()) := by
    intro x h
    rcases h with rfl | ⟨h1, h2⟩
    · exact Patches_refl [] (by simp) (fun p hp => by cases hp)
    · exact Patches_refl x (by omega) fun p hp => bd_ok (pF_bd (h2 p hp))
  have h1 := refl _ (moveF_ok l k t)
  have h2 := refl _ (dropF_ok l k)
  unfold changeforgelaw2_StackMoveMatchesSpec_3
  simp only [Move_eq, MoveStack_eq, DropF_eq, DropStack_eq, Option.bind_some, h1, h2, dropped_eq, if_true, BEq.rfl, Bool.and_self]
end Go.Proofs.Ytfepfapfogpfkaa.F
end
