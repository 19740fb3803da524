/- Texts of ours, put together: VOpn, VOps, QBlameEdited, RJ, FBlameEdited. -/
import Derived.Test.YtidnkaopndmigaaK5
import Derived.Test.YtidnkaopndmigaaRows
import Derived.Deep.Slices
import Derived.SizedLaws
import Derived.ChangeSame
import Derived.Test.YtidnkaopndmigaaProg
import Derived.KernelRfl
section
set_option linter.unusedSimpArgs false
set_option linter.unusedVariables false
/- Arguments that came in, read as data without memory, with the bounds that the reading bears. -/
namespace Go.Proofs.Ytidnkaopndmigaa.V
open Go.ChangeShapes Go.WideShapes Go.RowKit

def wfStr (s : ByteArray) : Prop := s.size ≤ 140737488351232
def wfL {α : Type} (B : Nat) (wf : α → Prop) (l : List α) : Prop := l.length ≤ 9223372036854775807 ∧ l.length * B ≤ 140737488351232 ∧ ∀ x ∈ l, wf x
def measL {α : Type} (m : α → Nat) (l : List α) : Nat := 1 + (l.map m).sum
def measStr (s : ByteArray) : Nat := s.size + 1

abbrev noM : Mut := fun _ _ => False
/-- The cells read as the leaves. -/
def CellsD (w : World) (ls : List D) (cs : List Value) : Prop := cs.length = ls.length ∧ (∀ d ∈ ls, d.leaf = true) ∧ ∀ (j : Nat) d v, ls[j]? = some d → cs[j]? = some v → VD w noM d v

theorem bulk_one {H : Type} (d : DataW H) : 1 ≤ Rows.uptoBulk d := by
  cases d with
  | lit l => cases l <;> simp [Rows.uptoBulk]
  | nil => simp [Rows.uptoBulk]
  | ptr d => simp [Rows.uptoBulk]
  | slice elems spare => simp [Rows.uptoBulk]
  | agg parts => simp [Rows.uptoBulk]
  | iface t d => simp [Rows.uptoBulk]
  | map entries => simp [Rows.uptoBulk]
  | held h => simp [Rows.uptoBulk]

structure Opn {α : Type} (P : Program) (t : TypeId) (f : α → D) (wf : α → Prop) (meas : α → Nat) : Prop where
  opens : ∀ {H : Type} {enc : TypeId × Value → H} {w : World} {base : Nat} {held : Bool} {fuel : Nat} {cs : List Value} {x : DataW H × List MemPlace},
    DataW.trod enc P w base (fun _ => true) held fuel t cs = some x → (∀ n ∈ x.1.weights P t, n ≤ reachBytes) → ∃ a, CellsD w (f a).cells cs ∧ wf a ∧ meas a ≤ Rows.uptoBulk x.1

theorem CellsD.one {w : World} {d : D} {v : Value} (hl : d.leaf = true) (h : VD w noM d v) : CellsD w [d] [v] := ⟨rfl, by simpa using hl, fun j x u hx hu => by cases j <;> simp at hx hu; subst hx; subst hu; exact h⟩

theorem Opn.int {P : Program} {t : TypeId} {k : IntKind} (ht : P.underlying t = some (.int k)) : Opn P t (D.int k) (fun a => (Lit.int k a).wf = true) (fun _ => 1) := ⟨by
  intro H enc w base held fuel cs x h _
  obtain ⟨n, rfl, rfl, hw⟩ := DataW.trod_int ht h
  exact ⟨n, CellsD.one rfl (.int _ _), hw, bulk_one _⟩⟩
theorem Opn.bool {P : Program} {t : TypeId} (ht : P.underlying t = some .bool) : Opn P t D.bool (fun _ => True) (fun _ => 1) := ⟨by
  intro H enc w base held fuel cs x h _
  obtain ⟨n, rfl, rfl⟩ := DataW.trod_bool ht h
  exact ⟨n, CellsD.one rfl (.bool _), trivial, bulk_one _⟩⟩
theorem Opn.string {P : Program} {t : TypeId} (ht : P.underlying t = some .string) : Opn P t D.str wfStr measStr := ⟨by
  intro H enc w base held fuel cs x h hw
  obtain ⟨s, rfl, rfl, hs⟩ := DataW.trod_string ht h
  refine ⟨s, CellsD.one rfl (.str _), ?_, ?_⟩
  · have := hw s.data.toList.length (by simp [DataW.weights])
    unfold wfStr
    rw [Array.length_toList] at this
    exact this
  · show s.size + 1 ≤ s.data.toList.length + 1
    rw [Array.length_toList]
    exact Nat.le_refl _⟩

theorem weightsAll_mem {H : Type} {P : Program} {e : TypeId} {d : DataW H} : ∀ {l : List (DataW H)}, d ∈ l → ∀ n ∈ d.weights P e, n ∈ DataW.weightsAll P e l
  | [], h, _, _ => by cases h
  | x :: r, h, n, hn => by
    simp only [DataW.weightsAll, List.mem_append]
    rcases List.mem_cons.1 h with rfl | h
    · exact .inl hn
    · exact .inr (weightsAll_mem h n hn)

/-- One list for all indices. -/
theorem list_of {α : Type} : ∀ {n : Nat} {p : Nat → α → Prop}, (∀ i, i < n → ∃ x, p i x) → ∃ l : List α, l.length = n ∧ ∀ i (h : i < l.length), p i l[i]
  | 0, _, _ => ⟨[], rfl, fun i h => by simp at h⟩
  | n + 1, p, h => by
    obtain ⟨l, hl, hp⟩ := list_of (n := n) (p := fun i => p (i + 1)) (fun i hi => h (i + 1) (by omega))
    obtain ⟨x, hx⟩ := h 0 (by omega)
    refine ⟨x :: l, by simp [hl], fun i hi => ?_⟩
    cases i with
    | zero => exact hx
    | succ i => exact hp i (by simpa using hi)

theorem sum_le {α H : Type} (m : α → Nat) : ∀ (l : List α) (D : Nat → DataW H) (b : Nat), (∀ i (h : i < l.length), m l[i] ≤ Rows.uptoBulk (D (b + i))) → (l.map m).sum ≤ Rows.uptoBulkAll ((List.range' b l.length).map D)
  | [], _, _, _ => by simp
  | x :: l, D, b, h => by
    have h0 := h 0 (by simp)
    have ih := sum_le m l D (b + 1) (fun i hi => by
      have := h (i + 1) (by simp; omega)
      simpa [Nat.add_assoc, Nat.add_comm 1 i] using this)
    simp only [List.map_cons, List.sum_cons, List.length_cons, List.range'_succ, Rows.uptoBulkAll]
    simp at h0
    omega

theorem Opn.slice {α : Type} {P : Program} {t e : TypeId} {f : α → D} {wf : α → Prop} {meas : α → Nat} {B sz : Nat} (ht : P.underlying t = some (.slice e)) (hc : P.cellsOf e = sz) (hs : ∀ a, (f a).cells.length = sz) (hb : P.bytesOf e = B) (he : Opn P e f wf meas) :
    Opn P t (fun l => .sl (l.map f)) (wfL B wf) (measL meas) := ⟨by
  intro H enc w base held fuel cs x h hw
  rcases Go.Deep.open_slice ht h with ⟨rfl, rfl⟩ | ⟨a, len, cap, m, n, D, Pl, rfl, hba, hl, hcap, hm, rfl, hx⟩
  · refine ⟨[], CellsD.one rfl (.nil 0), ⟨by simp, by simp, by simp⟩, by simp [measL, Rows.uptoBulk]⟩
  · simp only [if_true] at hm
    subst hm
    have each : ∀ i, i < len → ∃ y, (∃ cs', w.cells? base (a.add (i * P.cellsOf e)) (P.cellsOf e) = some cs' ∧ CellsD w (f y).cells cs') ∧ wf y ∧ meas y ≤ Rows.uptoBulk (D i) := by
      intro i hi
      obtain ⟨cs', h1, h2⟩ := hx i (by omega)
      obtain ⟨y, hK, hwf, hme⟩ := he.opens h2 (fun q hq => hw q (by
        simp only [DataW.weights, ht]
        exact List.mem_cons_of_mem _ (List.mem_append_left _ (weightsAll_mem (List.mem_map.2 ⟨i, List.mem_range.2 hi, rfl⟩) q hq))))
      exact ⟨y, ⟨cs', h1, hK⟩, hwf, hme⟩
    obtain ⟨l, hl1, hl2⟩ := list_of each
    have hwt := hw ((len + (m - len)) * P.bytesOf e) (by simp [DataW.weights, ht])
    refine ⟨l, CellsD.one rfl ?_, ⟨?_, ?_, ?_⟩, ?_⟩
    · have key : ∀ (i j : Nat), ∃ u, ∀ y d, l[i]? = some y → (f y).cells[j]? = some d → w.cell? (a.add (i * sz + j)) = some u ∧ d.leaf = true ∧ VD w noM d u := by
        intro i j
        cases hy : l[i]? with
        | none => exact ⟨.bool false, fun y d h => by cases h⟩
        | some y =>
          obtain ⟨hi, hyi⟩ := List.getElem?_eq_some_iff.1 hy
          obtain ⟨⟨cs', h1, hK⟩, _, _⟩ := hl2 i hi
          rw [hyi] at hK
          obtain ⟨_, hlen, hcell⟩ := World.cells?_some h1
          cases hd : (f y).cells[j]? with
          | none => exact ⟨.bool false, fun y' d h h' => by injection h with h; subst h; rw [hd] at h'; cases h'⟩
          | some d =>
            have hjl : j < cs'.length := by rw [hK.1]; exact (List.getElem?_eq_some_iff.1 hd).1
            refine ⟨cs'[j], fun y' d' h h' => ?_⟩
            injection h with h; subst h
            rw [hd] at h'; injection h' with h'; subst h'
            refine ⟨?_, hK.2.1 d (List.mem_of_getElem? hd), hK.2.2 j d _ hd (List.getElem?_eq_getElem hjl)⟩
            have := hcell j (by omega)
            rw [Go.Deep.add_add, hc] at this
            rw [this, List.getElem?_eq_getElem hjl]
      have hln : len = (l.map f).length := by simp [hl1]
      rw [hln]
      refine VD.sl a m sz (l.map f) (fun i j => (key i j).choose) (by rw [← hln]; omega) (fun i x hx => ?_) (fun i x j d hx hd => ?_) (fun i x j d hx hd => ?_)
      all_goals
        rw [List.getElem?_map, Option.map_eq_some_iff] at hx
        obtain ⟨y, hy, rfl⟩ := hx
      · exact hs y
      · have := (key i j).choose_spec y d hy hd
        exact ⟨this.2.1, this.1, fun h => h⟩
      · exact ((key i j).choose_spec y d hy hd).2.2
    · unfold maxLen at hcap
      omega
    · rw [hl1, ← hb]
      have h2 : len * P.bytesOf e ≤ (len + (m - len)) * P.bytesOf e := Nat.mul_le_mul_right _ (by omega)
      have h3 : reachBytes = 140737488351232 := rfl
      omega
    · intro y hy
      obtain ⟨i, hi, rfl⟩ := List.mem_iff_getElem.1 hy
      exact (hl2 i hi).2.1
    · have := sum_le meas l D 0 (fun i hi => by simpa using (hl2 i hi).2.2)
      rw [hl1, ← List.range_eq_range'] at this
      simp only [Rows.uptoBulk, measL]
      omega⟩

/-- The fields of a struct from one offset on. -/
structure OpnS {α : Type} (P : Program) (fs : List Field) (o n : Nat) (f : α → List D) (wf : α → Prop) (meas : α → Nat) : Prop where
  opens : ∀ {H : Type} {enc : TypeId × Value → H} {w : World} {base : Nat} {held : Bool} {fuel : Nat} {cs : List Value} {xs : List (DataW H × List MemPlace)},
    cs.length = o + n → xs.length = fs.length → (∀ (i : Nat) (f : Field), fs[i]? = some f → DataW.trod enc P w base (fun _ => true) held fuel f.type ((cs.drop f.offset).take (P.cellsOf f.type)) = xs[i]?) →
    (∀ n ∈ DataW.weightsEach P (fs.map (·.type)) (xs.map (·.1)), n ≤ reachBytes) → ∃ a, CellsD w (f a) (cs.drop o) ∧ wf a ∧ meas a ≤ Rows.uptoBulkAll (xs.map (·.1))
theorem OpnS.last {α : Type} {P : Program} {fd : Field} {o n : Nat} {f : α → D} {wf : α → Prop} {meas : α → Nat} (ho : fd.offset = o) (hn : P.cellsOf fd.type = n) (he : Opn P fd.type f wf meas) : OpnS P [fd] o n (fun a => (f a).cells) wf meas := ⟨by
  intro H enc w base held fuel cs xs hl hx h hw
  obtain ⟨y, rfl⟩ := List.length_eq_one_iff.1 hx
  have h1 := h 0 fd rfl
  simp only [List.getElem?_cons_zero] at h1
  rw [ho, hn, List.take_of_length_le (by rw [List.length_drop]; omega)] at h1
  obtain ⟨a, hK, hwf, hm⟩ := he.opens h1 (fun q hq => hw q (by simp [DataW.weightsEach, hq]))
  exact ⟨a, hK, hwf, by simp [Rows.uptoBulkAll]; omega⟩⟩
theorem CellsD.append {w : World} {a b : List D} {x y : List Value} (h1 : CellsD w a x) (h2 : CellsD w b y) : CellsD w (a ++ b) (x ++ y) := by
  obtain ⟨p1, p2, p3⟩ := h1
  obtain ⟨q1, q2, q3⟩ := h2
  refine ⟨by simp [p1, q1], fun d hd => by rcases List.mem_append.1 hd with h | h; exact p2 d h; exact q2 d h, fun j d v hd hv => ?_⟩
  rw [List.getElem?_append] at hd hv
  rw [p1] at hv
  split at hd
  · rename_i h; rw [if_pos h] at hv; exact p3 j d v hd hv
  · rename_i h; rw [if_neg h] at hv; exact q3 _ d v hd hv
theorem OpnS.cons {α β : Type} {P : Program} {fd : Field} {r : List Field} {o m n : Nat} {f : α → D} {wf : α → Prop} {meas : α → Nat} {f2 : β → List D} {wf2 : β → Prop} {meas2 : β → Nat} (ho : fd.offset = o) (hm : P.cellsOf fd.type = m) (he : Opn P fd.type f wf meas)
    (hr : OpnS P r (o + m) n f2 wf2 meas2) : OpnS P (fd :: r) o (m + n) (fun p : α × β => (f p.1).cells ++ f2 p.2) (fun p : α × β => wf p.1 ∧ wf2 p.2) (fun p : α × β => meas p.1 + meas2 p.2) := ⟨by
  intro H enc w base held fuel cs xs hl hx h hw
  cases xs with
  | nil => simp at hx
  | cons y ys =>
    have h1 := h 0 fd rfl
    simp only [List.getElem?_cons_zero] at h1
    rw [ho, hm] at h1
    simp only [List.map_cons, DataW.weightsEach, List.mem_append] at hw
    obtain ⟨a, hK, hwf, hme⟩ := he.opens h1 (fun q hq => hw q (.inl hq))
    obtain ⟨b, hK2, hwf2, hme2⟩ := hr.opens (cs := cs) (xs := ys) (by omega) (by simpa using hx) (fun i g hg => by simpa using h (i + 1) g (by simpa using hg)) (fun q hq => hw q (.inr hq))
    refine ⟨(a, b), ?_, ⟨hwf, hwf2⟩, ?_⟩
    · have e : cs.drop o = (cs.drop o).take m ++ cs.drop (o + m) := by rw [← List.drop_drop, List.take_append_drop]
      rw [e]
      exact hK.append hK2
    · simp only [List.map_cons, Rows.uptoBulkAll]
      omega⟩
theorem Opn.struct {α : Type} {P : Program} {t : TypeId} {fs : Array Field} {n : Nat} {f : α → List D} {wf : α → Prop} {meas : α → Nat} (ht : P.underlying t = some (.struct fs)) (hn : P.cellsOf t = n) (h : OpnS P fs.toList 0 n f wf meas) :
    Opn P t (fun a => .agg (f a)) wf (fun b => 1 + meas b) := ⟨by
  intro H enc w base held fuel cs x hx hw
  obtain ⟨xs, k, rfl, rfl, hl, hlen, hall⟩ := DataW.trod_struct ht hx
  obtain ⟨a, hK, hwf, hm⟩ := h.opens (cs := cs) (xs := xs) (by omega) (by simpa using hlen) (fun i g hg => hall i g (by simpa using hg)) (fun q hq => hw q (by simpa [DataW.weights, ht] using hq))
  refine ⟨a, by simpa [D.cells] using hK, hwf, ?_⟩
  simp only [Rows.uptoBulk]
  omega⟩

/-- What an argument's reading gives. -/
theorem Opn.arg {α : Type} {P : Program} {t : TypeId} {f : α → D} {wf : α → Prop} {meas : α → Nat} (he : Opn P t f wf meas) {H : Type} {enc : TypeId × Value → H} {w : World} {base : Nat} {held : Bool} {v : Value} {x : DataW H} {ps : List MemPlace}
    (h : DataW.Trod enc P w base (fun _ => true) held t v x ps) (hw : ∀ n ∈ x.weights P t, n ≤ reachBytes) : ∃ a, CellsD w (f a).cells v.cells.toList ∧ wf a ∧ meas a ≤ Rows.uptoBulk x := by
  obtain ⟨fuel, hf⟩ := h
  exact he.opens hf hw
theorem weights_of {H : Type} {P : Program} {ts : List TypeId} {ds : List (DataW H)} (h : (DataW.weightsEach P ts ds).all (· ≤ reachBytes) = true) {j : Nat} {t : TypeId} {x : DataW H} (ht : ts[j]? = some t) (hd : ds[j]? = some x) : ∀ n ∈ x.weights P t, n ≤ reachBytes :=
  fun n hn => by simpa using List.all_eq_true.1 h _ (DataW.weights_mem_each ht hd n hn)
theorem CellsD.leaf {w : World} {d : D} {v : Value} (hd : d.cells = [d]) (hv : v.cells.toList = [v]) (h : CellsD w d.cells v.cells.toList) : VD w noM d v := by
  rw [hd, hv] at h
  exact h.2.2 0 d v rfl rfl
theorem CellsD.agg {w : World} {ls : List D} {cs : Array Value} (h : CellsD w (D.agg ls).cells (Value.agg cs).cells.toList) : VD w noM (.agg ls) (.agg cs) := by
  have h' : CellsD w ls cs.toList := h
  have := VD.agg (w := w) (M := noM) ls cs.toList h'.1 (fun j d hd => h'.2.1 d (List.mem_of_getElem? hd)) h'.2.2
  simpa using this
end Go.Proofs.Ytidnkaopndmigaa.V
end
section
set_option linter.unusedSimpArgs false
set_option linter.unusedVariables false
/- The argument types of the laws, opened; written by a program of this session. -/
namespace Go.Proofs.Ytidnkaopndmigaa.V
open Go.RowKit
abbrev S42 := Int × (List ByteArray) × (List ByteArray)
def enc42 (p : S42) : D := .agg (((D.int .i64) p.1).cells ++ (((fun l => D.sl (l.map D.str)) p.2.1).cells ++ ((fun l => D.sl (l.map D.str)) p.2.2).cells))
def wf42 (p : S42) : Prop := (fun a => (Lit.int .i64 a).wf = true) p.1 ∧ (wfL 16 wfStr) p.2.1 ∧ (wfL 16 wfStr) p.2.2
def meas42 (p : S42) : Nat := 1 + ((fun _ => 1) p.1 + ((measL measStr) p.2.1 + (measL measStr) p.2.2))
theorem op42 : Opn Try.prog 42 enc42 wf42 meas42 := by
  have h := Opn.struct (P := Try.prog) (t := 42) (n := 3) Try.underlying42 (by kernel_rfl) (OpnS.cons (m := 1) (n := 2) rfl (by kernel_rfl) (Opn.int Try.underlying3) (OpnS.cons (m := 1) (n := 1) rfl (by kernel_rfl) (Opn.slice (B := 16) (sz := 1) Try.underlying31 (by kernel_rfl) (fun _ => rfl) (by kernel_rfl) (Opn.string Try.underlying9)) (OpnS.last (n := 1) rfl (by kernel_rfl) (Opn.slice (B := 16) (sz := 1) Try.underlying31 (by kernel_rfl) (fun _ => rfl) (by kernel_rfl) (Opn.string Try.underlying9)))))
  exact h
abbrev S38 := (List S42)
def enc38 (p : S38) : D := .agg (((fun l => D.sl (l.map enc42)) p).cells)
def wf38 (p : S38) : Prop := (wfL 56 wf42) p
def meas38 (p : S38) : Nat := 1 + (measL meas42) p
theorem op38 : Opn Try.prog 38 enc38 wf38 meas38 := by
  have h := Opn.struct (P := Try.prog) (t := 38) (n := 1) Try.underlying38 (by kernel_rfl) (OpnS.last (n := 1) rfl (by kernel_rfl) (Opn.slice (B := 56) (sz := 3) Try.underlying36 (by kernel_rfl) (fun _ => rfl) (by kernel_rfl) op42))
  exact h
end Go.Proofs.Ytidnkaopndmigaa.V
end
section
set_option linter.unusedSimpArgs false
set_option linter.unusedVariables false
/- BlameEdited over plain values: the law answers true. -/
namespace Go.Proofs.Ytidnkaopndmigaa.V
def BlameEdited.Pure : Prop := ∀ (x0 : (List ByteArray)) (x1 : S38), (wfL 16 wfStr) x0 → wf38 x1 → Con Try.prog 7 [(fun l => D.sl (l.map D.str)) x0, enc38 x1] (.bool true)
end Go.Proofs.Ytidnkaopndmigaa.V
end
section
set_option linter.unusedSimpArgs false
set_option linter.unusedVariables false
/- Arguments of the laws as the meanings take them. -/
namespace Go.Proofs.Ytidnkaopndmigaa.F
open Go Go.Proofs.Ytidnkaopndmigaa.V

theorem strs_eq (l : List ByteArray) : D.sl (l.map D.str) = (Ty.sl .str).toD l := by rw [toD_sl]; rfl
theorem strss_eq (l : List (List ByteArray)) : D.sl (l.map fun l => D.sl (l.map D.str)) = (Ty.sl (.sl .str)).toD l := by
  rw [toD_sl]
  exact congrArg D.sl (List.map_congr_left fun r _ => strs_eq r)
abbrev t42 : Ty := .p (.int .i64) (.p (.sl .str) (.p (.sl .str) .e))
abbrev t38 : Ty := .p (.sl t42) .e
def c42 (p : S42) : Hunk := (p.1, p.2.1, p.2.2, ())
def c38 (p : S38) : List Hunk × Unit := (p.map c42, ())
theorem enc38_eq (p : S38) : enc38 p = t38.toD (c38 p) := by
  show D.agg [.sl (p.map enc42)] = D.agg [.sl ((p.map c42).map t42.toD)]
  rw [List.map_map]; rfl
end Go.Proofs.Ytidnkaopndmigaa.F
end
section
set_option linter.unusedSimpArgs false
set_option linter.unusedVariables false
/- The law BlameEdited: what its function returns. -/
namespace Go.Proofs.Ytidnkaopndmigaa.V
open Go Go.Proofs.Ytidnkaopndmigaa.F
theorem BlameEdited : BlameEdited.Pure := by
  intro x0 x1 h0 h1
  have h := changeforgelaw2_BlameEdited_7_ok (x0, c38 x1, ()) (true, ()) (Edited_eq _ _)
  show Con _ _ [D.sl (x0.map D.str), enc38 x1] _
  rw [strs_eq, enc38_eq]
  exact h
end Go.Proofs.Ytidnkaopndmigaa.V
end
