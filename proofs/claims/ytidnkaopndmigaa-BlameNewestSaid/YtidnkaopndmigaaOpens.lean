/- Arguments that came in, opened as Lean values: for a type of whole numbers, bools, strings, slices and structs of these, a reading of an argument gives a Lean value of the printed kind, with the bounds that the reading bears. -/
import Derived.Test.YtidnkaopndmigaaRows
import Derived.Test.YtidnkaopndmigaaWWords
import Derived.Deep.Slices
import Derived.SizedLaws
import Derived.ChangeSame
namespace Go.Proofs.Ytidnkaopndmigaa.Opens
open Go.ChangeShapes Go.WideShapes Go.RowKit Go.Proofs.YtidnkaopndmigaaW.PrintWords

def wfStr (s : ByteArray) : Prop := s.size ≤ 140737488351232
def wfL {α : Type} (B : Nat) (wf : α → Prop) (l : List α) : Prop := l.length ≤ 9223372036854775807 ∧ l.length * B ≤ 140737488351232 ∧ ∀ x ∈ l, wf x
def measL {α : Type} (m : α → Nat) (l : List α) : Nat := 1 + (l.map m).sum
def measStr (s : ByteArray) : Nat := s.size + 1

theorem bulk_one {H : Type} (d : DataW H) : 1 ≤ Rows.uptoBulk d := by
  cases d with
  | lit l => cases l <;> simp [Rows.uptoBulk]
  | nil => simp [Rows.uptoBulk]
  | ptr d => simp [Rows.uptoBulk]
  | slice elems spare => simp [Rows.uptoBulk]
  | agg parts => simp [Rows.uptoBulk]
  | iface t d => simp [Rows.uptoBulk]
  | map entries => simp [Rows.uptoBulk]
  | held h => simp [Rows.uptoBulk]

structure Opn {α : Type} (P : Program) (t : TypeId) (d : Kd α) (wf : α → Prop) (meas : α → Nat) : Prop where
  opens : ∀ {H : Type} {enc : TypeId × Value → H} {w : World} {base : Nat} {held : Bool} {fuel : Nat} {cs : List Value} {x : DataW H × List MemPlace},
    DataW.trod enc P w base (fun _ => true) held fuel t cs = some x → (∀ n ∈ x.1.weights P t, n ≤ reachBytes) → ∃ a, d.K w a cs ∧ wf a ∧ meas a ≤ Rows.uptoBulk x.1

theorem Opn.int {P : Program} {t : TypeId} {k : IntKind} (ht : P.underlying t = some (.int k)) : Opn P t (Kd.int k) (fun a => (Lit.int k a).wf = true) (fun _ => 1) := ⟨by
  intro H enc w base held fuel cs x h _
  obtain ⟨n, rfl, rfl, hw⟩ := DataW.trod_int ht h
  exact ⟨n, rfl, hw, bulk_one _⟩⟩
theorem Opn.bool {P : Program} {t : TypeId} (ht : P.underlying t = some .bool) : Opn P t Kd.bool (fun _ => True) (fun _ => 1) := ⟨by
  intro H enc w base held fuel cs x h _
  obtain ⟨n, rfl, rfl⟩ := DataW.trod_bool ht h
  exact ⟨n, rfl, trivial, bulk_one _⟩⟩
theorem Opn.string {P : Program} {t : TypeId} (ht : P.underlying t = some .string) : Opn P t Kd.string wfStr measStr := ⟨by
  intro H enc w base held fuel cs x h hw
  obtain ⟨s, rfl, rfl, hs⟩ := DataW.trod_string ht h
  refine ⟨s, rfl, ?_, ?_⟩
  · have := hw s.data.toList.length (by simp [DataW.weights])
    unfold wfStr
    rw [Array.length_toList] at this
    exact this
  · show s.size + 1 ≤ s.data.toList.length + 1
    rw [Array.length_toList]
    exact Nat.le_refl _⟩

theorem weightsAll_mem {H : Type} {P : Program} {e : TypeId} {d : DataW H} : ∀ {l : List (DataW H)}, d ∈ l → ∀ n ∈ d.weights P e, n ∈ DataW.weightsAll P e l
  | [], h, _, _ => by cases h
  | x :: r, h, n, hn => by
    simp only [DataW.weightsAll, List.mem_append]
    rcases List.mem_cons.1 h with rfl | h
    · exact .inl hn
    · exact .inr (weightsAll_mem h n hn)
/-- One list for all indices. -/
theorem list_of {α : Type} : ∀ {n : Nat} {p : Nat → α → Prop}, (∀ i, i < n → ∃ x, p i x) → ∃ l : List α, l.length = n ∧ ∀ i (h : i < l.length), p i l[i]
  | 0, _, _ => ⟨[], rfl, fun i h => by simp at h⟩
  | n + 1, p, h => by
    obtain ⟨l, hl, hp⟩ := list_of (n := n) (p := fun i => p (i + 1)) (fun i hi => h (i + 1) (by omega))
    obtain ⟨x, hx⟩ := h 0 (by omega)
    refine ⟨x :: l, by simp [hl], fun i hi => ?_⟩
    cases i with
    | zero => exact hx
    | succ i => exact hp i (by simpa using hi)

theorem sum_le {α H : Type} (m : α → Nat) : ∀ (l : List α) (D : Nat → DataW H) (b : Nat), (∀ i (h : i < l.length), m l[i] ≤ Rows.uptoBulk (D (b + i))) → (l.map m).sum ≤ Rows.uptoBulkAll ((List.range' b l.length).map D)
  | [], _, _, _ => by simp
  | x :: l, D, b, h => by
    have h0 := h 0 (by simp)
    have ih := sum_le m l D (b + 1) (fun i hi => by
      have := h (i + 1) (by simp; omega)
      simpa [Nat.add_assoc, Nat.add_comm 1 i] using this)
    simp only [List.map_cons, List.sum_cons, List.length_cons, List.range'_succ, Rows.uptoBulkAll]
    simp at h0
    omega

theorem Opn.slice {α : Type} {P : Program} {t e : TypeId} {d : Kd α} {wf : α → Prop} {meas : α → Nat} {B : Nat} (ht : P.underlying t = some (.slice e)) (hc : P.cellsOf e = d.sz) (hb : P.bytesOf e = B) (he : Opn P e d wf meas) :
    Opn P t (Kd.slice e d) (wfL B wf) (measL meas) := ⟨by
  intro H enc w base held fuel cs x h hw
  rcases Go.Deep.open_slice ht h with ⟨rfl, rfl⟩ | ⟨a, len, cap, m, n, D, Pl, rfl, hba, hl, hcap, hm, rfl, hx⟩
  · refine ⟨[], ⟨none, 0, rfl, Nat.le_refl _, Kd.C_nil _ _⟩, ⟨by simp, by simp, by simp⟩, by simp [measL, Rows.uptoBulk]⟩
  · simp only [if_true] at hm
    subst hm
    have each : ∀ i, i < len → ∃ y, (∃ cs', w.cells? base (a.add (i * P.cellsOf e)) (P.cellsOf e) = some cs' ∧ d.K w y cs') ∧ wf y ∧ meas y ≤ Rows.uptoBulk (D i) := by
      intro i hi
      obtain ⟨cs', h1, h2⟩ := hx i (by omega)
      obtain ⟨y, hK, hwf, hme⟩ := he.opens h2 (fun q hq => hw q (by
        simp only [DataW.weights, ht]
        exact List.mem_cons_of_mem _ (List.mem_append_left _ (weightsAll_mem (List.mem_map.2 ⟨i, List.mem_range.2 hi, rfl⟩) q hq))))
      exact ⟨y, ⟨cs', h1, hK⟩, hwf, hme⟩
    obtain ⟨l, hl1, hl2⟩ := list_of each
    have hwt := hw ((len + (m - len)) * P.bytesOf e) (by simp [DataW.weights, ht])
    refine ⟨l, ⟨some a, m, by rw [hl1], by omega, ?_⟩, ⟨?_, ?_, ?_⟩, ?_⟩
    · refine ⟨rfl, by rw [hl1]; unfold maxLen at hcap; omega, fun _ => ⟨a, rfl, fun j p hj => ?_⟩⟩
      obtain ⟨hj1, rfl⟩ := List.getElem?_eq_some_iff.1 hj
      obtain ⟨⟨cs', h1, hK⟩, _, _⟩ := hl2 j hj1
      refine ⟨cs', d.K_len hK, hK, fun i u hu => ?_⟩
      obtain ⟨_, hlen, hcell⟩ := World.cells?_some h1
      have hi : i < cs'.length := (List.getElem?_eq_some_iff.1 hu).1
      have := hcell i (by omega)
      rw [Go.Deep.add_add, hc] at this
      rw [this]
      exact hu
    · unfold maxLen at hcap
      omega
    · rw [hl1, ← hb]
      have h2 : len * P.bytesOf e ≤ (len + (m - len)) * P.bytesOf e := Nat.mul_le_mul_right _ (by omega)
      have h3 : reachBytes = 140737488351232 := rfl
      omega
    · intro y hy
      obtain ⟨i, hi, rfl⟩ := List.mem_iff_getElem.1 hy
      exact (hl2 i hi).2.1
    · have := sum_le meas l D 0 (fun i hi => by simpa using (hl2 i hi).2.2)
      rw [hl1, ← List.range_eq_range'] at this
      simp only [Rows.uptoBulk, measL]
      omega⟩
/-- The fields of a struct from one offset on. -/
structure OpnS {α : Type} (P : Program) (fs : List Field) (o n : Nat) (d : Kd α) (wf : α → Prop) (meas : α → Nat) : Prop where
  opens : ∀ {H : Type} {enc : TypeId × Value → H} {w : World} {base : Nat} {held : Bool} {fuel : Nat} {cs : List Value} {xs : List (DataW H × List MemPlace)},
    cs.length = o + n → xs.length = fs.length → (∀ (i : Nat) (f : Field), fs[i]? = some f → DataW.trod enc P w base (fun _ => true) held fuel f.type ((cs.drop f.offset).take (P.cellsOf f.type)) = xs[i]?) →
    (∀ n ∈ DataW.weightsEach P (fs.map (·.type)) (xs.map (·.1)), n ≤ reachBytes) → ∃ a, d.K w a (cs.drop o) ∧ wf a ∧ meas a ≤ Rows.uptoBulkAll (xs.map (·.1))
theorem OpnS.cons {α β : Type} {P : Program} {f : Field} {r : List Field} {o m n : Nat} {d : Kd α} {wf : α → Prop} {meas : α → Nat} {d2 : Kd β} {wf2 : β → Prop} {meas2 : β → Nat} (ho : f.offset = o) (hm : P.cellsOf f.type = m) (he : Opn P f.type d wf meas)
    (hr : OpnS P r (o + m) n d2 wf2 meas2) : OpnS P (f :: r) o (m + n) (Kd.pair d d2) (fun p => wf p.1 ∧ wf2 p.2) (fun p => meas p.1 + meas2 p.2) := ⟨by
  intro H enc w base held fuel cs xs hl hx h hw
  cases xs with
  | nil => simp at hx
  | cons y ys =>
    have h1 := h 0 f rfl
    simp only [List.getElem?_cons_zero] at h1
    rw [ho, hm] at h1
    simp only [List.map_cons, DataW.weightsEach, List.mem_append] at hw
    obtain ⟨a, hK, hwf, hme⟩ := he.opens h1 (fun q hq => hw q (.inl hq))
    obtain ⟨b, hK2, hwf2, hme2⟩ := hr.opens (cs := cs) (xs := ys) (by omega) (by simpa using hx) (fun i g hg => by simpa using h (i + 1) g (by simpa using hg)) (fun q hq => hw q (.inr hq))
    refine ⟨(a, b), ⟨_, _, ?_, hK, hK2⟩, ⟨hwf, hwf2⟩, ?_⟩
    · rw [Nat.add_comm o m, ← List.drop_drop, List.drop_drop, Nat.add_comm m o, ← List.drop_drop, List.take_append_drop]
    · simp only [List.map_cons, Rows.uptoBulkAll]
      omega⟩
theorem Opn.struct {α β : Type} {P : Program} {t : TypeId} {fs : Array Field} {n : Nat} {d : Kd α} {wf : α → Prop} {meas : α → Nat} (ht : P.underlying t = some (.struct fs)) (hn : P.cellsOf t = n) (h : OpnS P fs.toList 0 n d wf meas) (f : β → α) (g : α → β) (hfg : ∀ a, f (g a) = a) :
    Opn P t (Kd.iso d f) (fun b => wf (f b)) (fun b => 1 + meas (f b)) := ⟨by
  intro H enc w base held fuel cs x hx hw
  obtain ⟨xs, k, rfl, rfl, hl, hlen, hall⟩ := DataW.trod_struct ht hx
  obtain ⟨a, hK, hwf, hm⟩ := h.opens (cs := cs) (xs := xs) (by omega) (by simpa using hlen) (fun i g hg => hall i g (by simpa using hg)) (fun q hq => hw q (by simpa [DataW.weights, ht] using hq))
  refine ⟨g a, ?_, ?_, ?_⟩
  · show d.K w (f (g a)) cs
    rw [hfg]
    simpa using hK
  · rw [hfg]
    exact hwf
  · rw [hfg]
    simp only [Rows.uptoBulk]
    omega⟩

/-- What an argument's reading gives. -/
theorem Opn.arg {α : Type} {P : Program} {t : TypeId} {d : Kd α} {wf : α → Prop} {meas : α → Nat} (he : Opn P t d wf meas) {H : Type} {enc : TypeId × Value → H} {w : World} {base : Nat} {held : Bool} {v : Value} {x : DataW H} {ps : List MemPlace}
    (h : DataW.Trod enc P w base (fun _ => true) held t v x ps) (hw : ∀ n ∈ x.weights P t, n ≤ reachBytes) : ∃ a, d.K w a v.cells.toList ∧ wf a ∧ meas a ≤ Rows.uptoBulk x := by
  obtain ⟨fuel, hf⟩ := h
  exact he.opens hf hw
theorem weights_of {H : Type} {P : Program} {ts : List TypeId} {ds : List (DataW H)} (h : (DataW.weightsEach P ts ds).all (· ≤ reachBytes) = true) {j : Nat} {t : TypeId} {x : DataW H} (ht : ts[j]? = some t) (hd : ds[j]? = some x) : ∀ n ∈ x.weights P t, n ≤ reachBytes :=
  fun n hn => by simpa using List.all_eq_true.1 h _ (DataW.weights_mem_each ht hd n hn)
end Go.Proofs.Ytidnkaopndmigaa.Opens
