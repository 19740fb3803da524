/- Texts of ours, put together: V1, V2, V3, V4, V5, V6, V7, V8, V9, V10, V11, V12, V12R, VO. -/
import Derived.WalkKit
import Derived.Below
import Derived.Orders
import Derived.DataElems
import Derived.Laws.AppendOwn
import Derived.Laws.StructEq
import Derived.Laws.CopyRow
import Derived.Laws.Small
import Derived.Laws.MakeOwn
section
set_option linter.unusedSimpArgs false
set_option linter.unusedVariables false
/- Values without memory: what a Go value reads as ('D'), what a frame's slots are known to hold ('A'), and when memory bears it out. -/
namespace Go.Proofs.Ytidnkaopndmigaa.V
open Go.RowKit

inductive D where
  | int (k : IntKind) (n : Int)
  | bool (b : Bool)
  | str (s : ByteArray)
  | sl (xs : List D)
  | nil
  | agg (ls : List D)
  | tup (ls : List D)
instance : Inhabited D := ⟨.bool false⟩

def D.cells : D → List D
  | .agg ls => ls
  | d => [d]
def D.leaf : D → Bool
  | .agg _ | .tup _ => false
  | _ => true

abbrev Mut := Nat → Nat → Prop
/-- What a frame's callers may change, and the variables that they lent to it: number, block, type, cells. -/
structure Fr where
  m : Mut
  fx : Nat → Option (Nat × TypeId × Nat)
instance : CoeFun Fr (fun _ => Nat → Nat → Prop) := ⟨Fr.m⟩

/-- The value reads as the datum in memory outside of what may change. -/
inductive VD (w : World) (M : Mut) : D → Value → Prop
  | int (k n) : VD w M (.int k n) (.int k n)
  | bool (b) : VD w M (.bool b) (.bool b)
  | str (s) : VD w M (.str s) (.string s)
  | nil (c) : VD w M (.sl []) (.slice none 0 c)
  | nul : VD w M .nil (.slice Option.none 0 0)
  | sl (a : Addr) (cap sz : Nat) (xs : List D) (u : Nat → Nat → Value) (hcap : xs.length ≤ cap)
      (hsz : ∀ (i : Nat) x, xs[i]? = some x → x.cells.length = sz)
      (hc : ∀ (i : Nat) x (j : Nat) d, xs[i]? = some x → x.cells[j]? = some d → d.leaf = true ∧ w.cell? (a.add (i * sz + j)) = some (u i j) ∧ ¬ M a.block (a.off + (i * sz + j)))
      (hv : ∀ (i : Nat) x (j : Nat) d, xs[i]? = some x → x.cells[j]? = some d → VD w M d (u i j)) : VD w M (.sl xs) (.slice (some a) xs.length cap)
  | agg (ls : List D) (cs : List Value) (hl : cs.length = ls.length) (hleaf : ∀ (j : Nat) d, ls[j]? = some d → d.leaf = true)
      (h : ∀ (j : Nat) d v, ls[j]? = some d → cs[j]? = some v → VD w M d v) : VD w M (.agg ls) (.agg cs.toArray)
  | tup (ls : List D) (cs : List Value) (hl : cs.length = ls.length)
      (h : ∀ (j : Nat) d v, ls[j]? = some d → cs[j]? = some v → VD w M d v) : VD w M (.tup ls) (.tuple cs.toArray)

theorem add_block (a : Addr) (n : Nat) : (a.add n).block = a.block := by unfold Addr.add; split <;> rfl
theorem add_off (a : Addr) (n : Nat) : (a.add n).off = a.off + n := by unfold Addr.add; split <;> simp_all

/-- From (w, M) to (w', M') all that could not change reads as it did, and still cannot change. -/
def Keep (w : World) (M : Mut) (w' : World) (M' : Mut) : Prop := ∀ (a : Addr) u, w.cell? a = some u → ¬ M a.block a.off → w'.cell? a = some u ∧ ¬ M' a.block a.off

theorem Keep.refl (w : World) (M : Mut) : Keep w M w M := fun _ _ h h' => ⟨h, h'⟩
theorem Keep.trans {w M w' M' w'' M''} (h : Keep w M w' M') (k : Keep w' M' w'' M'') : Keep w M w'' M'' := fun a u e n => let ⟨e1, n1⟩ := h a u e n; k a u e1 n1
theorem VD.mono {w M w' M'} (hk : Keep w M w' M') {d v} (h : VD w M d v) : VD w' M' d v := by
  induction h with
  | int k n => exact .int k n
  | bool b => exact .bool b
  | str s => exact .str s
  | nil c => exact .nil c
  | nul => exact .nul
  | sl a cap sz xs u hcap hsz hc hv ih =>
    refine .sl a cap sz xs u hcap hsz (fun i x j d hx hd => ?_) ih
    obtain ⟨h1, h2, h3⟩ := hc i x j d hx hd
    have := hk (a.add (i * sz + j)) _ h2 (by rw [add_block, add_off]; exact h3)
    rw [add_block, add_off] at this
    exact ⟨h1, this⟩
  | agg ls cs hl hleaf h ih => exact .agg ls cs hl hleaf ih
  | tup ls cs hl h ih => exact .tup ls cs hl ih

def D.n0 : D → D
  | .nil => .sl []
  | d => d
/-- A slice that is nil is an empty one. -/
def D.n1 : D → D
  | .agg ls => .agg (ls.map D.n0)
  | d => d.n0
theorem VD.n0 {w M d v} (h : VD w M d v) : VD w M d.n0 v := by
  cases h <;> first | exact .nil 0 | constructor <;> assumption
theorem D.n0_leaf {d : D} (h : d.leaf = true) : d.n0.leaf = true := by cases d <;> first | rfl | exact h
theorem VD.n1 {w M d v} (h : VD w M d v) : VD w M d.n1 v := by
  cases d with
  | agg ls =>
    cases h with
    | agg _ cs hl hf hh =>
      refine .agg _ cs (by simpa using hl) (fun j d hd => ?_) (fun j d v hd hv => ?_)
      · simp only [List.getElem?_map, Option.map_eq_some_iff] at hd
        obtain ⟨d', hd', rfl⟩ := hd
        exact D.n0_leaf (hf j d' hd')
      · simp only [List.getElem?_map, Option.map_eq_some_iff] at hd
        obtain ⟨d', hd', rfl⟩ := hd
        exact (hh j d' v hd' hv).n0
  | _ => exact h.n0

inductive Loc where
  | t (n : Nat)
  | l (k j : Nat)
  deriving DecidableEq

structure Hdr where
  b : Nat
  cap : Nat
  len : Nat
  size : Nat
  e : TypeId

/-- What a slot is known to hold. row: n elements of a row of the call's own, from a cell on; want: nothing, but a row is to be made there. grow: a slice to which its holder alone may append; bor: a copy of such a slice, held elsewhere; box: the address of a cell of a variable of the call's own; cell: the address of cells that never change. -/
inductive A where
  | d (x : D)
  | nil
  | grow (e : TypeId) (sz : Nat) (xs : List D)
  | bor (l : Loc) (e : TypeId) (sz : Nat) (xs : List D)
  | box (k off : Nat)
  | cell (ls : List D)
  | unk
  | row (k : Nat) (e : TypeId) (sz o n : Nat)
  | want
  | fn (g : FuncId) (cs : List (Nat × Nat))
instance : Inhabited A := ⟨.unk⟩
def A.ofD : D → A
  | .nil => .nil
  | x => .d x

structure Pm where
  gr : Loc → Option Hdr
  bx : Nat → Option Nat

def Pm.M (p : Pm) (M0 : Fr) : Mut := fun b i => M0 b i ∨ (∃ k, p.bx k = some b) ∨ ∃ l h, p.gr l = some h ∧ h.b = b ∧ h.len * h.size ≤ i

/-- Outside of what the call may write to, w' is as w was; the streams are as they were; no block has gone. -/
structure Away (O : Nat → Nat → Prop) (w w' : World) : Prop where
  os : w'.os = w.os
  tape : w'.tape = w.tape
  output : w'.output = w.output
  size : w.heap.size ≤ w'.heap.size
  block : ∀ k, k < w.heap.size → (∀ i, ¬ O k i) → w'.heap[k]? = w.heap[k]?
  cell : ∀ (a : Addr) u, w.cell? a = some u → ¬ O a.block a.off → w'.cell? a = some u
theorem Away.refl (O : Nat → Nat → Prop) (w : World) : Away O w w := ⟨rfl, rfl, rfl, Nat.le_refl _, fun _ _ _ => rfl, fun _ _ h _ => h⟩
theorem Away.trans {O : Nat → Nat → Prop} {a b c : World} (h : Away O a b) (k : Away O b c) : Away O a c :=
  ⟨k.os.trans h.os, k.tape.trans h.tape, k.output.trans h.output, Nat.le_trans h.size k.size, fun i hi ho => (k.block i (Nat.lt_of_lt_of_le hi h.size) ho).trans (h.block i hi ho), fun x u hu ho => k.cell x u (h.cell x u hu ho) ho⟩
theorem Away.of_below {O : Nat → Nat → Prop} {w w' : World} (h : Below w.heap.size w w') : Away O w w' := ⟨h.os, h.tape, h.output, h.size, fun k hk _ => h.block k hk, fun a u hu _ => by rw [h.cell (block_lt_of_cell hu)]; exact hu⟩

structure Pm.ok (p : Pm) (B : Nat → Nat → Prop) (M0 : Fr) (w : World) : Prop where
  m0 : ∀ b i, M0 b i → ¬ B b i ∧ b < w.heap.size
  size : ∀ k, w.heap.size ≤ k → ∀ i, B k i
  bx : ∀ k b, p.bx k = some b → (∀ i, B b i) ∧ ∃ c T, w.heap[b]? = some (.cells c T (0, 0))
  gr : ∀ l h, p.gr l = some h → (∀ i, h.len * h.size ≤ i → B h.b i) ∧ h.len ≤ h.cap ∧ h.cap ≤ maxLen ∧ ∃ c, w.heap[h.b]? = some (.cells c h.e (0, 0)) ∧ c.size = h.cap * h.size
  bxi : ∀ k k' b, p.bx k = some b → p.bx k' = some b → k = k'
  gri : ∀ l l' h h', p.gr l = some h → p.gr l' = some h' → h.b = h'.b → l = l'
  dis : ∀ k b l h, p.bx k = some b → p.gr l = some h → b ≠ h.b
  fx : ∀ k b t n, M0.fx k = some (b, t, n) → 1000 ≤ k ∧ p.bx k = some b ∧ ∃ c, w.heap[b]? = some (.cells c t (0, 0)) ∧ c.size = n
/-- A variable of that number may be made. -/
def free (p : Pm) (k : Nat) : Prop := k < 1000 → p.bx k = none

def Heads (p : Pm) (l : Loc) (e : TypeId) (sz : Nat) (xs : List D) (v : Value) : Prop := (xs = [] ∧ v = .slice none 0 0) ∨ ∃ h, p.gr l = some h ∧ h.e = e ∧ h.size = sz ∧ v = .slice (some ⟨h.b, 0, none⟩) h.len h.cap ∧ h.len = xs.length ∧ ∀ (i : Nat) x, xs[i]? = some x → x.cells.length = h.size

def VA (w : World) (M : Mut) (p : Pm) (C : List Loc) (l : Loc) : A → Value → Prop
  | .d x, v => VD w M x v
  | .nil, v => v = .slice none 0 0
  | .grow e sz xs, v => VD w M (.sl xs) v ∧ (l ∉ C → Heads p l e sz xs v)
  | .bor l' e sz xs, v => VD w M (.sl xs) v ∧ (l' ∉ C → Heads p l' e sz xs v)
  | .box k off, v => ∃ b, p.bx k = some b ∧ v = .pointer (some ⟨b, off, none⟩)
  | .cell ls, v => ∃ a, v = .pointer (some a) ∧ ∀ (j : Nat) d, ls[j]? = some d → d.leaf = true ∧ ¬ M a.block (a.off + j) ∧ ∃ u, w.cell? (a.add j) = some u ∧ VD w M d u
  | .unk, _ => True
  | .want, _ => True
  | .fn g cs, v => ∃ vs : List Value, v = .func (.func g) #[] vs.toArray ∧ vs.length = cs.length ∧ ∀ (j k o : Nat), cs[j]? = some (k, o) → ∃ b, p.bx k = some b ∧ vs[j]? = some (.pointer (some ⟨b, o, none⟩))
  | .row k e sz o n, v => (n = 0 ∧ v = .slice none 0 0) ∨ ∃ b cap c, p.bx k = some b ∧ v = .slice (some ⟨b, o, none⟩) n cap ∧ n ≤ cap ∧ cap ≤ maxLen ∧ w.heap[b]? = some (.cells c e (0, 0)) ∧ o + cap * sz ≤ c.size

theorem VA.ofD {w M p C l} {d : D} {v : Value} (h : VD w M d v) : VA w M p C l (.ofD d) v := by
  cases d <;> first | exact h | (cases h; rfl)

/-- Steps of the memory that keep what the slots are known to hold: all that could not change stays, and each right that was held is still held. -/
structure Grows (w : World) (M : Mut) (p : Pm) (C : List Loc) (w' : World) (M' : Mut) (p' : Pm) (C' : List Loc) : Prop where
  keep : Keep w M w' M'
  bx : ∀ k b, p.bx k = some b → p'.bx k = some b
  gr : ∀ l h, l ∉ C' → p.gr l = some h → p'.gr l = some h
  cc : ∀ l, l ∉ C' → l ∉ C
  st : ∀ k b c t, p.bx k = some b → w.heap[b]? = some (.cells c t (0, 0)) → ∃ c', w'.heap[b]? = some (.cells c' t (0, 0)) ∧ c'.size = c.size

theorem VA.mono {w M p C w' M' p' C'} (g : Grows w M p C w' M' p' C') {l a v} (h : VA w M p C l a v) : VA w' M' p' C' l a v := by
  cases a with
  | d x => exact VD.mono g.keep h
  | nil => exact h
  | grow e sz xs =>
    refine ⟨VD.mono g.keep h.1, fun hl => ?_⟩
    rcases h.2 (g.cc _ hl) with h1 | ⟨hd, h1, h2⟩
    · exact .inl h1
    · exact .inr ⟨hd, g.gr _ _ hl h1, h2⟩
  | bor l' e sz xs =>
    refine ⟨VD.mono g.keep h.1, fun hl => ?_⟩
    rcases h.2 (g.cc _ hl) with h1 | ⟨hd, h1, h2⟩
    · exact .inl h1
    · exact .inr ⟨hd, g.gr _ _ hl h1, h2⟩
  | box k off => obtain ⟨b, h1, h2⟩ := h; exact ⟨b, g.bx _ _ h1, h2⟩
  | cell ls =>
    obtain ⟨a, h1, h2⟩ := h
    refine ⟨a, h1, fun j d hd => ?_⟩
    obtain ⟨h3, h4, u, h5, h6⟩ := h2 j d hd
    have := g.keep (a.add j) u h5 (by rw [add_block, add_off]; exact h4)
    rw [add_block, add_off] at this
    exact ⟨h3, this.2, u, this.1, VD.mono g.keep h6⟩
  | unk => trivial
  | want => trivial
  | fn f cs =>
    obtain ⟨vs, h1, h2, h3⟩ := h
    exact ⟨vs, h1, h2, fun j k o hj => let ⟨b, q1, q2⟩ := h3 j k o hj; ⟨b, g.bx _ _ q1, q2⟩⟩
  | row k e sz o n =>
    rcases h with h | ⟨b, cap, c, h1, h2, h3, h4, h5, h6⟩
    · exact .inl h
    · obtain ⟨c', h7, h8⟩ := g.st k b c e h1 h5
      exact .inr ⟨b, cap, c', g.bx _ _ h1, h2, h3, h4, h7, by omega⟩

def lk (X : List (Nat × List A)) (k : Nat) : Option (List A) :=
  match X with
  | [] => none
  | (k', ls) :: X => if k = k' then some ls else lk X k

structure Rel (B : Nat → Nat → Prop) (M0 : Fr) (p : Pm) (C : List Loc) (T : List A) (X : List (Nat × List A)) (tv : Array Value) (w : World) : Prop where
  ok : p.ok B M0 w
  len : T.length = tv.size
  tm : ∀ t a, T[t]? = some a → VA w (p.M M0) p C (.t t) a (tv.getD t undef)
  bx : ∀ k ls, lk X k = some ls → ls = [] ∨ ∃ b c e, p.bx k = some b ∧ w.heap[b]? = some (.cells c e (0, 0)) ∧ ls.length ≤ c.size ∧ ∀ j a, ls[j]? = some a → VA w (p.M M0) p C (.l k j) a (c.getD j undef)

theorem Rel.bxb {B M0 p C T X tv w} (hr : Rel B M0 p C T X tv w) {k b : Nat} {ls : List A} (hk : lk X k = some ls) (hb : p.bx k = some b) : ∃ c e, w.heap[b]? = some (.cells c e (0, 0)) ∧ ls.length ≤ c.size ∧ ∀ j a, ls[j]? = some a → VA w (p.M M0) p C (.l k j) a (c.getD j undef) := by
  rcases hr.bx k ls hk with rfl | ⟨b', c, e, h1, h2, h3, h4⟩
  · obtain ⟨_, c, e, h2⟩ := hr.ok.bx k b hb
    exact ⟨c, e, h2, by simp, fun j a h => by simp at h⟩
  · rw [hb] at h1; injection h1 with h1; subst h1
    exact ⟨c, e, h2, h3, h4⟩

end Go.Proofs.Ytidnkaopndmigaa.V
end
section
set_option linter.unusedSimpArgs false
set_option linter.unusedVariables false
/- What each operation of a Go function yields, over values without memory. -/
namespace Go.Proofs.Ytidnkaopndmigaa.V
open Go.RowKit

def aOfV : Value → Option A
  | .int k n => some (.d (.int k n))
  | .bool b => some (.d (.bool b))
  | .string s => some (.d (.str s))
  | .slice none 0 0 => some .nil
  | _ => none

def toD : A → Option D
  | .d x => some x
  | .nil => some .nil
  | .grow _ _ xs | .bor _ _ _ xs => some (.sl xs)
  | _ => none

/-- A copy of what a place holds. -/
def lend (l : Loc) : A → A
  | .grow e sz xs => .bor l e sz xs
  | a => a

def opnd (T : List A) : Operand → Option A
  | .tmp t => (T[t]?).map (lend (.t t))
  | .const v => aOfV v
  | .func f => some (.fn f [])
  | _ => none

def dlf (T : List A) (x : Operand) : Option D := (opnd T x).bind toD
def dnd (T : List A) (x : Operand) : Option D := (dlf T x).map D.n1

def szOf (P : Program) (t : TypeId) : Option Nat := (P.info? t).map (·.size)
def bytesOf (P : Program) (t : TypeId) : Option Nat := (P.info? t).map (·.bytes)
def aggOf (P : Program) (t : TypeId) : Option Bool := (P.underlying t).map fun | .struct _ | .array _ _ => true | _ => false
def elemOf (P : Program) (t : TypeId) : Option TypeId := match P.underlying t with | some (.slice e) => some e | _ => none
def strOf (P : Program) (t : TypeId) : Bool := match P.underlying t with | some .string => true | _ => false
def boolOf (P : Program) (t : TypeId) : Bool := match P.underlying t with | some .bool => true | _ => false
def intOf (P : Program) (t : TypeId) : Option IntKind := match P.underlying t with | some (.int k) => some k | _ => none
def fldOf (P : Program) (s : TypeId) (f : Nat) : Option (Nat × TypeId) := match P.underlying s with | some (.struct fs) => (fs[f]?).map fun f => (f.offset, f.type) | _ => none
def zeroOf (P : Program) (t : TypeId) : Option (List A) := ((P.info? t).bind (·.zero)).bind fun v => v.cells.toList.mapM aOfV
def zeroD (P : Program) (t : TypeId) : Option (List D) := (zeroOf P t).bind fun l => l.mapM toD

structure Eff where
  use : List Loc := []
  new : Option (List A) := none

abbrev Out := Option (Prop × A × Eff)
def yes (a : A) : Out := some (True, a, {})
def val (x : D) : Out := yes (.d x)
def valIf (c : Prop) (x : D) : Out := some (c, .d x, {})

def binD (P : Program) (op : BinOp) (t : TypeId) : D → D → Option (Prop × D)
  | .int k a, .int k' b =>
    if k = k' then match op with
    | .add => some (True, .int k (k.wrap (a + b)))
    | .sub => some (True, .int k (k.wrap (a - b)))
    | .mul => some (True, .int k (k.wrap (a * b)))
    | .quo => some (b ≠ 0, .int k (k.wrap (a.tdiv b)))
    | .rem => some (b ≠ 0, .int k (a.tmod b))
    | .eql => some (True, .bool (a == b))
    | .neq => some (True, .bool (a != b))
    | .lss => some (True, .bool (a < b))
    | .leq => some (True, .bool (a ≤ b))
    | .gtr => some (True, .bool (a > b))
    | .geq => some (True, .bool (a ≥ b))
    | _ => none
    else none
  | .str a, .str b => match op with
    | .add => some (((a.size + b.size : Nat) : Int) ≤ IntKind.i64.max, .str (a ++ b))
    | .eql => some (True, .bool (a.toList == b.toList))
    | .neq => some (True, .bool (!(a.toList == b.toList)))
    | .lss => some (True, .bool (Op.bytesLess a.toList b.toList))
    | .leq => some (True, .bool (Op.bytesLess a.toList b.toList || a.toList == b.toList))
    | .gtr => some (True, .bool (!(Op.bytesLess a.toList b.toList || a.toList == b.toList)))
    | .geq => some (True, .bool (!(Op.bytesLess a.toList b.toList)))
    | _ => none
  | .bool a, .bool b => if boolOf P t then match op with
    | .eql => some (True, .bool (a == b))
    | .neq => some (True, .bool (!(a == b)))
    | _ => none
    else none
  | _, _ => none

/-- Structs of whole numbers, bools and strings: field by field. -/
def eqOk (P : Program) (t : TypeId) : List D → List Field → Bool
  | ls, [] => true
  | ls, f :: fs => (f.name != "_") && (match ls[f.offset]? with | some (.int k _) => intOf P f.type == some k | some (.bool _) => boolOf P f.type | some (.str _) => strOf P f.type | _ => false) && (aggOf P f.type == some false) && eqOk P t ls fs
def eqL (fs : List Field) (a b : List D) : Bool :=
  match fs with
  | [] => true
  | f :: fs => (match a[f.offset]?, b[f.offset]? with | some (.int _ x), some (.int _ y) => x == y | some (.bool x), some (.bool y) => x == y | some (.str x), some (.str y) => x.toList == y.toList | _, _ => false) && eqL fs a b
def aggD (P : Program) (op : BinOp) (t : TypeId) (a b : List D) : Option D :=
  match P.underlying t with
  | some (.struct fs) => if P.stoodInHeld t = false ∧ P.eqGuardType P.depth t = false ∧ eqOk P t a fs.toList ∧ eqOk P t b fs.toList then
      match op with
      | .eql => some (.bool (eqL fs.toList a b))
      | .neq => some (.bool (!(eqL fs.toList a b)))
      | _ => none
    else none
  | _ => none

def binA (P : Program) (op : BinOp) (t : TypeId) (a b : D) : Option (Prop × D) :=
  match a, b with
  | .agg x, .agg y => (aggD P op t x y).map fun d => (True, d)
  | a, b => binD P op t a b

def unD : UnOp → D → Option D
  | .not, .bool b => some (.bool !b)
  | .neg, .int k n => some (.int k (k.wrap (0 - n)))
  | _, _ => none

/-- The leaves of a struct, its given fields laid over its zero value. -/
def fillD (P : Program) (t : TypeId) (T : List A) : List (Nat × Operand) → List D → Option (List D)
  | [], ls => some ls
  | (f, x) :: rest, ls =>
    match fldOf P t f, dlf T x with
    | some (o, ft), some d =>
      match szOf P ft with
      | some sz => if d.cells.length = sz ∧ o + sz ≤ ls.length then fillD P t T rest (ls.take o ++ d.cells ++ ls.drop (o + sz)) else none
      | none => none
    | _, _ => none

def partsD (T : List A) : Nat → List (Nat × Operand) → Option (List D)
  | _, [] => some []
  | i, (j, x) :: rest => if i = j then match dnd T x, partsD T (i + 1) rest with | some d, some l => some (d :: l) | _, _ => none else none

def loadA (P : Program) (X : List (Nat × List A)) (t : TypeId) : A → Out
  | .box k off =>
    match lk X k, aggOf P t, szOf P t with
    | some ls, some true, some sz => if off + sz ≤ ls.length then (((ls.drop off).take sz).mapM toD).bind fun ds => if ds.all D.leaf then val (.agg ds) else none else none
    | some ls, some false, _ => (ls[off]?).bind fun a => yes (lend (.l k off) a)
    | _, _, _ => none
  | .cell ls =>
    match aggOf P t, szOf P t with
    | some true, some sz => some (sz ≤ ls.length, .d (.agg (ls.take sz)), {})
    | some false, _ => match ls with | x :: _ => yes (.ofD x) | [] => none
    | _, _ => none
  | _ => none

def bnd (T : List A) (dflt : Int) : Option Operand → Option Int
  | none => some dflt
  | some x => match opnd T x with | some (.d (.int _ n)) => some n | _ => none

/-- append: the slot's own row, or nil. -/
def baseA (C : List Loc) (e : TypeId) (sz : Nat) : A → Option (List D × List Loc)
  | .nil => some ([], [])
  | .bor l e' sz' xs => if l ∈ C ∨ e' ≠ e ∨ sz' ≠ sz then none else some (xs, [l])
  | _ => none

/-- An operand that is a row of the call's own. -/
def rowOf (T : List A) (x : Operand) : Option (Nat × TypeId × Nat × Nat × Nat) := match opnd T x with | some (.row k e sz o n) => some (k, e, sz, o, n) | _ => none

/-- Variables that a function value holds. -/
def capsA (T : List A) : List Operand → Option (List (Nat × Nat))
  | [] => some []
  | x :: xs => match opnd T x, capsA T xs with
    | some (.box k o), some l => some ((k, o) :: l)
    | _, _ => none

def aval (P : Program) (T : List A) (X : List (Nat × List A)) (C : List Loc) (dst : Nat) : Op → Out
  | .move x => (opnd T x).bind yes
  | .pick c a b => match dnd T c with
    | some (.bool true) => (opnd T a).bind yes
    | some (.bool false) => (opnd T b).bind yes
    | _ => none
  | .alloc t => (zeroOf P t).bind fun ls => if dst < 1000 then some (True, .box dst 0, { new := some ls }) else none
  | .makeSlice t x y => match elemOf P t, dnd T x, dnd T y with
    | some e, some (.int _ n), some (.int _ m) => match szOf P e, bytesOf P e, zeroOf P e with
      | some sz, some by_, some zl => if zl.length = sz ∧ dst < 1000 then some (0 ≤ n ∧ m = n ∧ (by_ : Int) * n ≤ 281474976710656 ∧ n ≤ 9223372036854775807, .row dst e sz 0 n.toNat, { new := some (List.replicate n.toNat zl).flatten }) else none
      | _, _, _ => none
    | _, _, _ => none
  | .box _ x => (dlf T x).bind fun d => if d.cells.all D.leaf ∧ dst < 1000 then some (True, .box dst 0, { new := some (d.cells.map .ofD) }) else none
  | .load t x => (opnd T x).bind (loadA P X t)
  | .nilCheck x => match opnd T x with
    | some (.box k o) => yes (.box k o)
    | some (.cell ls) => yes (.cell ls)
    | _ => none
  | .fieldAddr s x f => match opnd T x, fldOf P s f with
    | some (.box k off), some (o, ft) => match szOf P ft with | some (_ + 1) => yes (.box k (off + o)) | _ => none
    | some (.cell ls), some (o, ft) => match szOf P ft with | some (_ + 1) => yes (.cell (ls.drop o)) | _ => none
    | _, _ => none
  | .indexAddr t x i => match rowOf T x with
    | some (k, _, sz', o, m) => match (elemOf P t).bind (szOf P), dnd T i with
      | some sz, some (.int _ n) => if sz = sz' then some (0 ≤ n ∧ n < m, .box k (o + n.toNat * sz), {}) else none
      | _, _ => none
    | none => match (elemOf P t).bind (szOf P), dnd T x, dnd T i with
      | some sz, some (.sl xs), some (.int _ n) => some ((0 ≤ n ∧ n < xs.length) ∧ (xs.getD n.toNat default).cells.length = sz, .cell (xs.getD n.toNat default).cells, {})
      | _, _, _ => none
  | .index t x i => match strOf P t, dnd T x, dnd T i with
    | true, some (.str s), some (.int _ n) => valIf (0 ≤ n ∧ n < s.size) (.int .u8 ((s.data.getD n.toNat 0).toNat : Int))
    | _, _, _ => none
  | .binOp op t x y _ => match dnd T x, dnd T y with
    | some a, some b => (binA P op t a b).bind fun (c, d) => valIf c d
    | _, _ => none
  | .unOp op _ x => (dnd T x).bind fun a => (unD op a).bind val
  | .convert s t x => match intOf P t, dnd T x with
    | some k, some (.int _ n) => if (P.underlying s).isSome then val (.int k (k.wrap n)) else none
    | _, _ => none
  | .makeFunc f first caps => match f with
    | .func g => if first.size = 0 then (capsA T caps.toList).bind fun cs => yes (.fn g cs) else none
    | _ => none
  | .extract x i => match dlf T x with
    | some (.tup ls) => (ls[i]?).bind fun x => yes (.ofD x)
    | _ => none
  | .field s x f => match dlf T x, fldOf P s f with
    | some (.agg ls), some (o, ft) => match aggOf P ft, szOf P ft with
      | some true, some sz => valIf (o + sz ≤ ls.length) (.agg ((ls.drop o).take sz))
      | some false, _ => (ls[o]?).bind fun x => yes (.ofD x)
      | _, _ => none
    | _, _ => none
  | .slice t x lo hi none => match rowOf T x with
    | some (k, e, sz', o, m) => match (elemOf P t).bind (szOf P), bnd T 0 lo, bnd T m hi with
      | some sz, some l, some h => if sz = sz' then some ((0 ≤ l ∧ l ≤ h ∧ h ≤ m) ∧ (l = 0 ∨ l < m), .row k e sz (o + l.toNat * sz) (h.toNat - l.toNat), {}) else none
      | _, _, _ => none
    | none => match dnd T x with
    | some (.str s) => if strOf P t then match bnd T 0 lo, bnd T s.size hi with
      | some l, some h => valIf (0 ≤ l ∧ l ≤ h ∧ h ≤ s.size) (.str (s.extract l.toNat h.toNat))
      | _, _ => none else none
    | some (.sl xs) => match (elemOf P t).bind (szOf P), bnd T 0 lo, bnd T xs.length hi with
      | some sz, some l, some h => valIf ((0 ≤ l ∧ l ≤ h ∧ h ≤ xs.length) ∧ ∀ x ∈ xs, x.cells.length = sz) (.sl ((xs.take h.toNat).drop l.toNat))
      | _, _, _ => none
    | _ => none
  | .build t parts => match P.underlying t with
    | some (.struct fs) => if (fs.toList.mapM (fun f => (szOf P f.type).map fun n => (f.offset, n))).isSome then (zeroD P t).bind fun z => (fillD P t T parts.toList z).bind fun ls => if ls.all D.leaf then val (.agg ls) else none else none
    | _ => none
  | .buildSlice t len parts => match (elemOf P t).bind (szOf P), partsD T 0 parts.toList with
    | some sz, some xs => if xs.length = len ∧ xs.all (fun x => x.cells.all D.leaf && x.cells.length == sz) ∧ len * sz ≤ 2 ^ 24 ∧ 0 < sz ∧ ((elemOf P t).bind (zeroOf P)).isSome then some (True, .grow ((elemOf P t).getD 0) sz xs, {}) else none
    | _, _ => none
  | .call c => match c.callee with
    | .builtin .len => match c.args.toList.map (rowOf T), c.argTypes.toList with
      | [some (_, _, _, _, m)], [t] => if (elemOf P t).isSome then val (.int .i64 (m : Int)) else none
      | _, _ => match c.args.toList.map (dnd T), c.argTypes.toList with
        | [some (.sl xs)], [t] => if (elemOf P t).isSome then val (.int .i64 (xs.length : Int)) else none
        | [some (.str s)], [t] => if strOf P t then val (.int .i64 (s.size : Int)) else none
        | _, _ => none
    | .builtin .max => match c.args.toList.map (dnd T) with
      | [some (.int k a), some (.int _ b)] => val (.int k (if b > a then b else a))
      | _ => none
    | .builtin .min => match c.args.toList.map (dnd T) with
      | [some (.int k a), some (.int _ b)] => val (.int k (if b < a then b else a))
      | _ => none
    | .builtin .append => match c.args.toList, c.argTypes.toList with
      | [x, y], [t, t'] => match elemOf P t with
        | some e => match szOf P e, bytesOf P e with
          | some (sz + 1), some by_ => match (opnd T x).bind (baseA C e (sz + 1)), dnd T y with
            | some (xs, use), some (.sl ys) => if t = t' ∧ ((zeroOf P e).filter fun l => l.length = sz + 1).isSome then some ((xs.length + ys.length) * by_ ≤ 140737488355328 ∧ (xs.length + ys.length) ≤ maxLen ∧ ∀ y ∈ ys, y.cells.length = sz + 1, .grow e (sz + 1) (xs ++ ys), { use := use }) else none
            | _, _ => none
          | _, _ => none
        | none => none
      | _, _ => none
    | _ => none
  | _ => none

end Go.Proofs.Ytidnkaopndmigaa.V
end
section
set_option linter.unusedSimpArgs false
set_option linter.unusedVariables false
/- The operations that leave the memory as it is: what they yield in a run is what they yield over values without memory. -/
namespace Go.Proofs.Ytidnkaopndmigaa.V
open Go.RowKit

variable {P : Program} {B : Nat → Nat → Prop} {M0 : Fr} {p : Pm} {C : List Loc} {T : List A} {X : List (Nat × List A)} {w : World}

theorem VA.lend {M : Mut} {l l' : Loc} {a : A} {v : Value} (h : VA w M p C l a v) : VA w M p C l' (lend l a) v := by
  cases a <;> exact h

theorem aOfV_va {M : Mut} {l : Loc} {x : Value} {a : A} (h : aOfV x = some a) : VA w M p C l a x := by
  unfold aOfV at h
  split at h <;> first | (injection h with h; subst h; first | exact VD.int _ _ | exact VD.bool _ | exact VD.str _ | rfl) | cases h

structure Act.of (a : Act) (tv : Array Value) : Prop where
  tmps : a.tmps = tv

theorem opnd_va {act : Act} (hr : Rel B M0 p C T X act.tmps w) {x : Operand} {a : A} (h : opnd T x = some a) {l : Loc} : VA w (p.M M0) p C l a (act.eval x) := by
  cases x with
  | tmp t =>
    simp only [opnd, Option.map_eq_some_iff] at h
    obtain ⟨a', h1, rfl⟩ := h
    exact VA.lend (hr.tm t a' h1)
  | const v => exact aOfV_va h
  | global g => cases h
  | func f =>
    simp only [opnd, Option.some.injEq] at h
    subst h
    exact ⟨[], rfl, rfl, fun j k o h => by simp at h⟩

theorem toD_vd {M : Mut} {l : Loc} {a : A} {d : D} {v : Value} (h : toD a = some d) (hv : VA w M p C l a v) : VD w M d v := by
  cases a with
  | d x => injection h with h; subst h; exact hv
  | nil => injection h with h; subst h; cases hv; exact .nul
  | grow e sz xs => injection h with h; subst h; exact hv.1
  | bor l' e sz xs => injection h with h; subst h; exact hv.1
  | box k o => cases h
  | cell ls => cases h
  | unk => cases h
  | row k e sz o n => cases h
  | want => cases h
  | fn f cs => cases h

theorem dlf_vd {act : Act} (hr : Rel B M0 p C T X act.tmps w) {x : Operand} {d : D} (h : dlf T x = some d) : VD w (p.M M0) d (act.eval x) := by
  simp only [dlf, Option.bind_eq_some_iff] at h
  obtain ⟨a, h1, h2⟩ := h
  exact toD_vd h2 (opnd_va hr h1 (l := .t 0))

theorem dnd_vd {act : Act} (hr : Rel B M0 p C T X act.tmps w) {x : Operand} {d : D} (h : dnd T x = some d) : VD w (p.M M0) d (act.eval x) := by
  simp only [dnd, Option.map_eq_some_iff] at h
  obtain ⟨d', h1, rfl⟩ := h
  exact (dlf_vd hr h1).n1

/-! What a value is that reads as a datum. -/
theorem VD.int_inv {M : Mut} {k n v} (h : VD w M (.int k n) v) : v = .int k n := by cases h; rfl
theorem VD.bool_inv {M : Mut} {b v} (h : VD w M (.bool b) v) : v = .bool b := by cases h; rfl
theorem VD.str_inv {M : Mut} {s v} (h : VD w M (.str s) v) : v = .string s := by cases h; rfl
theorem VD.agg_inv {M : Mut} {ls v} (h : VD w M (.agg ls) v) : ∃ cs : List Value, v = .agg cs.toArray ∧ cs.length = ls.length ∧ (∀ (j : Nat) d, ls[j]? = some d → d.leaf = true) ∧ ∀ (j : Nat) d v, ls[j]? = some d → cs[j]? = some v → VD w M d v := by
  cases h with | agg _ cs hl hf h => exact ⟨cs, rfl, hl, hf, h⟩
theorem VD.tup_inv {M : Mut} {ls v} (h : VD w M (.tup ls) v) : ∃ cs : List Value, v = .tuple cs.toArray ∧ cs.length = ls.length ∧ ∀ (j : Nat) d v, ls[j]? = some d → cs[j]? = some v → VD w M d v := by
  cases h with | tup _ cs hl h => exact ⟨cs, rfl, hl, h⟩

structure Done (B : Nat → Nat → Prop) (M0 : Fr) (p : Pm) (C : List Loc) (w : World) (dst : Nat) (a : A) (e : Eff) (v : Value) (w' : World) (p' : Pm) : Prop where
  ok : p'.ok B M0 w'
  gr : Grows w (p.M M0) p C w' (p'.M M0) p' (e.use ++ C)
  old : ∀ k b, p.bx k = some b → w'.heap[b]? = w.heap[b]?
  below : Away B w w'
  new : ∀ ls, e.new = some ls → ∃ b c t, p'.bx dst = some b ∧ w'.heap[b]? = some (.cells c t (0, 0)) ∧ c.size = ls.length ∧ ∀ j x, ls[j]? = some x → VA w' (p'.M M0) p' (e.use ++ C) (.l dst j) x (c.getD j undef)
  va : VA w' (p'.M M0) p' (e.use ++ C) (.t dst) a v
  only : (∀ k, k ≠ dst → p.bx k = none → p'.bx k = none) ∧ ∀ l, l ≠ .t dst → p.gr l = none → p'.gr l = none

theorem Done.pure (hr : p.ok B M0 w) {dst : Nat} {a : A} {v : Value} (h : VA w (p.M M0) p C (.t dst) a v) : Done B M0 p C w dst a {} v w p :=
  ⟨hr, ⟨Keep.refl _ _, fun _ _ h => h, fun _ _ _ h => h, fun _ h => h, fun _ _ c _ _ h => ⟨c, h, rfl⟩⟩, fun _ _ _ => rfl, Away.refl _ _, fun _ h => by simp at h, h, fun _ _ h => h, fun _ _ h => h⟩

def Runs (P : Program) (B : Nat → Nat → Prop) (M0 : Fr) (p : Pm) (C : List Loc) (w : World) (dst : Nat) (a : A) (e : Eff) (s : Sem Next) : Prop :=
  ∃ v w' p', s.run P w = .ok (.value v) w' ∧ Done B M0 p C w dst a e v w' p'

theorem Runs.pure (hr : p.ok B M0 w) {dst : Nat} {a : A} {v : Value} {s : Sem Next} (hs : s.run P w = .ok (.value v) w) (h : VA w (p.M M0) p C (.t dst) a v) : Runs P B M0 p C w dst a {} s :=
  ⟨v, w, p, hs, Done.pure hr h⟩

theorem boolOf_und {t : TypeId} (h : boolOf P t = true) : P.underlying t = some .bool := by
  unfold boolOf at h; split at h <;> simp_all
theorem strOf_und {t : TypeId} (h : strOf P t = true) : P.underlying t = some .string := by
  unfold strOf at h; split at h <;> simp_all
theorem elemOf_und {t e : TypeId} (h : elemOf P t = some e) : P.underlying t = some (.slice e) := by
  unfold elemOf at h; split at h <;> simp_all
theorem intOf_und {t : TypeId} {k : IntKind} (h : intOf P t = some k) : P.underlying t = some (.int k) := by
  unfold intOf at h; split at h <;> simp_all
theorem szOf_info {t : TypeId} {n : Nat} (h : szOf P t = some n) : ∃ i, P.info? t = some i ∧ i.size = n := by
  unfold szOf at h; simpa [Option.map_eq_some_iff] using h
theorem bytesOf_info {t : TypeId} {n : Nat} (h : bytesOf P t = some n) : ∃ i, P.info? t = some i ∧ i.bytes = n := by
  unfold bytesOf at h; simpa [Option.map_eq_some_iff] using h
theorem run_sizeOf {t : TypeId} {n : Nat} (h : szOf P t = some n) : (sizeOf t).run P w = .ok n w := by
  obtain ⟨i, h1, h2⟩ := szOf_info h
  simp [sizeOf, typeInfo, h1, h2]
theorem run_isAgg {t : TypeId} {b : Bool} (h : aggOf P t = some b) : (isAgg t).run P w = .ok b w := by
  unfold aggOf at h
  simp only [Option.map_eq_some_iff] at h
  obtain ⟨d, h1, h2⟩ := h
  unfold isAgg
  simp only [Sem.run_bind, run_underlying h1, Result.andThen_ok]
  cases d <;> simp_all
theorem fldOf_und {s : TypeId} {f o : Nat} {ft : TypeId} (h : fldOf P s f = some (o, ft)) : ∃ fs F, P.underlying s = some (.struct fs) ∧ fs[f]? = some F ∧ F.offset = o ∧ F.type = ft := by
  unfold fldOf at h
  split at h
  · rename_i fs hfs
    simp only [Option.map_eq_some_iff, Prod.mk.injEq] at h
    obtain ⟨F, h1, h2, h3⟩ := h
    exact ⟨fs, F, hfs, h1, h2, h3⟩
  · cases h

/-! Operators. -/
theorem run_quo {k : IntKind} {a b : Int} (h : b ≠ 0) : (Op.intDiv .quo k a b).run P w = .ok (.int k (k.wrap (a.tdiv b))) w := by
  unfold Op.intDiv; rw [if_neg h]; rfl
theorem run_rem {k : IntKind} {a b : Int} (h : b ≠ 0) : (Op.intDiv .rem k a b).run P w = .ok (.int k (a.tmod b)) w := by
  unfold Op.intDiv; rw [if_neg h]; rfl
theorem run_sadd {a b : ByteArray} (h : ((a.size + b.size : Nat) : Int) ≤ IntKind.i64.max) : (Op.stringOp .add a b).run P w = .ok (.string (a ++ b)) w := by
  unfold Op.stringOp; simp only []; rw [if_neg (by omega)]; rfl
theorem run_beql {t : TypeId} {a b : Bool} (hu : P.underlying t = some .bool) : (binOp .eql t (.bool a) (.bool b)).run P w = .ok (.bool (a == b)) w := by
  show Sem.run P (do let r ← Op.equal t (.bool a) (.bool b); Pure.pure (Value.bool r)) w = _
  rw [Sem.run_bind, run_equal_bool w t a b hu]; rfl
theorem run_bneq {t : TypeId} {a b : Bool} (hu : P.underlying t = some .bool) : (binOp .neq t (.bool a) (.bool b)).run P w = .ok (.bool (!(a == b))) w := by
  show Sem.run P (do let r ← Op.equal t (.bool a) (.bool b); Pure.pure (Value.bool (!r))) w = _
  rw [Sem.run_bind, run_equal_bool w t a b hu]; rfl
theorem run_guard {op : BinOp} {t : TypeId} {x y : Operand} {u v r : Value} (hg : (eqGuard op t x y u v).run P w = .ok () w) (h : (binOp op t u v).run P w = .ok r w) : (do eqGuard op t x y u v; binOp op t u v).run P w = .ok r w := by
  rw [Sem.run_bind, hg]; exact h
theorem guard_int {op : BinOp} {t : TypeId} {x y : Operand} {k k' : IntKind} {a b : Int} : (eqGuard op t x y (.int k a) (.int k' b)).run P w = .ok () w := by
  unfold eqGuard; split <;> rfl
theorem guard_str {op : BinOp} {t : TypeId} {x y : Operand} {a b : ByteArray} : (eqGuard op t x y (.string a) (.string b)).run P w = .ok () w := by
  unfold eqGuard; split <;> rfl
theorem guard_bool {op : BinOp} {t : TypeId} {x y : Operand} {a b : Bool} : (eqGuard op t x y (.bool a) (.bool b)).run P w = .ok () w := by
  unfold eqGuard; split <;> rfl
theorem bin_int {op : BinOp} {t : TypeId} {k : IntKind} {a b : Int} {d : D} {c : Prop} (h : binD P op t (.int k a) (.int k b) = some (c, d)) (hc : c) (M : Mut) : ∃ r, (binOp op t (.int k a) (.int k b)).run P w = .ok r w ∧ VD w M d r := by
  simp only [binD, if_true] at h
  cases op <;> simp only [Option.some.injEq, Prod.mk.injEq, reduceCtorEq] at h <;> obtain ⟨rfl, rfl⟩ := h
  case quo => exact ⟨_, by rw [show binOp .quo t (.int k a) (.int k b) = (if k ≠ k then stuck "BinOp: operands of different kinds" else Op.intDiv .quo k a b) from rfl, if_neg (by simp)]; exact run_quo hc, .int _ _⟩
  case rem => exact ⟨_, by rw [show binOp .rem t (.int k a) (.int k b) = (if k ≠ k then stuck "BinOp: operands of different kinds" else Op.intDiv .rem k a b) from rfl, if_neg (by simp)]; exact run_rem hc, .int _ _⟩
  all_goals first
    | exact ⟨_, by simp [binOp, Op.intArith], .int _ _⟩
    | exact ⟨_, by simp [binOp, Op.intCmp], .bool _⟩
theorem bin_str {op : BinOp} {t : TypeId} {a b : ByteArray} {d : D} {c : Prop} (h : binD P op t (.str a) (.str b) = some (c, d)) (hc : c) (M : Mut) : ∃ r, (binOp op t (.string a) (.string b)).run P w = .ok r w ∧ VD w M d r := by
  simp only [binD] at h
  cases op <;> simp only [Option.some.injEq, Prod.mk.injEq, reduceCtorEq] at h <;> obtain ⟨rfl, rfl⟩ := h
  case add => exact ⟨_, by rw [show binOp .add t (.string a) (.string b) = Op.stringOp .add a b from rfl]; exact run_sadd hc, .str _⟩
  all_goals exact ⟨_, rfl, .bool _⟩
theorem bin_bool {op : BinOp} {t : TypeId} {a b : Bool} {d : D} {c : Prop} (h : binD P op t (.bool a) (.bool b) = some (c, d)) (M : Mut) : ∃ r, (binOp op t (.bool a) (.bool b)).run P w = .ok r w ∧ VD w M d r := by
  simp only [binD] at h
  split at h
  · rename_i hk
    have hu := boolOf_und hk
    cases op <;> simp only [Option.some.injEq, Prod.mk.injEq, reduceCtorEq] at h <;> obtain ⟨rfl, rfl⟩ := h
    · exact ⟨_, run_beql hu, .bool _⟩
    · exact ⟨_, run_bneq hu, .bool _⟩
  · cases h

theorem run_part_leaf {M : Mut} {t : TypeId} {cs : List Value} {ls : List D} {o : Nat} {d : D} (ha : aggOf P t = some false) (hl : cs.length = ls.length) (h : ∀ (j : Nat) d v, ls[j]? = some d → cs[j]? = some v → VD w M d v) (hd : ls[o]? = some d) :
    ∃ v, (part t cs.toArray o).run P w = .ok v w ∧ VD w M d v := by
  have ho : o < cs.length := by rw [hl]; exact (List.getElem?_eq_some_iff.1 hd).1
  refine ⟨cs[o], ?_, h o d _ hd (List.getElem?_eq_getElem ho)⟩
  unfold part
  simp only [Sem.run_bind, run_isAgg ha, Result.andThen_ok, Bool.false_eq_true, if_false]
  simp [ho]

theorem run_eqFields {M : Mut} {t : TypeId} {a b : List D} {cs ds : List Value} (hl : cs.length = a.length) (h : ∀ (j : Nat) d v, a[j]? = some d → cs[j]? = some v → VD w M d v)
    (hl' : ds.length = b.length) (h' : ∀ (j : Nat) d v, b[j]? = some d → ds[j]? = some v → VD w M d v) (n : Nat) : ∀ fs, eqOk P t a fs = true → eqOk P t b fs = true → (Op.eqFields (n + 1) cs.toArray ds.toArray fs).run P w = .ok (eqL fs a b) w
  | [], _, _ => rfl
  | f :: fs, e, e' => by
    simp only [eqOk, Bool.and_eq_true] at e e'
    obtain ⟨⟨⟨e1, e2⟩, e3⟩, e4⟩ := e
    obtain ⟨⟨⟨_, e2'⟩, _⟩, e4'⟩ := e'
    have ih := run_eqFields hl h hl' h' n fs e4 e4'
    have e1 : f.name ≠ "_" := by simpa using e1
    have e3 : aggOf P f.type = some false := by simpa using e3
    cases ha : a[f.offset]? with
    | none => simp [ha] at e2
    | some d =>
      cases hb : b[f.offset]? with
      | none => simp [hb] at e2'
      | some d' =>
        obtain ⟨u, hu, vu⟩ := run_part_leaf (P := P) e3 hl h ha
        obtain ⟨u', hu', vu'⟩ := run_part_leaf (P := P) e3 hl' h' hb
        simp only [ha] at e2
        simp only [hb] at e2'
        simp only [Op.eqFields, eqL, ha, hb, if_pos e1, Sem.run_bind, hu, hu', Result.andThen_ok]
        cases d with
        | int k x =>
          obtain rfl := vu.int_inv
          have hk : intOf P f.type = some k := by simpa using e2
          cases d' with
          | int k' y =>
            obtain rfl := vu'.int_inv
            have hk' : intOf P f.type = some k' := by simpa using e2'
            rw [hk] at hk'; obtain rfl := Option.some.inj hk'
            rw [run_equalIn_int w n f.type k k x y (intOf_und hk)]
            simp only [Result.andThen_ok]
            cases hxy : (x == y) <;> simp [ih]
          | bool y => have := boolOf_und e2'; rw [intOf_und hk] at this; cases this
          | str y => have := strOf_und e2'; rw [intOf_und hk] at this; cases this
          | _ => simp at e2'
        | bool x =>
          obtain rfl := vu.bool_inv
          cases d' with
          | bool y =>
            obtain rfl := vu'.bool_inv
            rw [run_equalIn_bool' w n f.type x y (boolOf_und e2)]
            simp only [Result.andThen_ok]
            cases hxy : (x == y) <;> simp [ih]
          | int k y => have := intOf_und (P := P) (t := f.type) (k := k) (by simpa using e2'); rw [boolOf_und e2] at this; cases this
          | str y => have := strOf_und e2'; rw [boolOf_und e2] at this; cases this
          | _ => simp at e2'
        | str x =>
          obtain rfl := vu.str_inv
          cases d' with
          | str y =>
            obtain rfl := vu'.str_inv
            rw [run_equalIn_string w n f.type x y (strOf_und e2)]
            simp only [Result.andThen_ok]
            cases hxy : (x.toList == y.toList) <;> simp [ih]
          | int k y => have := intOf_und (P := P) (t := f.type) (k := k) (by simpa using e2'); rw [strOf_und e2] at this; cases this
          | bool y => have := boolOf_und e2'; rw [strOf_und e2] at this; cases this
          | _ => simp at e2'
        | _ => simp at e2

theorem bin_agg {op : BinOp} {t : TypeId} {x y : Operand} {a b : List D} {d : D} {M : Mut} {u v : Value} (h : aggD P op t a b = some d) (ha : VD w M (.agg a) u) (hb : VD w M (.agg b) v) :
    ∃ r, (do eqGuard op t x y u v; binOp op t u v).run P w = .ok r w ∧ VD w M d r := by
  obtain ⟨cs, rfl, hl, _, hh⟩ := ha.agg_inv
  obtain ⟨ds, rfl, hl', _, hh'⟩ := hb.agg_inv
  unfold aggD at h
  split at h
  · rename_i fs hfs
    split at h
    · rename_i hc
      obtain ⟨h1, h2, h3, h4⟩ := hc
      have hf : P.fieldsOf t = fs := by unfold Program.fieldsOf; rw [hfs]
      have he : (Op.equalIn 10000 t (.agg cs.toArray) (.agg ds.toArray)).run P w = .ok (eqL fs.toList a b) w := by
        rw [run_equalIn_agg w 9999 t _ _ (by rw [hf]; exact hfs) h1, hf]
        exact run_eqFields hl hh hl' hh' 9998 _ h3 h4
      cases op <;> simp only [Option.some.injEq, reduceCtorEq] at h <;> subst h
      · exact ⟨_, run_guard (run_eqGuard_agg w _ t x y _ _ h2) (by rw [run_eql_struct, he]; rfl), .bool _⟩
      · exact ⟨_, run_guard (run_eqGuard_agg w _ t x y _ _ h2) (by rw [run_neq_struct, he]; rfl), .bool _⟩
    · cases h
  · cases h

theorem run_binA {op : BinOp} {t : TypeId} {x y : Operand} {a b d : D} {c : Prop} {M : Mut} {u v : Value} (h : binA P op t a b = some (c, d)) (hc : c) (ha : VD w M a u) (hb : VD w M b v) :
    ∃ r, (do eqGuard op t x y u v; binOp op t u v).run P w = .ok r w ∧ VD w M d r := by
  unfold binA at h
  split at h
  · simp only [Option.map_eq_some_iff, Prod.mk.injEq] at h
    obtain ⟨d', h1, _, rfl⟩ := h
    exact bin_agg h1 ha hb
  · cases a with
    | int k a =>
      cases b with
      | int k' b =>
        have hk : k = k' := by apply Classical.byContradiction; intro hk; simp [binD, hk] at h
        subst hk
        obtain rfl := ha.int_inv; obtain rfl := hb.int_inv
        obtain ⟨r, h1, h2⟩ := bin_int (w := w) h hc M
        exact ⟨r, run_guard guard_int h1, h2⟩
      | _ => simp [binD] at h
    | str a =>
      cases b with
      | str b =>
        obtain rfl := ha.str_inv; obtain rfl := hb.str_inv
        obtain ⟨r, h1, h2⟩ := bin_str (w := w) h hc M
        exact ⟨r, run_guard guard_str h1, h2⟩
      | _ => simp [binD] at h
    | bool a =>
      cases b with
      | bool b =>
        obtain rfl := ha.bool_inv; obtain rfl := hb.bool_inv
        obtain ⟨r, h1, h2⟩ := bin_bool (w := w) h M
        exact ⟨r, run_guard guard_bool h1, h2⟩
      | _ => simp [binD] at h
    | _ => simp [binD] at h

theorem run_unD {op : UnOp} {a d : D} {M : Mut} {u : Value} (h : unD op a = some d) (ha : VD w M a u) :
    ∃ r, (Op.unary op u).run P w = .ok r w ∧ VD w M d r := by
  cases a with
  | bool b => obtain rfl := ha.bool_inv; cases op <;> simp only [unD, Option.some.injEq, reduceCtorEq] at h <;> subst h; exact ⟨_, by simp [Op.unary], .bool _⟩
  | int k n => obtain rfl := ha.int_inv; cases op <;> simp only [unD, Option.some.injEq, reduceCtorEq] at h <;> subst h; exact ⟨_, by simp [Op.unary, Op.intArith], .int _ _⟩
  | _ => cases op <;> simp [unD] at h

end Go.Proofs.Ytidnkaopndmigaa.V
end
section
set_option linter.unusedSimpArgs false
set_option linter.unusedVariables false
/- Each operation of a region: what it yields in a run is what it yields over values without memory. -/
namespace Go.Proofs.Ytidnkaopndmigaa.V
open Go.RowKit

variable {P : Program} {B : Nat → Nat → Prop} {M0 : Fr} {p : Pm} {C : List Loc} {T : List A} {X : List (Nat × List A)} {w : World}

theorem run_v {s : Sem Value} {v : Value} {w' : World} (h : s.run P w = .ok v w') : (do pure (Next.value (← s)) : Sem Next).run P w = .ok (.value v) w' := by
  rw [Sem.run_bind, h]; rfl

theorem run_asIntOf (k : IntKind) (n : Int) : (asIntOf (.int k n)).run P w = .ok (k, n) w := rfl

theorem run_sliceBound {k : IntKind} {n : Int} {y : Nat} {code : BoundsCode} (h0 : 0 ≤ n) (h1 : n ≤ y) : (Instr.sliceBound (.int k n) y code).run P w = .ok n.toNat w := by
  unfold Instr.sliceBound
  simp only [Sem.run_bind, run_asIntOf, Result.andThen_ok]
  rw [if_pos ⟨h0, h1⟩]; rfl

theorem run_bounds {sl : Bool} {len cap : Nat} {lo hi : Option Value} {l h : Int} (hl : match lo with | none => l = 0 | some v => ∃ k, v = .int k l) (hh : match hi with | none => h = len | some v => ∃ k, v = .int k h)
    (h0 : 0 ≤ l) (h1 : l ≤ h) (h2 : h ≤ len) (h3 : len ≤ cap) : (Instr.sliceBounds sl len cap lo hi none).run P w = .ok (l.toNat, h.toNat, cap) w := by
  unfold Instr.sliceBounds
  have hhc : h ≤ (cap : Int) := by omega
  have h0' : (0 : Int) ≤ h := by omega
  cases hi with
  | none =>
    simp only at hh
    subst hh
    cases lo with
    | none => simp only at hl; subst hl; simp
    | some v => obtain ⟨k, rfl⟩ := hl; simp [run_sliceBound h0 h1]
  | some v =>
    obtain ⟨k, rfl⟩ := hh
    cases lo with
    | none => simp only at hl; subst hl; simp [run_sliceBound h0' hhc]
    | some v => 
      obtain ⟨k', rfl⟩ := hl
      have h1' : l ≤ (h.toNat : Int) := by omega
      simp [run_sliceBound h0' hhc, run_sliceBound h0 h1']

theorem bnd_rel {act : Act} (hr : Rel B M0 p C T X act.tmps w) {d l : Int} {x : Option Operand} (h : bnd T d x = some l) : match x.map act.eval with | none => l = d | some v => ∃ k, v = .int k l := by
  cases x with
  | none => injection h with h; exact h.symm
  | some x =>
    simp only [bnd] at h
    split at h
    · rename_i k n hx
      injection h with h; subst h
      exact ⟨k, VD.int_inv (opnd_va hr hx (l := .t 0))⟩
    · cases h

theorem VD.cell_of {M : Mut} {xs : List D} {v : Value} (h : VD w M (.sl xs) v) : (v = .slice none 0 v.cells.size ∧ False) ∨ True := .inr trivial

/-- What a slice that reads as xs is. -/
theorem VD.sl_inv {M : Mut} {xs : List D} {v : Value} (h : VD w M (.sl xs) v) : (xs = [] ∧ ∃ c, v = .slice none 0 c) ∨
    ∃ (a : Addr) (cap sz : Nat) (u : Nat → Nat → Value), v = .slice (some a) xs.length cap ∧ xs.length ≤ cap ∧ (∀ (i : Nat) x, xs[i]? = some x → x.cells.length = sz) ∧
      ∀ (i : Nat) x (j : Nat) d, xs[i]? = some x → x.cells[j]? = some d → d.leaf = true ∧ w.cell? (a.add (i * sz + j)) = some (u i j) ∧ ¬ M a.block (a.off + (i * sz + j)) ∧ VD w M d (u i j) := by
  cases h with
  | nil c => exact .inl ⟨rfl, c, rfl⟩
  | sl a cap sz _ u h1 h2 h3 h4 => exact .inr ⟨a, cap, sz, u, rfl, h1, h2, fun i x j d hx hd => ⟨(h3 i x j d hx hd).1, (h3 i x j d hx hd).2.1, (h3 i x j d hx hd).2.2, h4 i x j d hx hd⟩⟩

theorem VD.sl_mk {M : Mut} {xs : List D} (a : Addr) (cap sz : Nat) (u : Nat → Nat → Value) (hcap : xs.length ≤ cap) (hsz : ∀ (i : Nat) x, xs[i]? = some x → x.cells.length = sz)
    (h : ∀ (i : Nat) x (j : Nat) d, xs[i]? = some x → x.cells[j]? = some d → d.leaf = true ∧ w.cell? (a.add (i * sz + j)) = some (u i j) ∧ ¬ M a.block (a.off + (i * sz + j)) ∧ VD w M d (u i j)) {n : Nat} (hn : n = xs.length) : VD w M (.sl xs) (.slice (some a) n cap) := by
  subst hn
  exact .sl a cap sz xs u hcap hsz (fun i x j d hx hd => ⟨(h i x j d hx hd).1, (h i x j d hx hd).2.1, (h i x j d hx hd).2.2.1⟩) (fun i x j d hx hd => (h i x j d hx hd).2.2.2)

theorem rowOf_va {act : Act} (hr : Rel B M0 p C T X act.tmps w) {x : Operand} {k : Nat} {e : TypeId} {sz o n : Nat} (h : rowOf T x = some (k, e, sz, o, n)) : VA w (p.M M0) p C (.t 0) (.row k e sz o n) (act.eval x) := by
  unfold rowOf at h
  split at h
  · rename_i h1
    simp only [Option.some.injEq, Prod.mk.injEq] at h
    obtain ⟨rfl, rfl, rfl, rfl, rfl⟩ := h
    exact opnd_va hr h1
  · cases h

theorem sound_indexAddr {act : Act} (hr : Rel B M0 p C T X act.tmps w) {dst : Nat} {t : TypeId} {x i : Operand} {c : Prop} {a : A} {e : Eff} (ha : aval P T X C dst (.indexAddr t x i) = some (c, a, e)) (hc : c) :
    ∃ v, (Instr.indexAt t (act.eval x) (act.eval i)).run P w = .ok v w ∧ VA w (p.M M0) p C (.t dst) a v ∧ e = {} := by
  simp only [aval] at ha
  split at ha
  · rename_i k e' sz' o m h0
    split at ha
    · rename_i sz kk n h1 h2
      split at ha
      · rename_i hss
        subst hss
        simp only [Option.some.injEq, Prod.mk.injEq] at ha
        obtain ⟨rfl, rfl, rfl⟩ := ha
        obtain ⟨h4, h5⟩ := hc
        rw [VD.int_inv (dnd_vd hr h2)]
        simp only [Option.bind_eq_some_iff] at h1
        obtain ⟨el, he, hs⟩ := h1
        rcases rowOf_va hr h0 with ⟨hm, _⟩ | ⟨b, cap, c, q1, q2, q3, q4, q5, q6⟩
        · omega
        · rw [q2]
          refine ⟨.pointer (some ⟨b, o + n.toNat * sz, none⟩), ?_, ⟨b, q1, rfl⟩, rfl⟩
          unfold Instr.indexAt
          simp only [Sem.run_bind, run_asIntOf, Result.andThen_ok, run_underlying (elemOf_und he), Sem.run_pure]
          rw [if_pos ⟨h4, h5⟩]
          simp only [Sem.run_bind, run_sizeOf hs, Result.andThen_ok, Sem.run_pure, Addr.add_lit]
      · cases ha
    · cases ha
  split at ha
  · rename_i sz xs k n h1 h2 h3
    simp only [Option.some.injEq, Prod.mk.injEq] at ha
    obtain ⟨rfl, rfl, rfl⟩ := ha
    obtain ⟨⟨h4, h5⟩, h6⟩ := hc
    rw [VD.int_inv (dnd_vd hr h3)]
    simp only [Option.bind_eq_some_iff] at h1
    obtain ⟨el, he, hs⟩ := h1
    have hn : n.toNat < xs.length := by omega
    have hx : xs[n.toNat]? = some (xs.getD n.toNat default) := by simp [List.getD, List.getElem?_eq_getElem hn]
    rcases VD.sl_inv (dnd_vd hr h2) with ⟨rfl, _⟩ | ⟨ad, cap, sz', u, hv, hcap, hsz, hcell⟩
    · simp at hn
    · rw [hv]
      have hss : sz' = sz := by rw [← hsz _ _ hx]; exact h6
      subst hss
      refine ⟨.pointer (some (ad.add (n.toNat * sz'))), ?_, ⟨_, rfl, fun j d hd => ?_⟩, rfl⟩
      · unfold Instr.indexAt
        simp only [Sem.run_bind, run_asIntOf, Result.andThen_ok, run_underlying (elemOf_und he), Sem.run_pure]
        rw [if_pos ⟨h4, h5⟩]
        simp only [Sem.run_bind, run_sizeOf hs, Result.andThen_ok, Sem.run_pure]
      · obtain ⟨q1, q2, q3, q4⟩ := hcell _ _ j d hx hd
        rw [add_block, add_off, Addr.add_add, Nat.add_assoc]
        exact ⟨q1, q3, _, q2, q4⟩
  · cases ha

theorem sound_index {act : Act} (hr : Rel B M0 p C T X act.tmps w) {dst : Nat} {t : TypeId} {x i : Operand} {c : Prop} {a : A} {e : Eff} (ha : aval P T X C dst (.index t x i) = some (c, a, e)) (hc : c) :
    ∃ v, (Instr.index t (act.eval x) (act.eval i)).run P w = .ok v w ∧ VA w (p.M M0) p C (.t dst) a v ∧ e = {} := by
  simp only [aval] at ha
  split at ha
  · rename_i s k n h1 h2 h3
    simp only [valIf, Option.some.injEq, Prod.mk.injEq] at ha
    obtain ⟨rfl, rfl, rfl⟩ := ha
    obtain ⟨h4, h5⟩ := hc
    rw [VD.int_inv (dnd_vd hr h3), VD.str_inv (dnd_vd hr h2)]
    refine ⟨_, ?_, .int _ _, rfl⟩
    unfold Instr.index
    simp only [Sem.run_bind, run_asIntOf, Result.andThen_ok, run_underlying (strOf_und h1), if_pos h4]
    have hn : n.toNat < s.data.size := by have : s.size = s.data.size := rfl; omega
    have hs : s[n.toNat]? = some (s.data.getD n.toNat 0) := by
      have h6 : n.toNat < s.size := hn
      rw [getElem?_pos s n.toNat h6]
      simp only [Array.getD, dif_pos hn]
      rfl
    rw [hs]; rfl
  · cases ha

theorem sound_slice {act : Act} (hr : Rel B M0 p C T X act.tmps w) {dst : Nat} {t : TypeId} {x : Operand} {lo hi : Option Operand} {c : Prop} {a : A} {e : Eff} (ha : aval P T X C dst (.slice t x lo hi none) = some (c, a, e)) (hc : c) :
    ∃ v, (Instr.sliceAt t (act.eval x) (lo.map act.eval) (hi.map act.eval) none).run P w = .ok v w ∧ VA w (p.M M0) p C (.t dst) a v ∧ e = {} := by
  simp only [aval] at ha
  split at ha
  · rename_i k e' sz' o m h0
    split at ha
    · rename_i sz l h h1 hl hh
      split at ha
      · rename_i hss
        subst hss
        simp only [Option.some.injEq, Prod.mk.injEq] at ha
        obtain ⟨rfl, rfl, rfl⟩ := ha
        obtain ⟨⟨g0, g2, g3⟩, g4⟩ := hc
        simp only [Option.bind_eq_some_iff] at h1
        obtain ⟨el, he, hsz⟩ := h1
        rcases rowOf_va hr h0 with ⟨hm, hv⟩ | ⟨b, cap, c, q1, q2, q3, q4, q5, q6⟩
        · have hh0 : h = 0 := by omega
          have hl0 : l = 0 := by omega
          subst hh0; subst hl0; subst hm
          rw [hv]
          refine ⟨.slice none 0 0, ?_, .inl ⟨rfl, rfl⟩, rfl⟩
          unfold Instr.sliceAt
          simp only [Sem.run_bind, run_underlying (elemOf_und he), Result.andThen_ok]
          unfold Instr.slice
          simp only [Sem.run_bind, run_underlying (elemOf_und he), Result.andThen_ok]
          rw [run_bounds (len := 0) (bnd_rel hr hl) (bnd_rel hr hh) g0 g2 (by simp) (Nat.zero_le _)]
          simp [run_sizeOf hsz]
        · rw [q2]
          refine ⟨.slice (some (if cap = l.toNat then ⟨b, o, none⟩ else (Addr.mk b o none).add (l.toNat * sz))) (h.toNat - l.toNat) (cap - l.toNat), ?_, ?_, rfl⟩
          · unfold Instr.sliceAt
            simp only [Sem.run_bind, run_underlying (elemOf_und he), Result.andThen_ok]
            unfold Instr.slice
            simp only [Sem.run_bind, run_underlying (elemOf_und he), Result.andThen_ok]
            rw [run_bounds (bnd_rel hr hl) (bnd_rel hr hh) g0 g2 (by omega) q3]
            simp only [Result.andThen_ok, run_sizeOf hsz, Sem.run_pure]
            congr 2
            split <;> rfl
          · have ha : (if cap = l.toNat then (⟨b, o, none⟩ : Addr) else (Addr.mk b o none).add (l.toNat * sz)) = ⟨b, o + l.toNat * sz, none⟩ := by
              split
              · rename_i hcl
                have : l.toNat = 0 := by omega
                rw [this]; simp
              · rw [Addr.add_lit]
            rw [ha]
            refine .inr ⟨b, cap - l.toNat, c, q1, rfl, by omega, by omega, q5, ?_⟩
            have : l.toNat * sz + (cap - l.toNat) * sz = cap * sz := by rw [← Nat.add_mul]; congr 1; omega
            omega
      · cases ha
    · cases ha
  split at ha
  · rename_i s hs
    split at ha
    · rename_i hstr
      split at ha
      · rename_i l h hl hh
        simp only [valIf, Option.some.injEq, Prod.mk.injEq] at ha
        obtain ⟨rfl, rfl, rfl⟩ := ha
        obtain ⟨h0, h1, h2⟩ := hc
        rw [VD.str_inv (dnd_vd hr hs)]
        refine ⟨_, ?_, .str _, rfl⟩
        unfold Instr.sliceAt
        simp only [Sem.run_bind, run_underlying (strOf_und hstr), Result.andThen_ok]
        unfold Instr.slice
        simp only [Sem.run_bind, run_underlying (strOf_und hstr), Result.andThen_ok, Option.isSome_none, Bool.false_eq_true, if_false, Sem.run_pure]
        rw [run_bounds (bnd_rel hr hl) (bnd_rel hr hh) h0 h1 h2 (Nat.le_refl _)]
        rfl
      · cases ha
    · cases ha
  · rename_i xs hs
    split at ha
    · rename_i sz l h h1 hl hh
      simp only [valIf, Option.some.injEq, Prod.mk.injEq] at ha
      obtain ⟨rfl, rfl, rfl⟩ := ha
      obtain ⟨⟨h0, h2, h3⟩, h4⟩ := hc
      simp only [Option.bind_eq_some_iff] at h1
      obtain ⟨el, he, hsz⟩ := h1
      rcases VD.sl_inv (dnd_vd hr hs) with ⟨rfl, cap, hv⟩ | ⟨ad, cap, sz', u, hv, hcap, hsz', hcell⟩
      · rw [hv]
        have hh0 : h = 0 := by simp at h3; omega
        have hl0 : l = 0 := by omega
        subst hh0; subst hl0
        refine ⟨.slice none 0 cap, ?_, (by simp only [List.take_nil, List.drop_nil]; exact VD.nil cap), rfl⟩
        unfold Instr.sliceAt
        simp only [Sem.run_bind, run_underlying (elemOf_und he), Result.andThen_ok]
        unfold Instr.slice
        simp only [Sem.run_bind, run_underlying (elemOf_und he), Result.andThen_ok]
        rw [run_bounds (len := 0) (bnd_rel hr hl) (bnd_rel hr hh) h0 h2 (by simp) (Nat.zero_le _)]
        simp [run_sizeOf hsz]
      · rw [hv]
        refine ⟨.slice (some (if cap = l.toNat then ad else ad.add (l.toNat * sz))) (h.toNat - l.toNat) (cap - l.toNat), ?_, ?_, rfl⟩
        · unfold Instr.sliceAt
          simp only [Sem.run_bind, run_underlying (elemOf_und he), Result.andThen_ok]
          unfold Instr.slice
          simp only [Sem.run_bind, run_underlying (elemOf_und he), Result.andThen_ok]
          rw [run_bounds (bnd_rel hr hl) (bnd_rel hr hh) h0 h2 (by omega) hcap]
          simp only [Result.andThen_ok, run_sizeOf hsz, Sem.run_pure]
          congr 2
          split <;> rfl
        · have hlen : h.toNat - l.toNat = ((xs.take h.toNat).drop l.toNat).length := by simp; omega
          by_cases hm : cap = l.toNat
          · rw [if_pos hm]
            have hnil : (xs.take h.toNat).drop l.toNat = [] := List.eq_nil_of_length_eq_zero (by rw [← hlen]; omega)
            rw [hnil] at hlen ⊢
            exact VD.sl_mk ad _ 0 (fun _ _ => .bool false) (by simp) (by simp) (by simp) hlen
          · rw [if_neg hm]
            refine VD.sl_mk _ _ sz (fun i j => u (i + l.toNat) j) (by rw [← hlen]; omega) (fun i x hx => ?_) (fun i x j d hx hd => ?_) hlen
            · rw [List.getElem?_drop, List.getElem?_take] at hx
              split at hx
              · exact h4 x (List.mem_of_getElem? hx)
              · cases hx
            · rw [List.getElem?_drop, List.getElem?_take] at hx
              split at hx
              · have hss : sz' = sz := by rw [← hsz' _ _ hx]; exact h4 x (List.mem_of_getElem? hx)
                subst hss
                obtain ⟨q1, q2, q3, q4⟩ := hcell _ _ j d hx hd
                have hadd : l.toNat * sz' + (i * sz' + j) = (l.toNat + i) * sz' + j := by rw [Nat.add_mul]; omega
                rw [add_block, add_off, Addr.add_add, Nat.add_assoc, hadd, Nat.add_comm i]
                exact ⟨q1, q2, q3, q4⟩
              · cases hx
    · cases ha
  · cases ha

end Go.Proofs.Ytidnkaopndmigaa.V
end
section
set_option linter.unusedSimpArgs false
set_option linter.unusedVariables false
/- Loads, fields and builds: what they yield in a run is what they yield over values without memory. -/
namespace Go.Proofs.Ytidnkaopndmigaa.V
open Go.RowKit

variable {P : Program} {B : Nat → Nat → Prop} {M0 : Fr} {p : Pm} {C : List Loc} {T : List A} {X : List (Nat × List A)} {w : World}

theorem run_part_agg {M : Mut} {t : TypeId} {cs : List Value} {ls : List D} {o sz : Nat} (ha : aggOf P t = some true) (hs : szOf P t = some sz) (hl : cs.length = ls.length) (hf : ∀ (j : Nat) d, ls[j]? = some d → d.leaf = true)
    (h : ∀ (j : Nat) d v, ls[j]? = some d → cs[j]? = some v → VD w M d v) (ho : o + sz ≤ ls.length) :
    ∃ v, (part t cs.toArray o).run P w = .ok v w ∧ VD w M (.agg ((ls.drop o).take sz)) v := by
  refine ⟨.agg ((cs.drop o).take sz).toArray, ?_, .agg _ _ (by simp [hl]) (fun j d hd => ?_) (fun j d v hd hv => ?_)⟩
  · unfold part
    simp only [Sem.run_bind, run_isAgg ha, Result.andThen_ok, if_true, run_sizeOf hs, Sem.run_pure]
    congr 2
    apply Array.ext'
    simp
  · rw [List.getElem?_take] at hd
    split at hd
    · rw [List.getElem?_drop] at hd; exact hf _ _ hd
    · cases hd
  · rw [List.getElem?_take] at hd hv
    split at hd
    · rename_i hj
      rw [if_pos hj, List.getElem?_drop] at hv
      rw [List.getElem?_drop] at hd
      exact h _ _ _ hd hv
    · cases hd

theorem sound_field {act : Act} (hr : Rel B M0 p C T X act.tmps w) {dst : Nat} {s : TypeId} {x : Operand} {f : Nat} {c : Prop} {a : A} {e : Eff} (ha : aval P T X C dst (.field s x f) = some (c, a, e)) (hc : c) :
    ∃ v, (Instr.field s (act.eval x) f).run P w = .ok v w ∧ VA w (p.M M0) p C (.t dst) a v ∧ e = {} := by
  simp only [aval] at ha
  split at ha
  · rename_i ls o ft h1 h2
    obtain ⟨fs, F, hu, hF, rfl, rfl⟩ := fldOf_und h2
    obtain ⟨cs, hv, hl, hf, hh⟩ := (dlf_vd hr h1).agg_inv
    rw [hv]
    unfold Instr.field
    simp only [Sem.run_bind, run_underlying hu, Result.andThen_ok, hF]
    split at ha
    · rename_i sz hag hsz
      simp only [valIf, Option.some.injEq, Prod.mk.injEq] at ha
      obtain ⟨rfl, rfl, rfl⟩ := ha
      obtain ⟨v, h3, h4⟩ := run_part_agg (P := P) hag hsz hl hf hh hc
      exact ⟨v, by simp [asAgg, h3], h4, rfl⟩
    · rename_i hag
      simp only [yes, Option.bind_eq_some_iff, Option.some.injEq, Prod.mk.injEq] at ha
      obtain ⟨d, hd, rfl, rfl, rfl⟩ := ha
      obtain ⟨v, h3, h4⟩ := run_part_leaf (P := P) hag hl hh hd
      exact ⟨v, by simp [asAgg, h3], VA.ofD h4, rfl⟩
    · cases ha
  · cases ha

theorem sound_extract {act : Act} (hr : Rel B M0 p C T X act.tmps w) {dst : Nat} {x : Operand} {i : Nat} {c : Prop} {a : A} {e : Eff} (ha : aval P T X C dst (.extract x i) = some (c, a, e)) :
    ∃ v, (Instr.extract (act.eval x) i).run P w = .ok v w ∧ VA w (p.M M0) p C (.t dst) a v ∧ e = {} := by
  simp only [aval] at ha
  split at ha
  · rename_i ls h1
    simp only [yes, Option.bind_eq_some_iff, Option.some.injEq, Prod.mk.injEq] at ha
    obtain ⟨d, hd, rfl, rfl, rfl⟩ := ha
    obtain ⟨cs, hv, hl, hh⟩ := (dlf_vd hr h1).tup_inv
    rw [hv]
    have hi : i < cs.length := by rw [hl]; exact (List.getElem?_eq_some_iff.1 hd).1
    refine ⟨cs[i], ?_, VA.ofD (hh i d _ hd (List.getElem?_eq_getElem hi)), rfl⟩
    unfold Instr.extract
    simp [hi]
  · cases ha

theorem sound_fieldAddr {act : Act} (hr : Rel B M0 p C T X act.tmps w) {dst : Nat} {s : TypeId} {x : Operand} {f : Nat} {c : Prop} {a : A} {e : Eff} (ha : aval P T X C dst (.fieldAddr s x f) = some (c, a, e)) :
    ∃ v, (Instr.fieldAt s (act.eval x) f).run P w = .ok v w ∧ VA w (p.M M0) p C (.t dst) a v ∧ e = {} := by
  simp only [aval] at ha
  have key : ∀ {o ft n ad}, fldOf P s f = some (o, ft) → szOf P ft = some (n + 1) → act.eval x = .pointer (some ad) → (Instr.fieldAt s (act.eval x) f).run P w = .ok (.pointer (some (ad.add o))) w := by
    intro o ft n ad h2 hsz hv
    obtain ⟨fs, F, hu, hF, rfl, rfl⟩ := fldOf_und h2
    rw [hv]
    unfold Instr.fieldAt
    simp only [Sem.run_bind, run_underlying hu, Result.andThen_ok, hF]
    simp [Instr.sureAddr, fieldPlace, run_sizeOf hsz]
  split at ha
  · rename_i k off o ft h1 h2
    split at ha
    · rename_i n hsz
      simp only [yes, Option.some.injEq, Prod.mk.injEq] at ha
      obtain ⟨rfl, rfl, rfl⟩ := ha
      obtain ⟨b, hb, hv⟩ := opnd_va hr h1 (l := .t 0)
      exact ⟨_, key h2 hsz hv, ⟨b, hb, by rw [Addr.add_lit]⟩, rfl⟩
    · cases ha
  · rename_i ls o ft h1 h2
    split at ha
    · rename_i n hsz
      simp only [yes, Option.some.injEq, Prod.mk.injEq] at ha
      obtain ⟨rfl, rfl, rfl⟩ := ha
      obtain ⟨ad, hv, hh⟩ := opnd_va hr h1 (l := .t 0)
      refine ⟨_, key h2 hsz hv, ⟨_, rfl, fun j d hd => ?_⟩, rfl⟩
      rw [List.getElem?_drop] at hd
      obtain ⟨q1, q2, u, q3, q4⟩ := hh _ _ hd
      rw [add_block, add_off, Addr.add_add, Nat.add_assoc]
      exact ⟨q1, q2, u, q3, q4⟩
    · cases ha
  · cases ha

theorem mapM_toD {ls : List A} {ds : List D} (h : ls.mapM toD = some ds) : ds.length = ls.length ∧ ∀ (j : Nat) d, ds[j]? = some d → ∃ a, ls[j]? = some a ∧ toD a = some d := by
  induction ls generalizing ds with
  | nil => simp at h; subst h; simp
  | cons a ls ih =>
    simp only [List.mapM_cons, Option.bind_eq_bind, Option.bind_eq_some_iff, Option.pure_def, Option.some.injEq] at h
    obtain ⟨d, hd, ds', hds, rfl⟩ := h
    obtain ⟨h1, h2⟩ := ih hds
    refine ⟨by simp [h1], fun j d' hd' => ?_⟩
    cases j with
    | zero => simp at hd'; subst hd'; exact ⟨a, rfl, hd⟩
    | succ j => simp at hd'; simpa using h2 j d' hd'

theorem run_loadVar_cells {t : TypeId} {ad : Addr} {cs : List Value} (ha : aggOf P t = some true) (hs : szOf P t = some cs.length) (h : ∀ (j : Nat) v, cs[j]? = some v → w.cell? (ad.add j) = some v) : (loadVar t ad).run P w = .ok (.agg cs.toArray) w := by
  unfold loadVar
  simp only [Sem.run_bind, run_isAgg ha, Result.andThen_ok, if_true, run_sizeOf hs, run_loadCells_list w ad cs h, Sem.run_pure]

theorem run_loadVar_cell {t : TypeId} {ad : Addr} {v : Value} (ha : aggOf P t = some false) (h : w.cell? ad = some v) : (loadVar t ad).run P w = .ok v w := by
  unfold loadVar
  simp only [Sem.run_bind, run_isAgg ha, Result.andThen_ok, Bool.false_eq_true, if_false]
  simp [run_load, h]

theorem run_loadAt {t : TypeId} {ad : Addr} {v : Value} (h : (loadVar t ad).run P w = .ok v w) : (Instr.loadAt t (.pointer (some ad))).run P w = .ok v w := by
  unfold Instr.loadAt
  simp [Instr.sureAddr, h]

theorem sound_load {act : Act} (hr : Rel B M0 p C T X act.tmps w) {dst : Nat} {t : TypeId} {x : Operand} {c : Prop} {a : A} {e : Eff} (ha : aval P T X C dst (.load t x) = some (c, a, e)) (hc : c) :
    ∃ v, (Instr.loadAt t (act.eval x)).run P w = .ok v w ∧ VA w (p.M M0) p C (.t dst) a v ∧ e = {} := by
  simp only [aval, Option.bind_eq_some_iff] at ha
  obtain ⟨ax, h1, ha⟩ := ha
  have hx := opnd_va hr h1 (l := .t 0)
  unfold loadA at ha
  split at ha
  · rename_i k off
    obtain ⟨b, hb, hv⟩ := hx
    rw [hv]
    split at ha
    · rename_i ls sz hk hag hsz
      obtain ⟨c', e', hheap, hsize, hcells⟩ := hr.bxb hk hb
      split at ha
      · rename_i hle
        simp only [Option.bind_eq_some_iff] at ha
        obtain ⟨ds, hds, ha⟩ := ha
        split at ha
        · rename_i hall
          simp only [val, yes, Option.some.injEq, Prod.mk.injEq] at ha
          obtain ⟨rfl, rfl, rfl⟩ := ha
          obtain ⟨hlen, hget⟩ := mapM_toD hds
          have hlen' : ds.length = sz := by rw [hlen]; simp; omega
          have hcl : ((c'.toList.drop off).take sz).length = sz := by simp; omega
          refine ⟨.agg ((c'.toList.drop off).take sz).toArray, run_loadAt (run_loadVar_cells hag (by rw [hcl]; exact hsz) (fun j v hj => ?_)), .agg _ _ (by rw [hcl, hlen']) (fun j d hd => ?_) (fun j d v hd hv => ?_), rfl⟩
          · rw [Addr.add_lit, cell_of_row w _ _ _ _ _ hheap]
            rw [List.getElem?_take] at hj
            split at hj
            · rw [List.getElem?_drop] at hj; simpa using hj
            · cases hj
          · have := List.all_eq_true.1 hall d (List.mem_of_getElem? hd); exact this
          · obtain ⟨a', ha', hd'⟩ := hget j d hd
            rw [List.getElem?_take] at ha' hv
            split at ha'
            · rename_i hj
              rw [if_pos hj, List.getElem?_drop] at hv
              rw [List.getElem?_drop] at ha'
              have := hcells _ _ ha'
              rw [Array.getElem?_toList] at hv
              simp only [Array.getD_eq_getD_getElem?, hv, Option.getD_some] at this
              exact toD_vd hd' this
            · cases ha'
        · cases ha
      · cases ha
    · rename_i ls hk hag
      obtain ⟨c', e', hheap, hsize, hcells⟩ := hr.bxb hk hb
      simp only [yes, Option.bind_eq_some_iff, Option.some.injEq, Prod.mk.injEq] at ha
      obtain ⟨a', ha', rfl, rfl, rfl⟩ := ha
      have hoff : off < c'.size := Nat.lt_of_lt_of_le (List.getElem?_eq_some_iff.1 ha').1 hsize
      have h2 := hcells _ _ ha'
      refine ⟨c'.getD off undef, run_loadAt (run_loadVar_cell hag ?_), VA.lend h2, rfl⟩
      rw [cell_of_row w _ _ _ _ _ hheap]
      simp [hoff]
    · cases ha
  · rename_i ls
    obtain ⟨ad, hv, hh⟩ := hx
    rw [hv]
    split at ha
    · rename_i sz hag hsz
      simp only [Option.some.injEq, Prod.mk.injEq] at ha
      obtain ⟨rfl, rfl, rfl⟩ := ha
      have hch : ∀ j : Nat, ∃ u, ∀ d, ls[j]? = some d → w.cell? (ad.add j) = some u ∧ VD w (p.M M0) d u := by
        intro j
        cases hj : ls[j]? with
        | none => exact ⟨.bool false, by simp⟩
        | some d => obtain ⟨_, _, u, h3, h4⟩ := hh j d hj; exact ⟨u, fun d' hd' => by injection hd' with hd'; subst hd'; exact ⟨h3, h4⟩⟩
      refine ⟨.agg ((List.range sz).map fun j => (hch j).choose).toArray, run_loadAt (run_loadVar_cells hag (by simpa using hsz) (fun j v hj => ?_)), .agg _ _ (by simp; omega) (fun j d hd => ?_) (fun j d v hd hv => ?_), rfl⟩
      · simp only [List.getElem?_map, Option.map_eq_some_iff] at hj
        obtain ⟨j', hj', rfl⟩ := hj
        have hlt : j < sz := by have := (List.getElem?_eq_some_iff.1 hj').1; simpa using this
        rw [List.getElem?_range hlt] at hj'; obtain rfl := Option.some.inj hj'
        exact ((hch j).choose_spec _ (List.getElem?_eq_getElem (by omega))).1
      · rw [List.getElem?_take] at hd
        split at hd
        · exact (hh j d hd).1
        · cases hd
      · rw [List.getElem?_take] at hd
        split at hd
        · rename_i hlt
          simp only [List.getElem?_map, List.getElem?_range hlt, Option.map_some, Option.some.injEq] at hv
          subst hv
          exact ((hch j).choose_spec _ hd).2
        · cases hd
    · rename_i hag
      split at ha
      · rename_i d rest
        simp only [yes, Option.some.injEq, Prod.mk.injEq] at ha
        obtain ⟨rfl, rfl, rfl⟩ := ha
        obtain ⟨_, _, u, h3, h4⟩ := hh 0 d rfl
        rw [Addr.add_zero'] at h3
        exact ⟨u, run_loadAt (run_loadVar_cell hag h3), VA.ofD h4, rfl⟩
      · cases ha
    · cases ha
  · cases ha

theorem sound_len {act : Act} (hr : Rel B M0 p C T X act.tmps w) {dst : Nat} {ty : TypeId} {cl : Call} (hcl : cl.callee = .builtin .len) {c : Prop} {a : A} {e : Eff} (ha : aval P T X C dst (.call cl) = some (c, a, e)) :
    ∃ v, (Builtin.len_ cl.argTypes ty (cl.args.map act.eval)).run P w = .ok v w ∧ VA w (p.M M0) p C (.t dst) a v ∧ e = {} := by
  obtain ⟨cal, args, ats⟩ := cl
  simp only at hcl
  subst hcl
  obtain ⟨args⟩ := args
  obtain ⟨ats⟩ := ats
  simp only [aval] at ha
  split at ha
  · rename_i k e' sz' o m t h1
    split at ha
    · rename_i hel
      simp only [val, yes, Option.some.injEq, Prod.mk.injEq] at ha
      obtain ⟨rfl, rfl, rfl⟩ := ha
      obtain ⟨el, hel⟩ := Option.isSome_iff_exists.1 hel
      cases args with
      | nil => simp at h1
      | cons x rest =>
        cases rest with
        | cons y r => simp at h1
        | nil =>
          simp only [List.map_cons, List.map_nil, List.cons.injEq, and_true] at h1
          refine ⟨_, ?_, .int .i64 _, rfl⟩
          rcases rowOf_va hr h1 with ⟨rfl, hv⟩ | ⟨b, cap, c, q1, hv, _⟩ <;> simp [Builtin.len_, hv, run_underlying (elemOf_und hel), goInt]
    · cases ha
  split at ha
  · rename_i xs t h1 _
    split at ha
    · rename_i hel
      simp only [val, yes, Option.some.injEq, Prod.mk.injEq] at ha
      obtain ⟨rfl, rfl, rfl⟩ := ha
      obtain ⟨el, hel⟩ := Option.isSome_iff_exists.1 hel
      cases args with
      | nil => simp at h1
      | cons x rest =>
        cases rest with
        | cons y r => simp at h1
        | nil =>
          simp only [List.map_cons, List.map_nil, List.cons.injEq, and_true] at h1
          have := dnd_vd hr h1
          refine ⟨_, ?_, .int .i64 _, rfl⟩
          rcases VD.sl_inv this with ⟨rfl, cap, hv⟩ | ⟨ad, cap, sz, u, hv, _⟩ <;> simp [Builtin.len_, hv, run_underlying (elemOf_und hel), goInt]
    · cases ha
  · rename_i s t h1 _
    split at ha
    · rename_i hst
      simp only [val, yes, Option.some.injEq, Prod.mk.injEq] at ha
      obtain ⟨rfl, rfl, rfl⟩ := ha
      cases args with
      | nil => simp at h1
      | cons x rest =>
        cases rest with
        | cons y r => simp at h1
        | nil =>
          simp only [List.map_cons, List.map_nil, List.cons.injEq, and_true] at h1
          have hv := (dnd_vd hr h1).str_inv
          exact ⟨_, by simp [Builtin.len_, hv, run_underlying (strOf_und hst), goInt], .int .i64 _, rfl⟩
    · cases ha
  · cases ha

end Go.Proofs.Ytidnkaopndmigaa.V
end
section
set_option linter.unusedSimpArgs false
set_option linter.unusedVariables false
/- Structs and slices that are built, variables that are made. -/
namespace Go.Proofs.Ytidnkaopndmigaa.V
open Go.RowKit

variable {P : Program} {B : Nat → Nat → Prop} {M0 : Fr} {p : Pm} {C : List Loc} {T : List A} {X : List (Nat × List A)} {w : World}

theorem foldl_set (off : Nat) : ∀ (l : List Value) (i : Nat) (c : Array Value), off + i + l.length ≤ c.size →
    ((l.zipIdx i).foldl (fun cs x => cs.setIfInBounds (off + x.2) x.1) c).toList = c.toList.take (off + i) ++ l ++ c.toList.drop (off + i + l.length)
  | [], i, c, h => by simp
  | v :: l, i, c, h => by
    simp only [List.length_cons] at h
    simp only [List.zipIdx_cons, List.foldl_cons]
    rw [foldl_set off l (i + 1) _ (by simp; omega)]
    simp only [Array.toList_setIfInBounds, List.length_cons]
    have h1 : off + i < c.toList.length := by simp; omega
    rw [show off + (i + 1) = off + i + 1 from by omega, List.take_succ_eq_append_getElem (by simp; omega)]
    simp only [List.getElem_set_self, List.take_set, List.append_assoc, List.singleton_append]
    rw [List.set_eq_of_length_le (by simp; omega), List.drop_set_of_lt (by omega)]
    congr 3
    omega

theorem fill_cons {pl : Nat → Option (Nat × Nat)} {c : Array Value} {i : Nat} {v : Value} {rest : List (Nat × Value)} {off sz : Nat} (hp : pl i = some (off, sz)) (hv : v.cells.size = sz) (ho : off + sz ≤ c.size) :
    ∃ c' : Array Value, Instr.fill pl c ((i, v) :: rest) = Instr.fill pl c' rest ∧ c'.toList = c.toList.take off ++ v.cells.toList ++ c.toList.drop (off + sz) := by
  refine ⟨v.cells.zipIdx.foldl (fun cs (c, j) => cs.setIfInBounds (off + j) c) c, ?_, ?_⟩
  · simp only [Instr.fill, hp]
    rw [if_neg (by simp [hv]; omega)]
  · rw [← Array.foldl_toList, Array.toList_zipIdx]
    have := foldl_set off v.cells.toList 0 c (by simp [hv]; omega)
    simp only [Nat.add_zero] at this
    rw [this]
    simp [hv]

/-- A datum's leaves and a value's cells go together. -/
theorem VD.cells {M : Mut} {d : D} {v : Value} (h : VD w M d v) : v.cells.size = d.cells.length ∧ ∀ (j : Nat) x u, d.cells[j]? = some x → v.cells[j]? = some u → VD w M x u := by
  have leafc : ∀ {d : D} {v : Value}, d.cells = [d] → v.cells = #[v] → VD w M d v → v.cells.size = d.cells.length ∧ ∀ (j : Nat) x u, d.cells[j]? = some x → v.cells[j]? = some u → VD w M x u := by
    intro d v hd hv h
    rw [hd, hv]
    refine ⟨rfl, fun j x u hx hu => ?_⟩
    cases j with
    | zero => simp at hx hu; subst hx; subst hu; exact h
    | succ j => simp at hx
  cases h with
  | int k n => exact leafc rfl rfl (.int k n)
  | bool b => exact leafc rfl rfl (.bool b)
  | str s => exact leafc rfl rfl (.str s)
  | nil c => exact leafc rfl rfl (.nil c)
  | nul => exact leafc rfl rfl .nul
  | sl a cap sz xs u h1 h2 h3 h4 => exact leafc rfl rfl (.sl a cap sz xs u h1 h2 h3 h4)
  | agg ls cs hl hf hh => exact ⟨by simpa [Value.cells, D.cells] using hl, fun j x u hx hu => hh j x u hx (by simpa [Value.cells] using hu)⟩
  | tup ls cs hl hh => exact leafc rfl rfl (.tup ls cs hl hh)

/-- A row of leaves reads cell for cell. -/
def Row (w : World) (M : Mut) (ls : List D) (cs : List Value) : Prop := cs.length = ls.length ∧ ∀ (j : Nat) d v, ls[j]? = some d → cs[j]? = some v → VD w M d v

theorem Row.append {M : Mut} {a b : List D} {c d : List Value} (h : Row w M a c) (h' : Row w M b d) : Row w M (a ++ b) (c ++ d) := by
  refine ⟨by simp [h.1, h'.1], fun j x v hx hv => ?_⟩
  rw [List.getElem?_append] at hx hv
  rw [h.1] at hv
  split at hx
  · rename_i hlt; rw [if_pos hlt] at hv; exact h.2 _ _ _ hx hv
  · rename_i hlt; rw [if_neg hlt] at hv; exact h'.2 _ _ _ hx hv
theorem Row.take {M : Mut} {a : List D} {c : List Value} (n : Nat) (h : Row w M a c) : Row w M (a.take n) (c.take n) := by
  refine ⟨by simp [h.1], fun j x v hx hv => ?_⟩
  rw [List.getElem?_take] at hx hv
  split at hx
  · rename_i hlt; rw [if_pos hlt] at hv; exact h.2 _ _ _ hx hv
  · cases hx
theorem Row.drop {M : Mut} {a : List D} {c : List Value} (n : Nat) (h : Row w M a c) : Row w M (a.drop n) (c.drop n) := by
  refine ⟨by simp [h.1], fun j x v hx hv => ?_⟩
  rw [List.getElem?_drop] at hx hv
  exact h.2 _ _ _ hx hv
theorem Row.of {M : Mut} {d : D} {v : Value} (h : VD w M d v) : Row w M d.cells v.cells.toList := by
  obtain ⟨h1, h2⟩ := h.cells
  exact ⟨by simpa using h1, fun j x u hx hu => h2 j x u hx (by simpa using hu)⟩

theorem mapM_aOfV {vs : List Value} {ls : List A} (h : vs.mapM aOfV = some ls) : ls.length = vs.length ∧ ∀ (j : Nat) a, ls[j]? = some a → ∃ v, vs[j]? = some v ∧ aOfV v = some a := by
  induction vs generalizing ls with
  | nil => simp at h; subst h; simp
  | cons v vs ih =>
    simp only [List.mapM_cons, Option.bind_eq_bind, Option.bind_eq_some_iff, Option.pure_def, Option.some.injEq] at h
    obtain ⟨a, ha, ls', hls, rfl⟩ := h
    obtain ⟨h1, h2⟩ := ih hls
    refine ⟨by simp [h1], fun j a' hd' => ?_⟩
    cases j with
    | zero => simp at hd'; subst hd'; exact ⟨v, rfl, ha⟩
    | succ j => simp at hd'; simpa using h2 j a' hd'

theorem zeroOf_inv {t : TypeId} {ls : List A} (h : zeroOf P t = some ls) : ∃ i v, P.info? t = some i ∧ i.zero = some v ∧ v.cells.toList.mapM aOfV = some ls := by
  simp only [zeroOf, Option.bind_eq_some_iff] at h
  obtain ⟨v, ⟨i, h1, h2⟩, h3⟩ := h
  exact ⟨i, v, h1, h2, h3⟩

theorem zeroD_row {t : TypeId} {z : List D} (h : zeroD P t = some z) (M : Mut) : ∃ i v, P.info? t = some i ∧ i.zero = some v ∧ Row w M z v.cells.toList := by
  simp only [zeroD, Option.bind_eq_some_iff] at h
  obtain ⟨l, h1, h2⟩ := h
  obtain ⟨i, v, h3, h4, h5⟩ := zeroOf_inv h1
  obtain ⟨h6, h7⟩ := mapM_toD h2
  obtain ⟨h8, h9⟩ := mapM_aOfV h5
  refine ⟨i, v, h3, h4, by rw [h6, h8], fun j d u hd hu => ?_⟩
  obtain ⟨a, ha, hda⟩ := h7 j d hd
  obtain ⟨u', hu', hau⟩ := h9 j a ha
  rw [hu] at hu'; obtain rfl := Option.some.inj hu'
  exact toD_vd hda (aOfV_va hau (w := w) (M := M) (p := ⟨fun _ => none, fun _ => none⟩) (C := []) (l := .t 0))

theorem run_zeroValue {t : TypeId} {i : TypeInfo} {v : Value} (h : P.info? t = some i) (hz : i.zero = some v) : (zeroValue t).run P w = .ok v w := by
  simp [zeroValue, typeInfo, h, hz]

theorem fillD_sound {act : Act} (hr : Rel B M0 p C T X act.tmps w) {t : TypeId} {fs : Array Field} {places : Array (Nat × Nat)} (hu : P.underlying t = some (.struct fs)) (hp : ∀ (f : Nat) F n, fs[f]? = some F → szOf P F.type = some n → places[f]? = some (F.offset, n)) :
    ∀ (ps : List (Nat × Operand)) (ls ls' : List D) (c : Array Value), fillD P t T ps ls = some ls' → Row w (p.M M0) ls c.toList →
      ∃ c', Instr.fill (places[·]?) c (ps.map fun x => (x.1, act.eval x.2)) = some c' ∧ Row w (p.M M0) ls' c'.toList
  | [], ls, ls', c, h, hc => by
    simp only [fillD, Option.some.injEq] at h; subst h
    exact ⟨c, rfl, hc⟩
  | (f, x) :: rest, ls, ls', c, h, hc => by
    simp only [fillD] at h
    split at h
    · rename_i o ft d h1 h2
      split at h
      · rename_i sz hsz
        split at h
        · rename_i hcond
          obtain ⟨fs', F, hu', hF, rfl, rfl⟩ := fldOf_und h1
          rw [hu] at hu'; injection hu' with hu'; injection hu' with hu'; subst hu'
          have hv := dlf_vd hr h2
          have hcl := hc.1
          simp only [Array.length_toList] at hcl
          obtain ⟨c', h3, h4⟩ := fill_cons (c := c) (rest := rest.map fun x => (x.1, act.eval x.2)) (hp f F sz hF hsz) (by rw [hv.cells.1]; exact hcond.1) (by rw [hcl]; exact hcond.2)
          obtain ⟨c'', h5, h6⟩ := fillD_sound hr hu hp rest _ ls' c' h (by rw [h4]; exact ((hc.take _).append (Row.of hv)).append (hc.drop _))
          exact ⟨c'', by rw [List.map_cons]; exact h3.trans h5, h6⟩
        · cases h
      · cases h
    · cases h

theorem run_mapM_places (fs : List Field) : ∀ (out : List (Nat × Nat)), fs.mapM (fun f => (szOf P f.type).map fun n => (f.offset, n)) = some out →
    (fs.mapM (fun f => do pure (f.offset, ← sizeOf f.type)) : Sem (List (Nat × Nat))).run P w = .ok out w := by
  induction fs with
  | nil => intro out h; simp at h; subst h; rfl
  | cons f fs ih =>
    intro out h
    simp only [List.mapM_cons, Option.bind_eq_bind, Option.bind_eq_some_iff, Option.pure_def, Option.some.injEq, Option.map_eq_some_iff] at h
    obtain ⟨a, ⟨n, hn, rfl⟩, l, hl, rfl⟩ := h
    simp only [List.mapM_cons, Sem.run_bind, run_sizeOf hn, Result.andThen_ok, Sem.run_pure, ih l hl]

theorem mapM_places {fs : List Field} {out : List (Nat × Nat)} (h : fs.mapM (fun f => (szOf P f.type).map fun n => (f.offset, n)) = some out) : ∀ (f : Nat) F n, fs[f]? = some F → szOf P F.type = some n → out[f]? = some (F.offset, n) := by
  induction fs generalizing out with
  | nil => intro f F n h; simp at h
  | cons g fs ih =>
    simp only [List.mapM_cons, Option.bind_eq_bind, Option.bind_eq_some_iff, Option.pure_def, Option.some.injEq, Option.map_eq_some_iff] at h
    obtain ⟨a, ⟨n, hn, rfl⟩, l, hl, rfl⟩ := h
    intro f F m hF hm
    cases f with
    | zero => simp at hF; subst hF; rw [hn] at hm; injection hm with hm; subst hm; rfl
    | succ f => simp at hF; simpa using ih hl f F m hF hm

/-- The sizes of a struct's fields are all known. -/
def fldsOk (P : Program) (fs : List Field) : Bool := (fs.mapM (fun f => (szOf P f.type).map fun n => (f.offset, n))).isSome

theorem sound_build {act : Act} (hr : Rel B M0 p C T X act.tmps w) {dst : Nat} {t : TypeId} {parts : Array (Nat × Operand)} {c : Prop} {a : A} {e : Eff} (ha : aval P T X C dst (.build t parts) = some (c, a, e)) :
    ∃ v, (Instr.build t (parts.map fun (i, x) => (i, act.eval x))).run P w = .ok v w ∧ VA w (p.M M0) p C (.t dst) a v ∧ e = {} := by
  simp only [aval] at ha
  split at ha
  · rename_i fs hu
    split at ha
    · rename_i hok
      simp only [Option.bind_eq_some_iff] at ha
      obtain ⟨z, hz, ls, hls, ha⟩ := ha
      split at ha
      · rename_i hall
        simp only [val, yes, Option.some.injEq, Prod.mk.injEq] at ha
        obtain ⟨rfl, rfl, rfl⟩ := ha
        obtain ⟨out, hout⟩ := Option.isSome_iff_exists.1 hok
        obtain ⟨i, v, hi, hzv, hrow⟩ := zeroD_row (w := w) hz (p.M M0)
        obtain ⟨c', h1, h2⟩ := fillD_sound hr hu (places := out.toArray) (fun f F n hF hn => by simpa using mapM_places hout f F n (by simpa using hF) hn) parts.toList z ls v.cells hls hrow
        refine ⟨.agg c', ?_, ?_, rfl⟩
        · unfold Instr.build
          simp only [Sem.run_bind, run_zeroValue hi hzv, Result.andThen_ok, run_underlying hu]
          have hm : (fs.mapM (fun f => do pure (f.offset, ← sizeOf f.type)) : Sem (Array (Nat × Nat))).run P w = .ok out.toArray w := by
            rw [← Array.toArray_toList (xs := fs), List.mapM_toArray, Sem.run_map, run_mapM_places _ _ hout]; rfl
          simp only [hm, Result.andThen_ok]
          have h1' : Instr.fill (out.toArray[·]?) v.cells (parts.map fun (i, x) => (i, act.eval x)).toList = some c' := by rw [Array.toList_map]; exact h1
          simp only [h1']
          rfl
        · have := VD.agg (w := w) (M := p.M M0) ls c'.toList h2.1 (fun j d hd => List.all_eq_true.1 hall d (List.mem_of_getElem? hd)) h2.2
          have h3 : c'.toList.toArray = c' := by simp
          rw [h3] at this
          exact this
      · cases ha
    · cases ha
  · cases ha

/-- Parts in order fill a row from its head. -/
theorem parts_sound {act : Act} (hr : Rel B M0 p C T X act.tmps w) {sz : Nat} (hsz : 0 < sz) : ∀ (ps : List (Nat × Operand)) (i : Nat) (xs : List D) (c : Array Value) (pre : List D), partsD T i ps = some xs → (∀ x ∈ xs, x.cells.length = sz) →
    pre.length = i * sz → Row w (p.M M0) pre (c.toList.take (i * sz)) → (i + xs.length) * sz = c.size →
      ∃ c', Instr.fill (fun i => some (i * sz, sz)) c (ps.map fun x => (x.1, act.eval x.2)) = some c' ∧ Row w (p.M M0) (pre ++ xs.flatMap D.cells) c'.toList
  | [], i, xs, c, pre, h, hx, hp, hc, hs => by
    simp only [partsD, Option.some.injEq] at h; subst h
    refine ⟨c, rfl, ?_⟩
    simp only [List.length_nil, Nat.add_zero] at hs
    rw [hs, List.take_of_length_le (by simp)] at hc
    simpa using hc
  | (j, x) :: rest, i, xs, c, pre, h, hx, hp, hc, hs => by
    simp only [partsD] at h
    split at h
    · rename_i hij; subst hij
      split at h
      · rename_i d l h1 h2
        injection h with h; subst h
        have hv := dnd_vd hr h1
        have hd := hx d (by simp)
        simp only [List.length_cons] at hs
        have hs' : i * sz + sz + l.length * sz = c.size := by rw [← hs]; simp only [Nat.add_mul]; omega
        obtain ⟨c', h3, h4⟩ := fill_cons (pl := fun i => some (i * sz, sz)) (i := i) (c := c) (rest := rest.map fun x => (x.1, act.eval x.2)) rfl (by rw [hv.cells.1]; exact hd) (by omega)
        have hvc : (act.eval x).cells.toList.length = sz := by simp [hv.cells.1, hd]
        have hlen : c'.size = c.size := by rw [← Array.length_toList, h4]; simp [hv.cells.1, hd]; omega
        have hrow : Row w (p.M M0) (pre ++ d.cells) (c'.toList.take ((i + 1) * sz)) := by
          rw [h4, Nat.add_mul, Nat.one_mul, List.take_append_of_le_length (by simp [hv.cells.1, hd]; omega), List.take_of_length_le (by simp [hv.cells.1, hd]; omega)]
          exact hc.append (Row.of hv)
        obtain ⟨c'', h5, h6⟩ := parts_sound hr hsz rest (i + 1) l c' (pre ++ d.cells) h2 (fun y hy => hx y (by simp [hy])) (by simp [hp, hd, Nat.add_mul]) hrow (by rw [hlen, ← hs]; congr 1; omega)
        exact ⟨c'', by rw [List.map_cons]; exact h3.trans h5, by simpa [List.append_assoc] using h6⟩
      · cases h
    · cases h

end Go.Proofs.Ytidnkaopndmigaa.V
end
section
set_option linter.unusedSimpArgs false
set_option linter.unusedVariables false
/- New blocks: variables and rows of the call's own; appends. -/
namespace Go.Proofs.Ytidnkaopndmigaa.V
open Go.RowKit

variable {P : Program} {B : Nat → Nat → Prop} {M0 : Fr} {p : Pm} {C : List Loc} {T : List A} {X : List (Nat × List A)} {w : World}

def Pm.box (p : Pm) (k b : Nat) : Pm := { p with bx := fun k' => if k' = k then some b else p.bx k' }
def Pm.row (p : Pm) (l : Loc) (h : Hdr) : Pm := { p with gr := fun l' => if l' = l then some h else p.gr l' }

/-- A world that has grown by one block, whatever was drawn. -/
structure New (w w' : World) (o : Obj) : Prop where
  os : w'.os = w.os
  tape : w'.tape = w.tape
  output : w'.output = w.output
  heap : w'.heap = w.heap.push o

theorem New.alloc (w : World) (o : Obj) : New w (w.alloc o) o := ⟨rfl, rfl, rfl, rfl⟩
theorem New.size {w w' : World} {o : Obj} (h : New w w' o) : w'.heap.size = w.heap.size + 1 := by rw [h.heap, Array.size_push]
theorem New.last {w w' : World} {o : Obj} (h : New w w' o) : w'.heap[w.heap.size]? = some o := by rw [h.heap]; simp
theorem New.old {w w' : World} {o : Obj} (h : New w w' o) {b : Nat} (hb : b < w.heap.size) : w'.heap[b]? = w.heap[b]? := by
  rw [h.heap, Array.getElem?_push, if_neg (by omega)]
theorem New.below {w w' : World} {o : Obj} (h : New w w' o) : Away B w w' :=
  ⟨h.os, h.tape, h.output, by rw [h.size]; omega, fun k hk _ => h.old hk, fun a u hu _ => by rw [World.cell?_of_block (w := w) (h.old (block_lt_of_cell hu))]; exact hu⟩
theorem New.keep {w w' : World} {o : Obj} (h : New w w' o) {M M' : Mut} (hm : ∀ b i, b < w.heap.size → M' b i → M b i) : Keep w M w' M' := fun a u hc hn => by
  have hlt := block_lt_of_cell hc
  exact ⟨by rw [World.cell?_of_block (w := w) (h.old hlt)]; exact hc, fun h' => hn (hm _ _ hlt h')⟩

theorem heap_lt {w : World} {b : Nat} {o : Obj} (h : w.heap[b]? = some o) : b < w.heap.size := (Array.getElem?_eq_some_iff.1 h).1

theorem ok_box {k : Nat} {c : Array Value} {t : TypeId} {w' : World} (ok : p.ok B M0 w) (hk : p.bx k = none) (hn : New w w' (.cells c t)) : (p.box k w.heap.size).ok B M0 w' := by
  have hne : ∀ {k' b}, p.bx k' = some b → b ≠ w.heap.size := fun h e => by obtain ⟨_, c, T, h2⟩ := ok.bx _ _ h; have := heap_lt h2; omega
  have hng : ∀ {l h}, p.gr l = some h → h.b ≠ w.heap.size := fun h e => by obtain ⟨_, _, _, c, h2, _⟩ := ok.gr _ _ h; have := heap_lt h2; omega
  refine ⟨fun b i h => ⟨(ok.m0 b i h).1, by have := (ok.m0 b i h).2; rw [hn.size]; omega⟩, fun k hk => ok.size k (by rw [hn.size] at hk; omega), fun k' b h => ?_, fun l h hg => ?_, fun k1 k2 b h1 h2 => ?_, ok.gri, fun k1 b l h h1 h2 => ?_, fun k' b t n h => ?_⟩
  · simp only [Pm.box] at h
    split at h
    · injection h with h; subst h; exact ⟨ok.size _ (Nat.le_refl _), c, t, hn.last⟩
    · obtain ⟨q1, c', T, q2⟩ := ok.bx _ _ h; exact ⟨q1, c', T, by rw [hn.old (heap_lt q2)]; exact q2⟩
  · obtain ⟨q1, q2, q3, c', q4, q5⟩ := ok.gr _ _ hg
    exact ⟨q1, q2, q3, c', by rw [hn.old (heap_lt q4)]; exact q4, q5⟩
  · simp only [Pm.box] at h1 h2
    split at h1 <;> split at h2
    · simp_all
    · injection h1 with h1; exact absurd h1.symm (hne h2)
    · injection h2 with h2; exact absurd h2.symm (hne h1)
    · exact ok.bxi _ _ _ h1 h2
  · simp only [Pm.box] at h1
    split at h1
    · injection h1 with h1; subst h1; exact (hng h2).symm
    · exact ok.dis _ _ _ _ h1 h2
  · obtain ⟨q1, q2, c', q3, q4⟩ := ok.fx _ _ _ _ h
    refine ⟨q1, ?_, c', by rw [hn.old (heap_lt q3)]; exact q3, q4⟩
    simp only [Pm.box]; rw [if_neg (fun e => by rw [e, hk] at q2; cases q2)]; exact q2

theorem ok_row {l : Loc} {h : Hdr} {c : Array Value} {w' : World} (ok : p.ok B M0 w) (hk : p.gr l = none) (hn : New w w' (.cells c h.e)) (hb : h.b = w.heap.size) (hc : h.len ≤ h.cap) (hm : h.cap ≤ maxLen) (hs : c.size = h.cap * h.size) : (p.row l h).ok B M0 w' := by
  have hne : ∀ {k' b}, p.bx k' = some b → b ≠ w.heap.size := fun h e => by obtain ⟨_, c, T, h2⟩ := ok.bx _ _ h; have := heap_lt h2; omega
  have hng : ∀ {l h}, p.gr l = some h → h.b ≠ w.heap.size := fun h e => by obtain ⟨_, _, _, c, h2, _⟩ := ok.gr _ _ h; have := heap_lt h2; omega
  refine ⟨fun b i h => ⟨(ok.m0 b i h).1, by have := (ok.m0 b i h).2; rw [hn.size]; omega⟩, fun k hk => ok.size k (by rw [hn.size] at hk; omega), fun k' b h => ?_, fun l' h' hg => ?_, ok.bxi, fun l1 l2 h1 h2 g1 g2 e => ?_, fun k1 b l' h' h1 h2 => ?_, fun k' b t n h => ?_⟩
  · obtain ⟨q1, c', T, q2⟩ := ok.bx _ _ h; exact ⟨q1, c', T, by rw [hn.old (heap_lt q2)]; exact q2⟩
  · simp only [Pm.row] at hg
    split at hg
    · injection hg with hg; subst hg; exact ⟨fun i _ => by rw [hb]; exact ok.size _ (Nat.le_refl _) i, hc, hm, c, by rw [hb]; exact hn.last, hs⟩
    · obtain ⟨q1, q2, q3, c', q4, q5⟩ := ok.gr _ _ hg
      exact ⟨q1, q2, q3, c', by rw [hn.old (heap_lt q4)]; exact q4, q5⟩
  · simp only [Pm.row] at g1 g2
    split at g1 <;> split at g2
    · simp_all
    · injection g1 with g1; subst g1; exact absurd (e.symm.trans hb) (hng g2)
    · injection g2 with g2; subst g2; exact absurd (e.trans hb) (hng g1)
    · exact ok.gri _ _ _ _ g1 g2 e
  · simp only [Pm.row] at h2
    split at h2
    · injection h2 with h2; subst h2; rw [hb]; exact hne h1
    · exact ok.dis _ _ _ _ h1 h2
  · obtain ⟨q1, q2, c', q3, q4⟩ := ok.fx _ _ _ _ h
    exact ⟨q1, q2, c', by rw [hn.old (heap_lt q3)]; exact q3, q4⟩

theorem grows_box {k : Nat} {c : Array Value} {t : TypeId} {w' : World} (ok : p.ok B M0 w) (hk : p.bx k = none) (hn : New w w' (.cells c t)) : Grows w (p.M M0) p C w' ((p.box k w.heap.size).M M0) (p.box k w.heap.size) C := by
  refine ⟨hn.keep fun b i hb h => ?_, fun k' b h => ?_, fun l h _ hg => hg, fun _ h => h, fun k b c t _ hh => ⟨c, by rw [hn.old (heap_lt hh)]; exact hh, rfl⟩⟩
  · rcases h with h | ⟨k', h⟩ | ⟨l, h, h1, h2, h3⟩
    · exact .inl h
    · simp only [Pm.box] at h
      split at h
      · injection h with h; omega
      · exact .inr (.inl ⟨k', h⟩)
    · exact .inr (.inr ⟨l, h, h1, h2, h3⟩)
  · simp only [Pm.box]
    rw [if_neg (fun e => by rw [e, hk] at h; cases h)]; exact h

theorem grows_row {l : Loc} {h : Hdr} {c : Array Value} {t : TypeId} {w' : World} (ok : p.ok B M0 w) (hk : p.gr l = none) (hn : New w w' (.cells c t)) (hb : h.b = w.heap.size) : Grows w (p.M M0) p C w' ((p.row l h).M M0) (p.row l h) C := by
  refine ⟨hn.keep fun b i hlt hh => ?_, fun k' b h => h, fun l' h' _ hg => ?_, fun _ h => h, fun k b c t _ hh => ⟨c, by rw [hn.old (heap_lt hh)]; exact hh, rfl⟩⟩
  · rcases hh with hh | ⟨k', hh⟩ | ⟨l', h', h1, h2, h3⟩
    · exact .inl hh
    · exact .inr (.inl ⟨k', hh⟩)
    · simp only [Pm.row] at h1
      split at h1
      · injection h1 with h1; subst h1; omega
      · exact .inr (.inr ⟨l', h', h1, h2, h3⟩)
  · simp only [Pm.row]
    rw [if_neg (fun e => by rw [e, hk] at hg; cases hg)]; exact hg

theorem done_box {dst : Nat} {c : Array Value} {t : TypeId} {w' : World} (ok : p.ok B M0 w) (hk : p.bx dst = none) (hn : New w w' (.cells c t)) {ls : List A} (hs : c.size = ls.length)
    (hl : ∀ (j : Nat) x, ls[j]? = some x → VA w (p.M M0) p C (.l dst j) x (c.getD j undef)) : Done B M0 p C w dst (.box dst 0) { new := some ls } (.pointer (some ⟨w.heap.size, 0, none⟩)) w' (p.box dst w.heap.size) := by
  have g := grows_box (C := C) ok hk hn
  refine ⟨ok_box ok hk hn, g, fun k b h => ?_, hn.below, fun ls' h => ?_, ⟨w.heap.size, by simp [Pm.box], rfl⟩, fun k' hk' h => by simp only [Pm.box]; rw [if_neg hk']; exact h, fun _ _ h => h⟩
  · obtain ⟨_, c', T, q2⟩ := ok.bx _ _ h; exact hn.old (heap_lt q2)
  · simp only [Option.some.injEq] at h; subst h
    exact ⟨w.heap.size, c, t, by simp [Pm.box], hn.last, hs, fun j x hx => VA.mono g (hl j x hx)⟩

theorem sound_alloc {dst : Nat} {t : TypeId} {c : Prop} {a : A} {e : Eff} (ok : p.ok B M0 w) (hk : free p dst) (ha : aval P T X C dst (.alloc t) = some (c, a, e)) :
    ∃ v w' p', (Instr.alloc t true (.tuple #[])).run P w = .ok v w' ∧ Done B M0 p C w dst a e v w' p' := by
  simp only [aval, Option.bind_eq_some_iff] at ha
  obtain ⟨ls, hz, ha⟩ := ha
  split at ha
  rotate_left
  · cases ha
  rename_i hlt
  have hk := hk hlt
  simp only [Option.some.injEq, Prod.mk.injEq] at ha
  obtain ⟨rfl, rfl, rfl⟩ := ha
  obtain ⟨i, v, h1, h2, h3⟩ := zeroOf_inv hz
  obtain ⟨h4, h5⟩ := mapM_aOfV h3
  refine ⟨_, _, _, ?_, done_box (c := v.cells) (t := t) ok hk (New.alloc w _) (by rw [h4]; simp) (fun j x hx => ?_)⟩
  · unfold Instr.alloc
    simp only [Sem.run_bind, run_zeroValue h1 h2, Result.andThen_ok]
    simp [newVar, newRow]
  · obtain ⟨u, hu, hau⟩ := h5 j x hx
    have : v.cells.getD j undef = u := by rw [Array.getElem?_toList] at hu; simp [hu]
    rw [this]; exact aOfV_va hau

theorem sound_box {act : Act} (hr : Rel B M0 p C T X act.tmps w) {dst : Nat} {t : TypeId} {x : Operand} {c : Prop} {a : A} {e : Eff} (hk : free p dst) (ha : aval P T X C dst (.box t x) = some (c, a, e)) :
    ∃ v w' p', (Instr.box t (act.eval x)).run P w = .ok v w' ∧ Done B M0 p C w dst a e v w' p' := by
  simp only [aval, Option.bind_eq_some_iff] at ha
  obtain ⟨d, hd, ha⟩ := ha
  split at ha
  · rename_i hlt
    have hk := hk hlt.2
    simp only [Option.some.injEq, Prod.mk.injEq] at ha
    obtain ⟨rfl, rfl, rfl⟩ := ha
    have hv := dlf_vd hr hd
    refine ⟨_, _, _, ?_, done_box (c := (act.eval x).cells) (t := t) hr.ok hk (New.alloc w _) (by simp [hv.cells.1]) (fun j y hy => ?_)⟩
    · unfold Instr.box
      simp [newVar, newRow]
    · simp only [List.getElem?_map, Option.map_eq_some_iff] at hy
      obtain ⟨y', hy', rfl⟩ := hy
      have hlt : j < (act.eval x).cells.size := by rw [hv.cells.1]; exact (List.getElem?_eq_some_iff.1 hy').1
      exact VA.ofD (hv.cells.2 j y' _ hy' (by simp [hlt]))
  · cases ha

theorem flatten_rep {α : Type} {l : List α} : ∀ {n j : Nat} {a : α}, (List.replicate n l).flatten[j]? = some a → l[j % l.length]? = some a ∧ j < n * l.length
  | 0, j, a, h => by simp at h
  | n + 1, j, a, h => by
    simp only [List.replicate_succ, List.flatten_cons, List.getElem?_append] at h
    split at h
    · rename_i hj
      rw [Nat.mod_eq_of_lt hj]
      exact ⟨h, by rw [Nat.add_mul]; omega⟩
    · rename_i hj
      obtain ⟨h1, h2⟩ := flatten_rep h
      refine ⟨?_, by rw [Nat.add_mul]; omega⟩
      rw [← h1]; congr 1
      rw [Nat.mod_eq_sub_mod (by omega)]

theorem sound_make {act : Act} (hr : Rel B M0 p C T X act.tmps w) {dst : Nat} {t : TypeId} {x y : Operand} {c : Prop} {a : A} {e : Eff} (hk : free p dst) (ha : aval P T X C dst (.makeSlice t x y) = some (c, a, e)) (hc : c) :
    ∃ v w' p', (Instr.makeSlice t (act.eval x) (act.eval y)).run P w = .ok v w' ∧ Done B M0 p C w dst a e v w' p' := by
  simp only [aval] at ha
  split at ha
  · rename_i el kx n ky m he hx hy
    split at ha
    · rename_i sz by_ zl hs hb hz
      split at ha
      · rename_i hzl
        obtain ⟨hzl, hlt⟩ := hzl
        have hk := hk hlt
        simp only [Option.some.injEq, Prod.mk.injEq] at ha
        obtain ⟨rfl, rfl, rfl⟩ := ha
        obtain ⟨h0, rfl, hby, h63⟩ := hc
        rw [(dnd_vd hr hx).int_inv, (dnd_vd hr hy).int_inv]
        obtain ⟨i, hi, his⟩ := szOf_info hs
        obtain ⟨i', hi', hib⟩ := bytesOf_info hb
        rw [hi] at hi'; obtain rfl := Option.some.inj hi'
        obtain ⟨i', z, hi', hzv, hzm⟩ := zeroOf_inv hz
        rw [hi] at hi'; obtain rfl := Option.some.inj hi'
        obtain ⟨h4, h5⟩ := mapM_aOfV hzm
        have his : i.size = sz := his
        have hzs : z.cells.size = sz := by rw [← hzl, h4]; simp
        have hrun := run_make (P := P) w t el i z (elemOf_und he) hi hzv kx ky m m h0 (Int.le_refl _) (by rw [hib]; exact hby) h63
        have g := grows_box (C := C) hr.ok hk (New.alloc w (.cells (madeCells z.cells (m.toNat * i.size)) el))
        have hsz : (madeCells z.cells (m.toNat * i.size)).size = m.toNat * sz := by rw [size_madeCells, his]
        have hfl : (List.replicate m.toNat zl).flatten.length = m.toNat * sz := by simp [hzl]
        have hd := done_box (ls := (List.replicate m.toNat zl).flatten) hr.ok hk (New.alloc w (.cells (madeCells z.cells (m.toNat * i.size)) el)) (by rw [hsz, hfl]) (C := C) (fun j y hy => ?_)
        · refine ⟨_, _, _, hrun, hd.ok, hd.gr, hd.old, hd.below, hd.new, ?_, hd.only⟩
          exact .inr ⟨w.heap.size, m.toNat, _, by simp [Pm.box], rfl, Nat.le_refl _, by simp only [maxLen]; omega, (New.alloc w _).last, by rw [hsz]; omega⟩
        · obtain ⟨h6, h7⟩ := flatten_rep hy
          rw [hzl] at h6 h7
          obtain ⟨u, hu, hau⟩ := h5 _ _ h6
          have hpos : 0 < sz := by
            rcases Nat.eq_zero_or_pos sz with h | h
            · rw [h] at h7; simp at h7
            · exact h
          have : (madeCells z.cells (m.toNat * i.size)).getD j undef = u := by
            have hlt : j < m.toNat * i.size := by rw [his]; exact h7
            have h8 : z.cells[j % sz]? = some u := by rw [← Array.getElem?_toList]; exact hu
            rw [Array.getD_eq_getD_getElem?]
            simp only [madeCells, Array.getElem?_map, Array.getElem?_range, hlt, if_true, Option.map_some, Option.getD_some, hzs]
            rw [getElem!_def, h8]
          rw [this]; exact aOfV_va hau
      · cases ha
    · cases ha
  · cases ha

/-- A row whose cells read as the leaves of data, in order. -/
theorem row_vd {M : Mut} {b : Nat} {xs : List D} {c : Array Value} {t : TypeId} {cap sz : Nat} (hb : w.heap[b]? = some (.cells c t (0, 0))) (hsz : ∀ x ∈ xs, x.cells.length = sz) (hleaf : ∀ x ∈ xs, ∀ d ∈ x.cells, d.leaf = true)
    (hrow : Row w M (xs.flatMap D.cells) (c.toList.take (xs.length * sz))) (hM : ∀ i, i < xs.length * sz → ¬ M b i) (hcap : xs.length ≤ cap) : VD w M (.sl xs) (.slice (some ⟨b, 0, none⟩) xs.length cap) := by
  have hget : ∀ (xs : List D) (i : Nat) x (j : Nat) d, (∀ x ∈ xs, x.cells.length = sz) → xs[i]? = some x → x.cells[j]? = some d → (xs.flatMap D.cells)[i * sz + j]? = some d ∧ i * sz + j < xs.length * sz := by
    intro xs
    induction xs with
    | nil => intro i x j d _ hx; simp at hx
    | cons y ys ih =>
      intro i x j d hs hx hd
      have hy := hs y (by simp)
      cases i with
      | zero =>
        simp at hx; subst hx
        have hj : j < sz := by rw [← hy]; exact (List.getElem?_eq_some_iff.1 hd).1
        simp only [List.flatMap_cons, Nat.zero_mul, Nat.zero_add, List.length_cons, Nat.add_mul, Nat.one_mul]
        exact ⟨by rw [List.getElem?_append_left (by omega)]; exact hd, by omega⟩
      | succ i =>
        simp at hx
        obtain ⟨h1, h2⟩ := ih i x j d (fun z hz => hs z (by simp [hz])) hx hd
        simp only [List.flatMap_cons, List.length_cons, Nat.add_mul, Nat.one_mul]
        exact ⟨by rw [List.getElem?_append_right (by omega), hy]; rw [show i * sz + sz + j - sz = i * sz + j from by omega]; exact h1, by omega⟩
  have hcl : ∀ k, k < xs.length * sz → (c.toList.take (xs.length * sz))[k]? = c[k]? := fun k hk => by rw [List.getElem?_take, if_pos hk]; simp
  have hlen := hrow.1
  have hfl : (xs.flatMap D.cells).length = xs.length * sz := by
    clear hrow hcl hlen hM hcap hget hleaf
    induction xs with
    | nil => simp
    | cons y ys ih => simp only [List.flatMap_cons, List.length_append, List.length_cons, Nat.add_mul, Nat.one_mul]; rw [ih (fun z hz => hsz z (by simp [hz])), hsz y (by simp)]; omega
  refine VD.sl_mk _ _ sz (fun i j => c.getD (i * sz + j) undef) hcap (fun i x hx => hsz x (List.mem_of_getElem? hx)) (fun i x j d hx hd => ?_) rfl
  obtain ⟨h1, h2⟩ := hget xs i x j d hsz hx hd
  have h3 : i * sz + j < (c.toList.take (xs.length * sz)).length := by rw [hlen, hfl]; exact h2
  have h4 : c[i * sz + j]? = some (c.getD (i * sz + j) undef) := by
    have h5 := hcl _ h2
    rw [List.getElem?_eq_getElem h3] at h5
    rw [Array.getD_eq_getD_getElem?, ← h5]; rfl
  refine ⟨hleaf x (List.mem_of_getElem? hx) d (List.mem_of_getElem? hd), ?_, by simpa using hM _ h2, hrow.2 _ d _ h1 (by rw [hcl _ h2]; exact h4)⟩
  rw [Addr.add_lit, cell_of_row w _ _ _ _ _ hb, Nat.zero_add]
  exact h4

theorem Row.mono {M : Mut} {w' : World} {M' : Mut} {ls cs} (k : Keep w M w' M') (h : Row w M ls cs) : Row w' M' ls cs := ⟨h.1, fun j d v hd hv => (h.2 j d v hd hv).mono k⟩

theorem done_row {dst : Nat} {c : Array Value} {e : TypeId} {cap sz : Nat} {xs : List D} {w' : World} {use : List Loc} (ok : p.ok B M0 w) (hk : p.gr (.t dst) = none) (hn : New w w' (.cells c e)) (hcap : xs.length ≤ cap) (hm : cap ≤ maxLen) (hs : c.size = cap * sz)
    (hsz : ∀ x ∈ xs, x.cells.length = sz) (hleaf : ∀ x ∈ xs, ∀ d ∈ x.cells, d.leaf = true) (hrow : Row w (p.M M0) (xs.flatMap D.cells) (c.toList.take (xs.length * sz))) :
    Done B M0 p C w dst (.grow e sz xs) { use := use } (.slice (some ⟨w.heap.size, 0, none⟩) xs.length cap) w' (p.row (.t dst) ⟨w.heap.size, cap, xs.length, sz, e⟩) := by
  have g := grows_row (C := C) (h := ⟨w.heap.size, cap, xs.length, sz, e⟩) ok hk hn rfl
  refine ⟨ok_row ok hk hn rfl hcap hm hs, ⟨g.keep, g.bx, fun l h hl => g.gr l h (fun hc => hl (by simp [hc])), fun l hl hc => hl (by simp [hc]), g.st⟩, fun k b h => ?_, hn.below, (fun ls' h => by cases h), ⟨?_, fun _ => ?_⟩, fun _ _ h => h, fun l' hl' h => by simp only [Pm.row]; rw [if_neg hl']; exact h⟩
  · obtain ⟨_, c', T, q2⟩ := ok.bx _ _ h; exact hn.old (heap_lt q2)
  · refine row_vd hn.last hsz hleaf (hrow.mono g.keep) (fun i hi hM => ?_) hcap
    rcases hM with h | ⟨k', h⟩ | ⟨l, h, h1, h2, h3⟩
    · have := (ok.m0 _ _ h).2; omega
    · obtain ⟨_, c', T, q2⟩ := ok.bx _ _ h; have := heap_lt q2; omega
    · simp only [Pm.row] at h1
      split at h1
      · injection h1 with h1; subst h1; simp only at h3; omega
      · obtain ⟨_, _, _, c', q4, _⟩ := ok.gr _ _ h1; have := heap_lt q4; omega
  · exact .inr ⟨⟨w.heap.size, cap, xs.length, sz, e⟩, by simp [Pm.row], rfl, rfl, rfl, rfl, fun i x hx => hsz x (List.mem_of_getElem? hx)⟩

theorem partsD_leaf {act : Act} (hr : Rel B M0 p C T X act.tmps w) : True := trivial

theorem sound_buildSlice {act : Act} (hr : Rel B M0 p C T X act.tmps w) {dst : Nat} {t : TypeId} {len : Nat} {parts : Array (Nat × Operand)} {c : Prop} {a : A} {e : Eff} (hk : p.gr (.t dst) = none) (ha : aval P T X C dst (.buildSlice t len parts) = some (c, a, e)) :
    ∃ v w' p', (Instr.buildSlice t len (parts.map fun (i, x) => (i, act.eval x))).run P w = .ok v w' ∧ Done B M0 p C w dst a e v w' p' := by
  simp only [aval] at ha
  split at ha
  · rename_i sz xs h1 h2
    split at ha
    · rename_i hc
      simp only [Option.some.injEq, Prod.mk.injEq] at ha
      obtain ⟨rfl, rfl, rfl⟩ := ha
      obtain ⟨hlen, hall, h24, hpos, hz⟩ := hc
      subst hlen
      simp only [Option.bind_eq_some_iff] at h1
      obtain ⟨el, he, hs⟩ := h1
      rw [he] at hz ⊢
      simp only [Option.getD_some]
      obtain ⟨zl, hzl⟩ := Option.isSome_iff_exists.1 hz
      obtain ⟨i', z, hi', hz', _⟩ := zeroOf_inv hzl
      have hsz : ∀ x ∈ xs, x.cells.length = sz := fun x hx => by have := List.all_eq_true.1 hall x hx; simp at this; exact this.2
      have hleaf : ∀ x ∈ xs, ∀ d ∈ x.cells, d.leaf = true := fun x hx d hd => by have := List.all_eq_true.1 hall x hx; simp at this; exact this.1 d hd
      have hzero : ∀ (zz : Array Value), ((Array.range (xs.length * sz)).map (fun i => zz[i % zz.size]!)).size = xs.length * sz := fun zz => by simp
      have hfill : ∀ c0 : Array Value, c0.size = xs.length * sz → ∃ c', Instr.fill (fun i => some (i * sz, sz)) c0 (parts.map fun (i, x) => (i, act.eval x)).toList = some c' ∧ Row w (p.M M0) (xs.flatMap D.cells) c'.toList := by
        intro c0 h0
        obtain ⟨c', h3, h4⟩ := parts_sound hr hpos parts.toList 0 xs c0 [] h2 hsz (by simp) ⟨by simp, by simp⟩ (by simp [h0])
        exact ⟨c', by rw [Array.toList_map]; exact h3, by simpa using h4⟩
      have key : ∀ c0 : Array Value, c0.size = xs.length * sz → ∃ c', Instr.fill (fun i => some (i * sz, sz)) c0 (parts.map fun (i, x) => (i, act.eval x)).toList = some c' ∧ Done B M0 p C w dst (.grow el sz xs) {} (.slice (some ⟨w.heap.size, 0, none⟩) xs.length xs.length) (w.alloc (.cells c' el)) (p.row (.t dst) ⟨w.heap.size, xs.length, xs.length, sz, el⟩) := by
        intro c0 h0
        obtain ⟨c', h3, h4⟩ := hfill c0 h0
        have hfl : (xs.flatMap D.cells).length = xs.length * sz := by
          clear h4 h3 hfill hzero hall h24 h2 hleaf h0
          induction xs with
          | nil => simp
          | cons y ys ih => simp only [List.flatMap_cons, List.length_append, List.length_cons, Nat.add_mul, Nat.one_mul]; rw [ih (fun z hz => hsz z (by simp [hz])), hsz y (by simp)]; omega
        have hcs : c'.size = xs.length * sz := by have := h4.1; simp only [Array.length_toList] at this; rw [this, hfl]
        refine ⟨c', h3, done_row hr.ok hk (New.alloc w _) (Nat.le_refl _) ?_ hcs hsz hleaf (by rw [List.take_of_length_le (by simp [hcs])]; exact h4)⟩
        have := Nat.le_mul_of_pos_right xs.length hpos
        simp only [maxLen]; omega
      unfold Instr.buildSlice
      simp only [Sem.run_bind, run_underlying (elemOf_und he), Result.andThen_ok, run_sizeOf hs]
      rw [if_neg (by omega)]
      by_cases hn : xs.length * sz = 0
      · obtain ⟨c', h3, h4⟩ := key ((Array.range (xs.length * sz)).map (fun i => (#[] : Array Value)[i % (#[] : Array Value).size]!)) (hzero _)
        refine ⟨_, _, _, ?_, h4⟩
        rw [if_pos hn]
        simp only [Sem.run_pure, Result.andThen_ok, Sem.run_bind, h3]
        simp [newRow]
      · obtain ⟨c', h3, h4⟩ := key ((Array.range (xs.length * sz)).map (fun i => z.cells[i % z.cells.size]!)) (hzero _)
        refine ⟨_, _, _, ?_, h4⟩
        rw [if_neg hn]
        simp only [Sem.run_bind, run_zeroValue hi' hz', Sem.run_pure, Result.andThen_ok, h3]
        simp [newRow]
    · cases ha
  · cases ha

end Go.Proofs.Ytidnkaopndmigaa.V
end
section
set_option linter.unusedSimpArgs false
set_option linter.unusedVariables false
/- append: to nil, or to a row that the call alone holds. -/
namespace Go.Proofs.Ytidnkaopndmigaa.V
open Go.RowKit

variable {P : Program} {B : Nat → Nat → Prop} {M0 : Fr} {p : Pm} {C : List Loc} {T : List A} {X : List (Nat × List A)} {w : World}

theorem flat_get {sz : Nat} : ∀ (xs : List D) (i : Nat) x (j : Nat) d, (∀ x ∈ xs, x.cells.length = sz) → xs[i]? = some x → x.cells[j]? = some d → (xs.flatMap D.cells)[i * sz + j]? = some d
  | [], i, x, j, d, _, hx, _ => by simp at hx
  | y :: ys, i, x, j, d, hs, hx, hd => by
    have hy := hs y (by simp)
    cases i with
    | zero =>
      simp at hx; subst hx
      have hj : j < sz := by rw [← hy]; exact (List.getElem?_eq_some_iff.1 hd).1
      simp only [List.flatMap_cons, Nat.zero_mul, Nat.zero_add]
      rw [List.getElem?_append_left (by omega)]; exact hd
    | succ i =>
      simp at hx
      have h1 := flat_get ys i x j d (fun z hz => hs z (by simp [hz])) hx hd
      simp only [List.flatMap_cons, Nat.add_mul, Nat.one_mul]
      rw [List.getElem?_append_right (by omega), hy, show i * sz + sz + j - sz = i * sz + j from by omega]
      exact h1

theorem flat_len {sz : Nat} : ∀ (xs : List D), (∀ x ∈ xs, x.cells.length = sz) → (xs.flatMap D.cells).length = xs.length * sz
  | [], _ => by simp
  | y :: ys, hs => by
    simp only [List.flatMap_cons, List.length_append, List.length_cons, Nat.add_mul, Nat.one_mul]
    rw [flat_len ys (fun z hz => hs z (by simp [hz])), hs y (by simp)]; omega

theorem VD.one {M : Mut} {d : D} {v : Value} (h : VD w M d v) (hl : d.leaf = true) : v.oneCell' = true := by
  cases h <;> first | rfl | simp [D.leaf] at hl

/-- The cells of a slice that reads as ys. -/
theorem src_cells {M : Mut} {ys : List D} {a : Addr} {n cap sz : Nat} (h : VD w M (.sl ys) (.slice (some a) n cap)) (hsz : ∀ y ∈ ys, y.cells.length = sz) (hpos : 0 < sz) :
    ∃ news : List Value, n = ys.length ∧ news.length = n * sz ∧ (∀ (j : Nat) u, news[j]? = some u → w.cell? (a.add j) = some u ∧ ¬ M a.block (a.off + j)) ∧ Row w M (ys.flatMap D.cells) news ∧ (∀ u ∈ news, u.oneCell' = true) ∧ ∀ y ∈ ys, ∀ d ∈ y.cells, d.leaf = true := by
  rcases VD.sl_inv h with ⟨_, c, hv⟩ | ⟨a', cap', sz', u, hv, hcap, hs', hc⟩
  · cases hv
  · injection hv with h1 h2 h3
    injection h1 with h1
    subst h1; subst h2; subst h3
    have hss : ys = [] ∨ sz' = sz := by
      cases ys with
      | nil => exact .inl rfl
      | cons y ys => exact .inr (by rw [← hs' 0 y rfl]; exact hsz y (by simp))
    have at_ : ∀ k, k < ys.length * sz → ∃ x d, ys[k / sz]? = some x ∧ x.cells[k % sz]? = some d := by
      intro k hk
      have hi : k / sz < ys.length := Nat.div_lt_of_lt_mul (by rw [Nat.mul_comm]; exact hk)
      have hj : k % sz < (ys[k / sz]).cells.length := by rw [hsz _ (List.getElem_mem hi)]; exact Nat.mod_lt _ hpos
      exact ⟨ys[k / sz], (ys[k / sz]).cells[k % sz], List.getElem?_eq_getElem hi, List.getElem?_eq_getElem hj⟩
    have hk : ∀ k, k / sz * sz + k % sz = k := fun k => by rw [Nat.mul_comm]; exact Nat.div_add_mod k sz
    have get : ∀ k, k < ys.length * sz → w.cell? (a.add k) = some (u (k / sz) (k % sz)) ∧ ¬ M a.block (a.off + k) ∧ ∃ d, (ys.flatMap D.cells)[k]? = some d ∧ d.leaf = true ∧ VD w M d (u (k / sz) (k % sz)) := by
      intro k hlt
      obtain ⟨x, d, hx, hd⟩ := at_ k hlt
      have hne : ys ≠ [] := by intro e; subst e; simp at hx
      obtain rfl := hss.resolve_left hne
      obtain ⟨q1, q2, q3, q4⟩ := hc _ x _ d hx hd
      rw [hk k] at q2 q3
      have q5 := flat_get ys _ x _ d hsz hx hd
      rw [hk k] at q5
      exact ⟨q2, q3, d, q5, q1, q4⟩
    have hnews : ∀ (j : Nat) v, ((List.range (ys.length * sz)).map fun k => u (k / sz) (k % sz))[j]? = some v → j < ys.length * sz ∧ v = u (j / sz) (j % sz) := by
      intro j v hj
      simp only [List.getElem?_map, Option.map_eq_some_iff] at hj
      obtain ⟨k, hk', rfl⟩ := hj
      have hlt : j < ys.length * sz := by have := (List.getElem?_eq_some_iff.1 hk').1; simpa using this
      rw [List.getElem?_range hlt] at hk'; obtain rfl := Option.some.inj hk'
      exact ⟨hlt, rfl⟩
    refine ⟨(List.range (ys.length * sz)).map fun k => u (k / sz) (k % sz), rfl, by simp, fun j v hj => ?_, ⟨by simp [flat_len ys hsz], fun j d v hd hv => ?_⟩, fun v hv => ?_, fun y hy d hd => ?_⟩
    · obtain ⟨hlt, rfl⟩ := hnews j v hj
      exact ⟨(get j hlt).1, (get j hlt).2.1⟩
    · obtain ⟨hlt, rfl⟩ := hnews j v hv
      obtain ⟨_, _, d', h1, _, h2⟩ := get j hlt
      rw [hd] at h1; obtain rfl := Option.some.inj h1
      exact h2
    · obtain ⟨j, hj⟩ := List.getElem?_of_mem hv
      obtain ⟨hlt, rfl⟩ := hnews j v hj
      obtain ⟨_, _, d', _, h1, h2⟩ := get j hlt
      exact h2.one h1
    · obtain ⟨i, hi⟩ := List.getElem?_of_mem hy
      obtain ⟨j, hj⟩ := List.getElem?_of_mem hd
      exact (hc i y j d hi hj).1

theorem New.drew (w : World) (o : Obj) : New w (w.drew.alloc o) o := ⟨rfl, rfl, rfl, rfl⟩

theorem run_append_src_none {t ty el : TypeId} {i : TypeInfo} (ht : P.underlying t = some (.slice el)) (hi : P.info? el = some i) {v : Value} {n cap c : Nat} {a : Option Addr} (hv : v = .slice a n cap) (hcap : n ≤ cap) :
    (Builtin.append_ #[t, t] ty #[v, .slice none 0 c]).run P w = .ok v w := by
  subst hv
  simp [Builtin.append_, run_underlying ht, sizeOf, typeInfo, hi, Builtin.lenOf, hcap, Builtin.firstCells]
  cases a <;> simp [storeCells]

/-- What the dst's row is when the row at l has been handed over to it. -/
def Pm.hand (p : Pm) (use : List Loc) (l : Loc) (h : Hdr) : Pm := { p with gr := fun l' => if l' = l then some h else if l' ∈ use then none else p.gr l' }

theorem setRow_heap_same {w : World} {g : Nat} {cur cs : Array Value} {t : TypeId} (hg : w.heap[g]? = some (.cells cur t (0, 0))) : (w.setRow g cs).heap[g]? = some (.cells cs t (0, 0)) := setRow_heap w g cur cs t (0, 0) hg

theorem sound_append_room {dst : Nat} {l : Loc} {h : Hdr} {xs ys : List D} {news : List Value} {c : Array Value} {use : List Loc} (ok : p.ok B M0 w) (hk : p.gr (.t dst) = none) (hl : p.gr l = some h) (huse : l ∈ use) (hb : w.heap[h.b]? = some (.cells c h.e (0, 0)))
    (hlen : h.len = xs.length) (hroom : h.len + ys.length ≤ h.cap) (hnl : news.length = ys.length * h.size) (hx : VD w (p.M M0) (.sl xs) (.slice (some ⟨h.b, 0, none⟩) h.len h.cap)) (hsx : ∀ x ∈ xs, x.cells.length = h.size) (hsy : ∀ y ∈ ys, y.cells.length = h.size) (hpos : 0 < h.size)
    (hrow : Row w (p.M M0) (ys.flatMap D.cells) news) (hly : ∀ y ∈ ys, ∀ d ∈ y.cells, d.leaf = true) :
    Done B M0 p C w dst (.grow h.e h.size (xs ++ ys)) { use := use } (.slice (some ⟨h.b, 0, none⟩) (h.len + ys.length) h.cap) (w.setRow h.b (c.toList.take (h.len * h.size) ++ news ++ c.toList.drop (h.len * h.size + news.length)).toArray)
      (p.hand use (.t dst) { h with len := h.len + ys.length }) := by
  obtain ⟨q1, q2, q3, c', q4, q5⟩ := ok.gr _ _ hl
  rw [hb] at q4; injection q4 with q4; injection q4 with q4; subst q4
  have hmul : (h.len + ys.length) * h.size ≤ h.cap * h.size := Nat.mul_le_mul_right _ hroom
  rw [Nat.add_mul] at hmul
  generalize hcs : (c.toList.take (h.len * h.size) ++ news ++ c.toList.drop (h.len * h.size + news.length)).toArray = cs
  have hcsz : cs.size = c.size := by subst hcs; simp; omega
  have hhead : ∀ k, k < h.len * h.size → cs[k]? = c[k]? := by
    intro k hk'
    subst hcs
    simp only [List.getElem?_toArray, List.append_assoc]
    rw [List.getElem?_append_left (by simp; omega), List.getElem?_take, if_pos hk']; simp
  have hothers : ∀ k, k ≠ h.b → (w.setRow h.b cs).heap[k]? = w.heap[k]? := fun k hk' => setRow_other w h.b k cs hk'
  have hsame : (w.setRow h.b cs).heap[h.b]? = some (.cells cs h.e (0, 0)) := setRow_heap_same hb
  have hM : ∀ b i, (p.hand use (.t dst) { h with len := h.len + ys.length }).M M0 b i → (p.M M0) b i := by
    intro b i hm
    rcases hm with hm | ⟨k, hm⟩ | ⟨l', h', h1, h2, h3⟩
    · exact .inl hm
    · exact .inr (.inl ⟨k, hm⟩)
    · simp only [Pm.hand] at h1
      split at h1
      · injection h1 with h1; subst h1
        simp only at h2 h3
        exact .inr (.inr ⟨l, h, hl, h2, by rw [Nat.add_mul] at h3; omega⟩)
      · split at h1
        · cases h1
        · exact .inr (.inr ⟨l', h', h1, h2, h3⟩)
  have hcell : ∀ (a : Addr) u, w.cell? a = some u → (a.block = h.b → a.off < h.len * h.size) → (w.setRow h.b cs).cell? a = some u := by
    intro a u hc hn
    by_cases hab : a.block = h.b
    · have hlt := hn hab
      unfold World.cell? at hc ⊢
      rw [hab, hb] at hc
      rw [hab, hsame]
      simp only at hc ⊢
      split at hc
      · cases hc
      · rename_i hs; rw [if_neg hs, hhead _ hlt]; exact hc
    · rw [World.cell?_of_block (w := w) (hothers _ hab)]; exact hc
  have hkeep : Keep w (p.M M0) (w.setRow h.b cs) ((p.hand use (.t dst) { h with len := h.len + ys.length }).M M0) := by
    intro a u hc hn
    refine ⟨hcell a u hc fun hab => ?_, fun hm => hn (hM _ _ hm)⟩
    apply Classical.byContradiction; intro hge
    exact hn (.inr (.inr ⟨l, h, hl, hab.symm, by omega⟩))
  have hrowx : Row w (p.M M0) (xs.flatMap D.cells) (c.toList.take (h.len * h.size)) := by
    obtain ⟨olds, h1, h2, h3, h4, _⟩ := src_cells hx hsx hpos
    have : olds = c.toList.take (h.len * h.size) := by
      apply List.ext_getElem?
      intro j
      by_cases hj : j < h.len * h.size
      · have h5 := (h3 j (olds[j]'(by omega)) (List.getElem?_eq_getElem (by omega))).1
        rw [Addr.add_lit, cell_of_row w _ _ _ _ _ hb, Nat.zero_add] at h5
        rw [List.getElem?_take, if_pos hj, List.getElem?_eq_getElem (by omega), ← h5]; simp
      · rw [List.getElem?_eq_none (by omega), List.getElem?_eq_none (by simp; omega)]
    rw [← this]; exact h4
  obtain ⟨_, _, _, _, _, _, hlx⟩ := src_cells hx hsx hpos
  have hsall : ∀ x ∈ xs ++ ys, x.cells.length = h.size := fun x hx' => by rcases List.mem_append.1 hx' with h' | h' <;> simp_all
  refine ⟨⟨fun b i h => ⟨(ok.m0 b i h).1, by simpa using (ok.m0 b i h).2⟩, fun k hk => ok.size k (by simpa using hk), fun k b hbx => ?_, fun l' h' hg => ?_, ok.bxi, fun l1 l2 h1 h2 g1 g2 e => ?_, fun k b l' h' hbx hg => ?_, fun k b t n hf => ?_⟩, ⟨hkeep, fun k b hbx => hbx, fun l' h' hl' hg => ?_, fun l' hl' hc => hl' (by simp [hc]), fun k b c' t hbx hh => ⟨c', by rw [hothers _ (ok.dis _ _ _ _ hbx hl)]; exact hh, rfl⟩⟩, fun k b hbx => hothers _ (ok.dis _ _ _ _ hbx hl), ⟨rfl, rfl, rfl, by simp, fun k _ hk' => hothers _ (fun e => hk' (h.len * h.size) (by rw [e]; exact q1 _ (Nat.le_refl _))), fun a u hu ho => hcell a u hu fun hab => Nat.lt_of_not_le fun hle => ho (by rw [hab]; exact q1 _ hle)⟩, (fun ls' hh => by cases hh), ⟨?_, fun _ => ?_⟩, fun _ _ h => h, fun l' hl' h' => by simp only [Pm.hand]; rw [if_neg hl']; split <;> first | rfl | exact h'⟩
  · obtain ⟨r1, c'', T', r2⟩ := ok.bx _ _ hbx
    exact ⟨r1, c'', T', by rw [hothers _ (ok.dis _ _ _ _ hbx hl)]; exact r2⟩
  · simp only [Pm.hand] at hg
    split at hg
    · injection hg with hg; subst hg
      exact ⟨fun i hi => q1 i (by simp only [Nat.add_mul] at hi; omega), hroom, q3, cs, hsame, by simp only; omega⟩
    · split at hg
      · cases hg
      · rename_i hnu
        obtain ⟨r1, r2, r3, c'', r4, r5⟩ := ok.gr _ _ hg
        exact ⟨r1, r2, r3, c'', by rw [hothers _ (fun e => hnu (by rw [ok.gri _ _ _ _ hg hl e]; exact huse))]; exact r4, r5⟩
  · simp only [Pm.hand] at g1 g2
    have hsub : ∀ l' h', p.gr l' = some h' → l' ∉ use → h'.b ≠ h.b := fun l' h' hg hn e => hn (by rw [ok.gri _ _ _ _ hg hl e]; exact huse)
    split at g1 <;> split at g2
    · simp_all
    · injection g1 with g1; subst g1
      split at g2
      · cases g2
      · rename_i hn; exact absurd e.symm (hsub _ _ g2 hn)
    · injection g2 with g2; subst g2
      split at g1
      · cases g1
      · rename_i hn; exact absurd e (hsub _ _ g1 hn)
    · split at g1
      · cases g1
      · split at g2
        · cases g2
        · exact ok.gri _ _ _ _ g1 g2 e
  · simp only [Pm.hand] at hg
    split at hg
    · injection hg with hg; subst hg; exact ok.dis k b l h hbx hl
    · split at hg
      · cases hg
      · exact ok.dis _ _ _ _ hbx hg
  · obtain ⟨f1, f2, cf, f3, f4⟩ := ok.fx _ _ _ _ hf
    exact ⟨f1, f2, cf, by rw [hothers _ (ok.dis _ _ _ _ f2 hl)]; exact f3, f4⟩
  · simp only [Pm.hand]
    rw [if_neg (fun e => by rw [e, hk] at hg; cases hg), if_neg (fun e => hl' (by simp [e]))]; exact hg
  · have := row_vd (w := w.setRow h.b cs) (M := (p.hand use (.t dst) { h with len := h.len + ys.length }).M M0) (xs := xs ++ ys) (cap := h.cap) hsame hsall (fun x hx' => by rcases List.mem_append.1 hx' with h' | h'; exact hlx x h'; exact hly x h') ?_ ?_ (by simp; omega)
    · have e1 : (xs ++ ys).length = h.len + ys.length := by simp [hlen]
      rw [e1] at this; exact this
    · rw [List.flatMap_append]
      have e1 : cs.toList.take ((xs ++ ys).length * h.size) = c.toList.take (h.len * h.size) ++ news := by
        subst hcs
        have e2 : (c.toList.take (h.len * h.size) ++ news).length = (xs ++ ys).length * h.size := by
          have e3 : (c.toList.take (h.len * h.size)).length = h.len * h.size := by rw [List.length_take, Array.length_toList]; omega
          rw [List.length_append, e3, hnl, List.length_append, Nat.add_mul, hlen]
        simp only []
        rw [← e2]; exact List.take_left
      rw [e1]
      exact (hrowx.mono hkeep).append (hrow.mono hkeep)
    · intro i hi hm
      rcases hm with hm | ⟨k, hm⟩ | ⟨l', h', h1, h2, h3⟩
      · by_cases hlt : i < h.len * h.size
        · obtain ⟨olds, _, h2, h3, _⟩ := src_cells hx hsx hpos
          have h5 := (h3 i (olds[i]'(by omega)) (List.getElem?_eq_getElem (by omega))).2
          exact h5 (.inl (by simpa using hm))
        · exact (ok.m0 _ _ hm).1 (q1 _ (by omega))
      · exact ok.dis _ _ _ _ hm hl rfl
      · simp only [Pm.hand] at h1
        split at h1
        · injection h1 with h1; subst h1; simp only [List.length_append] at h3 hi; rw [← hlen] at hi; omega
        · split at h1
          · cases h1
          · rename_i hn; exact hn (by rw [ok.gri _ _ _ _ h1 hl h2]; exact huse)
  · exact .inr ⟨{ h with len := h.len + ys.length }, by simp [Pm.hand], rfl, rfl, rfl, by simp [hlen], fun i x hx' => hsall x (List.mem_of_getElem? hx')⟩

end Go.Proofs.Ytidnkaopndmigaa.V
end
section
set_option linter.unusedSimpArgs false
set_option linter.unusedVariables false
/- append, all its cases; the largest of two numbers. -/
namespace Go.Proofs.Ytidnkaopndmigaa.V
open Go.RowKit

variable {P : Program} {B : Nat → Nat → Prop} {M0 : Fr} {p : Pm} {C : List Loc} {T : List A} {X : List (Nat × List A)} {w : World}

theorem run_append_nothing {t ty el : TypeId} {i : TypeInfo} (ht : P.underlying t = some (.slice el)) (hi : P.info? el = some i) {n cap c : Nat} {a b : Option Addr} (hcap : n ≤ cap) :
    (Builtin.append_ #[t, t] ty #[.slice a n cap, .slice b 0 c]).run P w = .ok (.slice a n cap) w := by
  have h0 : (Builtin.firstCells i.size 0 (.slice b 0 c)).run P w = .ok #[] w := by
    cases b <;> simp [Builtin.firstCells, loadCells, loadCellsFrom]
  cases a <;> simp [Builtin.append_, run_underlying ht, sizeOf, typeInfo, hi, Builtin.lenOf, hcap, h0, storeCells]

theorem done_hand {dst : Nat} {l : Loc} {h : Hdr} {xs : List D} {use : List Loc} (ok : p.ok B M0 w) (hk : p.gr (.t dst) = none) (hl : p.gr l = some h) (huse : l ∈ use) (hlen : h.len = xs.length)
    (hx : VD w (p.M M0) (.sl xs) (.slice (some ⟨h.b, 0, none⟩) h.len h.cap)) (hsx : ∀ x ∈ xs, x.cells.length = h.size) (hpos : 0 < h.size) :
    Done B M0 p C w dst (.grow h.e h.size (xs ++ [])) { use := use } (.slice (some ⟨h.b, 0, none⟩) h.len h.cap) w (p.hand use (.t dst) h) := by
  obtain ⟨q1, q2, q3, c, q4, q5⟩ := ok.gr _ _ hl
  have := sound_append_room (C := C) (dst := dst) (use := use) (xs := xs) (ys := []) (news := []) (c := c) ok hk hl huse q4 hlen (by simpa using q2) (by simp) hx hsx (by simp) hpos ⟨by simp, by simp⟩ (by simp)
  simp only [List.length_nil, Nat.add_zero, List.append_nil, List.take_append_drop, Array.toArray_toList] at this
  rw [setRow_self w h.b c h.e (0, 0) q4] at this
  simpa using this

theorem sound_append {act : Act} (hr : Rel B M0 p C T X act.tmps w) {dst : Nat} {ty : TypeId} {cl : Call} (hcl : cl.callee = .builtin .append) {c : Prop} {a : A} {e : Eff} (hk : p.gr (.t dst) = none)
    (ha : aval P T X C dst (.call cl) = some (c, a, e)) (hc : c) :
    ∃ v w' p', (Builtin.append_ cl.argTypes ty (cl.args.map act.eval)).run P w = .ok v w' ∧ Done B M0 p C w dst a e v w' p' := by
  obtain ⟨cal, args, ats⟩ := cl
  simp only at hcl
  subst hcl
  obtain ⟨args⟩ := args
  obtain ⟨ats⟩ := ats
  simp only [aval] at ha
  split at ha
  · rename_i x y t t'
    split at ha
    · rename_i el h3
      split at ha
      · rename_i sz by_ h5 h6
        split at ha
        rotate_left
        · cases ha
        rename_i xs use ys h1 h2
        split at ha
        · rename_i htt
          simp only [Option.some.injEq, Prod.mk.injEq] at ha
          obtain ⟨rfl, rfl, rfl⟩ := ha
          obtain ⟨hby, hmax, hsy⟩ := hc
          obtain ⟨rfl, hzs⟩ := htt
          obtain ⟨i, hi, his⟩ := szOf_info h5
          have his : i.size = sz + 1 := his
          obtain ⟨i', hi', hib⟩ := bytesOf_info h6
          rw [hi] at hi'; obtain rfl := Option.some.inj hi'
          have ht := elemOf_und h3
          obtain ⟨zl, hzl⟩ := Option.isSome_iff_exists.1 (show ((zeroOf P el).filter fun l => l.length = sz + 1).isSome from hzs)
          rw [Option.filter_eq_some_iff] at hzl
          obtain ⟨hz, hzlen⟩ := hzl
          obtain ⟨i', z, hi', hzv, hzm⟩ := zeroOf_inv hz
          rw [hi] at hi'; obtain rfl := Option.some.inj hi'
          have hzsz : z.cells.size = i.size := by have := (mapM_aOfV hzm).1; simp at hzlen this; omega
          have hpos : 0 < sz + 1 := by omega
          have hy := dnd_vd hr h2
          have hargs : (Array.map act.eval ⟨[x, y]⟩) = #[act.eval x, act.eval y] := by simp
          show ∃ v w' p', (Builtin.append_ #[t, t] ty (Array.map act.eval ⟨[x, y]⟩)).run P w = .ok v w' ∧ _
          rw [hargs]
          simp only [Option.bind_eq_some_iff] at h1
          obtain ⟨ax, hax, hbase⟩ := h1
          have hvx := opnd_va hr hax (l := .t 0)
          -- nil
          have nilcase : xs = [] → act.eval x = .slice none 0 0 → ∃ v w' p', (Builtin.append_ #[t, t] ty #[act.eval x, act.eval y]).run P w = .ok v w' ∧ Done B M0 p C w dst (.grow el (sz + 1) (xs ++ ys)) { use := use } v w' p' := by
            intro hxs hvx
            subst hxs
            rw [hvx]
            have hnil : ys = [] → ∀ (b : Option Addr) (c : Nat), act.eval y = .slice b 0 c → ∃ v w' p', (Builtin.append_ #[t, t] ty #[.slice none 0 0, act.eval y]).run P w = .ok v w' ∧ Done B M0 p C w dst (.grow el (sz + 1) ([] ++ ys)) { use := use } v w' p' := by
              intro hys b c hvy
              subst hys
              rw [hvy]
              refine ⟨_, w, p, run_append_nothing ht hi (Nat.le_refl _), hr.ok, ⟨Keep.refl _ _, fun _ _ h => h, fun _ _ _ h => h, fun l hl hc => hl (by simp [hc]), fun _ _ c _ _ h => ⟨c, h, rfl⟩⟩, fun _ _ _ => rfl, Away.refl _ _, (fun _ h => by cases h), ⟨VD.nil 0, fun _ => .inl ⟨rfl, rfl⟩⟩, fun _ _ h => h, fun _ _ h => h⟩
            rcases VD.sl_inv hy with ⟨hys, cy, hvy⟩ | ⟨ay, cy, szy, u, hvy, _⟩
            · exact hnil hys none cy hvy
            · by_cases hys : ys = []
              · exact hnil hys (some ay) cy (by rw [hvy, hys]; rfl)
              · rw [hvy] at hy ⊢
                obtain ⟨news, _, n2, n3, n4, _, n6⟩ := src_cells hy hsy hpos
                have hyl : 0 < ys.length := List.length_pos_iff.2 hys
                have hcapm := grownCap_le_maxLen w ys.length 0 el (by simpa using hmax)
                have hge := grownCap_ge w ys.length 0 el
                have hrun := run_append_nil (P := P) w t ty el i z ht hi hzv ay ys.length cy news (by rw [his]; exact n2) (fun j u hu => (n3 j u hu).1) hyl (by simp only [maxLen] at hmax; simp at hmax; omega) (by simp only [List.length_nil, Nat.zero_add] at hby; rw [hib]; omega)
                refine ⟨_, _, _, hrun, done_row (xs := [] ++ ys) (sz := sz + 1) (use := use) hr.ok hk (New.drew w _) (by simpa using hge) hcapm ?_ (by simpa using hsy) (by simpa using n6) ?_⟩
                · simp only [Array.size_append, List.size_toArray, size_zeroCells, hzsz, n2, his, ← Nat.add_mul]; congr 1; omega
                · simp only [List.nil_append, Array.toList_append]
                  rw [← n2, List.take_left]; exact n4
          cases ax with
          | nil =>
            simp only [baseA, Option.some.injEq, Prod.mk.injEq] at hbase
            obtain ⟨rfl, rfl⟩ := hbase
            exact nilcase rfl hvx
          | bor l e0 sz0 zs =>
            simp only [baseA] at hbase
            split at hbase
            · cases hbase
            · rename_i hlc0
              simp only [not_or, Decidable.not_not] at hlc0
              obtain ⟨hlc, rfl, rfl⟩ := hlc0
              simp only [Option.some.injEq, Prod.mk.injEq] at hbase
              obtain ⟨rfl, rfl⟩ := hbase
              rcases hvx.2 hlc with ⟨hz0, hv0⟩ | ⟨h, hg, rfl, hsame, hv0, hlen, hsz⟩
              · exact nilcase hz0 hv0
              · have hx : VD w (p.M M0) (.sl zs) (.slice (some ⟨h.b, 0, none⟩) h.len h.cap) := by rw [← hv0]; exact hvx.1
                obtain ⟨q1, q2, q3, c, q4, q5⟩ := hr.ok.gr _ _ hg
                rw [hv0]
                · have hsx : ∀ x ∈ zs, x.cells.length = h.size := fun x hx => by obtain ⟨j, hj⟩ := List.getElem?_of_mem hx; exact hsz j x hj
                  have handcase : ys = [] → ∀ (b : Option Addr) (c : Nat), act.eval y = .slice b 0 c → ∃ v w' p', (Builtin.append_ #[t, t] ty #[.slice (some ⟨h.b, 0, none⟩) h.len h.cap, act.eval y]).run P w = .ok v w' ∧ Done B M0 p C w dst (.grow h.e (sz + 1) (zs ++ ys)) { use := [l] } v w' p' := by
                    intro hys b c hvy
                    subst hys
                    rw [hvy]
                    exact ⟨_, _, _, run_append_nothing ht hi q2, (by rw [← hsame]; exact done_hand hr.ok hk hg (by simp) hlen hx hsx (by omega))⟩
                  rcases VD.sl_inv hy with ⟨hys, cy, hvy⟩ | ⟨ay, cy, szy, u, hvy, _⟩
                  · exact handcase hys none cy hvy
                  · rw [hvy] at hy ⊢
                    obtain ⟨news, _, n2, n3, n4, n5, n6⟩ := src_cells hy hsy hpos
                    by_cases hroom : h.len + ys.length ≤ h.cap
                    · have hfit : h.len * i.size + news.length ≤ c.size := by rw [n2, q5, his, hsame, ← Nat.add_mul]; exact Nat.mul_le_mul_right _ hroom
                      have hrun := run_append_room (P := P) w t ty h.e i (by rw [ht] ) hi h.b h.len h.cap c q4 ay ys.length cy news (by rw [his]; exact n2) (fun j u hu => (n3 j u hu).1) n5 hroom hfit
                      refine ⟨_, _, p.hand [l] (.t dst) { h with len := h.len + ys.length }, hrun, ?_⟩
                      have := sound_append_room (C := C) (dst := dst) (use := [l]) (xs := zs) (ys := ys) (news := news) (c := c) hr.ok hk hg (by simp) q4 hlen hroom (by rw [hsame]; exact n2) hx hsx (by rw [hsame]; exact hsy) (by omega) n4 n6
                      rw [his, ← hsame]; exact this
                    · obtain ⟨olds, o1, o2, o3, o4, o5, o6⟩ := src_cells hx hsx (by omega)
                      have hcapm := grownCap_le_maxLen w (h.len + ys.length) h.cap h.e (by rw [hlen]; exact hmax)
                      have hge := grownCap_ge w (h.len + ys.length) h.cap h.e
                      have hrun := run_append_grow (P := P) w t ty h.e i z ht hi hzv ⟨h.b, 0, none⟩ h.len h.cap olds (by rw [his, ← hsame]; exact o2) (fun j u hu => (o3 j u hu).1) ay ys.length cy news (by rw [his]; exact n2) (fun j u hu => (n3 j u hu).1) (by omega)
                        (by rw [hlen]; simp only [maxLen] at hmax; omega) (growslice_fits (by omega) (by rw [hib, hlen]; exact hby))
                      have hll : (zs ++ ys).length = h.len + ys.length := by simp [hlen]
                      rw [← hll] at hrun hcapm hge
                      refine ⟨_, _, _, hrun, done_row (xs := zs ++ ys) (sz := sz + 1) (use := [l]) hr.ok hk (New.drew w _) hge hcapm ?_ (fun x hx => by rcases List.mem_append.1 hx with h' | h'; rw [hsx x h', hsame]; exact hsy x h') (fun x hx => by rcases List.mem_append.1 hx with h' | h'; exact o6 x h'; exact n6 x h') ?_⟩
                      · simp only [Array.size_append, List.size_toArray, size_zeroCells, hzsz, n2, o2, his, hsame, ← Nat.add_mul, ← hll]; congr 1; omega
                      · simp only [List.flatMap_append, Array.toList_append]
                        have e1 : (olds ++ news).length = (zs ++ ys).length * (sz + 1) := by rw [List.length_append, o2, n2, hsame, ← Nat.add_mul, hll]
                        rw [← e1, List.take_left]
                        exact o4.append n4
          | _ => simp [baseA] at hbase
        · cases ha
      · cases ha
    · cases ha
  · cases ha

end Go.Proofs.Ytidnkaopndmigaa.V
end
section
set_option linter.unusedSimpArgs false
set_option linter.unusedVariables false
/- Every operation: what it yields in a run is what it yields over values without memory. -/
namespace Go.Proofs.Ytidnkaopndmigaa.V
open Go.RowKit

variable {P : Program} {B : Nat → Nat → Prop} {M0 : Fr} {p : Pm} {C : List Loc} {T : List A} {X : List (Nat × List A)} {w : World}

theorem Runs.of {dst : Nat} {a : A} {e : Eff} {s : Sem Value} {sn : Sem Next} (hsn : sn = (do Pure.pure (Next.value (← s)))) (h : ∃ v w' p', s.run P w = .ok v w' ∧ Done B M0 p C w dst a e v w' p') : Runs P B M0 p C w dst a e sn := by
  obtain ⟨v, w', p', h1, h2⟩ := h
  subst hsn
  exact ⟨v, w', p', run_v h1, h2⟩

theorem Runs.of_pure {dst : Nat} {a : A} {e : Eff} {s : Sem Value} {sn : Sem Next} (hr : p.ok B M0 w) (hsn : sn = (do Pure.pure (Next.value (← s)))) (h : ∃ v, s.run P w = .ok v w ∧ VA w (p.M M0) p C (.t dst) a v ∧ e = {}) : Runs P B M0 p C w dst a e sn := by
  obtain ⟨v, h1, h2, rfl⟩ := h
  exact Runs.of hsn ⟨v, w, p, h1, Done.pure hr h2⟩

theorem opnd_ret {act : Act} (hr : Rel B M0 p C T X act.tmps w) {dst : Nat} {x : Operand} {c : Prop} {a : A} {e : Eff} (ha : (opnd T x).bind yes = some (c, a, e)) : Runs P B M0 p C w dst a e (Pure.pure (Next.value (act.eval x))) := by
  simp only [Option.bind_eq_some_iff, yes, Option.some.injEq, Prod.mk.injEq] at ha
  obtain ⟨a', h1, rfl, rfl, rfl⟩ := ha
  exact Runs.pure hr.ok rfl (opnd_va hr h1)

theorem call_builtin {b : Builtin} {cl : Call} {ρ : Operand → Value} {o : Oper} (ho : o.op = .call cl) (hcl : cl.callee = .builtin b) :
    execOp ρ o = (do let d ← resolve ρ cl o.type; invoke d.target d.args) ∧ ∀ w, (do let d ← resolve ρ cl o.type; invoke d.target d.args : Sem Next).run P w = (builtin b cl.argTypes o.type (cl.args.map fun | .const _ => true | _ => false) (cl.args.map ρ)).run P w := by
  refine ⟨by simp only [execOp, ho], fun w => ?_⟩
  simp only [resolve, hcl, Sem.run_bind, Sem.run_pure, Result.andThen_ok, invoke]
  rfl

theorem Runs.congr {dst : Nat} {a : A} {e : Eff} {s s' : Sem Next} (h : s.run P w = s'.run P w) (hh : Runs P B M0 p C w dst a e s') : Runs P B M0 p C w dst a e s := by
  obtain ⟨v, w', p', h1, h2⟩ := hh
  exact ⟨v, w', p', h.trans h1, h2⟩

def needBox : Op → Bool
  | .alloc _ | .box _ _ | .makeSlice _ _ _ => true
  | _ => false
def needRow : Op → Bool
  | .buildSlice _ _ _ => true
  | .call c => match c.callee with
    | .builtin .append => true
    | _ => false
  | _ => false

theorem capsA_sound {act : Act} (hr : Rel B M0 p C T X act.tmps w) : ∀ {xs : List Operand} {cs : List (Nat × Nat)}, capsA T xs = some cs → (xs.map act.eval).length = cs.length ∧ ∀ (j k o : Nat), cs[j]? = some (k, o) → ∃ b, p.bx k = some b ∧ (xs.map act.eval)[j]? = some (.pointer (some ⟨b, o, none⟩))
  | [], cs, h => by simp only [capsA, Option.some.injEq] at h; subst h; exact ⟨rfl, fun j k o h => by simp at h⟩
  | x :: xs, cs, h => by
    simp only [capsA] at h
    split at h
    · rename_i k o l h1 h2
      injection h with h; subst h
      obtain ⟨q1, q2⟩ := capsA_sound hr h2
      refine ⟨by simp at q1 ⊢; exact q1, fun j k' o' hj => ?_⟩
      cases j with
      | zero =>
        simp only [List.getElem?_cons_zero, Option.some.injEq, Prod.mk.injEq] at hj
        obtain ⟨rfl, rfl⟩ := hj
        obtain ⟨b, hb, hv⟩ := opnd_va hr h1 (l := .t 0)
        exact ⟨b, hb, by simp [hv]⟩
      | succ j => simpa using q2 j k' o' (by simpa using hj)
    · cases h

theorem aval_sound {act : Act} (hr : Rel B M0 p C T X act.tmps w) {o : Oper} {dst : Nat} (hb : needBox o.op = true → free p dst) (hg : needRow o.op = true → p.gr (.t dst) = none) {c : Prop} {a : A} {e : Eff} (ha : aval P T X C dst o.op = some (c, a, e)) (hc : c) :
    Runs P B M0 p C w dst a e (execOp act.eval o) := by
  cases ho : o.op with
  | move x => rw [ho] at ha; simp only [execOp, ho]; exact opnd_ret hr ha
  | pick cx x y =>
    rw [ho] at ha
    simp only [aval] at ha
    split at ha
    · rename_i h1
      refine Runs.congr ?_ (opnd_ret hr (x := x) ha)
      simp [execOp, ho, asBool, (dnd_vd hr h1).bool_inv]
    · rename_i h1
      refine Runs.congr ?_ (opnd_ret hr (x := y) ha)
      simp [execOp, ho, asBool, (dnd_vd hr h1).bool_inv]
    · cases ha
  | alloc t => rw [ho] at ha; exact Runs.of (by simp only [execOp, ho]) (sound_alloc hr.ok (hb (by rw [ho]; rfl)) ha)
  | makeSlice t x y => rw [ho] at ha; exact Runs.of (by simp only [execOp, ho]) (sound_make hr (hb (by rw [ho]; rfl)) ha hc)
  | box t x => rw [ho] at ha; exact Runs.of (by simp only [execOp, ho]) (sound_box hr (hb (by rw [ho]; rfl)) ha)
  | build t ps => rw [ho] at ha; exact Runs.of_pure hr.ok (by simp only [execOp, ho]) (sound_build hr ha)
  | buildSlice t n ps => rw [ho] at ha; exact Runs.of (by simp only [execOp, ho]) (sound_buildSlice hr (hg (by rw [ho]; rfl)) ha)
  | load t x => rw [ho] at ha; exact Runs.of_pure hr.ok (by simp only [execOp, ho]) (sound_load hr ha hc)
  | nilCheck x =>
    rw [ho] at ha
    simp only [aval] at ha
    have key : ∀ ad, act.eval x = .pointer (some ad) → (execOp act.eval o).run P w = .ok (.value (.pointer (some ad))) w := fun ad h => by simp [execOp, ho, h]
    split at ha
    · rename_i k off h1
      simp only [yes, Option.some.injEq, Prod.mk.injEq] at ha
      obtain ⟨rfl, rfl, rfl⟩ := ha
      obtain ⟨b, hb', hv⟩ := opnd_va hr h1 (l := .t 0)
      exact Runs.pure hr.ok (key _ hv) ⟨b, hb', rfl⟩
    · rename_i ls h1
      simp only [yes, Option.some.injEq, Prod.mk.injEq] at ha
      obtain ⟨rfl, rfl, rfl⟩ := ha
      obtain ⟨ad, hv, hh⟩ := opnd_va hr h1 (l := .t 0)
      exact Runs.pure hr.ok (key _ hv) ⟨ad, rfl, hh⟩
    · cases ha
  | binOp op t x y t' =>
    rw [ho] at ha
    simp only [aval] at ha
    split at ha
    · rename_i d1 d2 h1 h2
      simp only [Option.bind_eq_some_iff, valIf, Option.some.injEq, Prod.mk.injEq] at ha
      obtain ⟨⟨c', d⟩, h3, rfl, rfl, rfl⟩ := ha
      obtain ⟨r, h4, h5⟩ := run_binA (P := P) (w := w) (op := op) (t := t) (x := x) (y := y) h3 hc (dnd_vd hr h1) (dnd_vd hr h2)
      exact Runs.of_pure (s := do eqGuard op t x y (act.eval x) (act.eval y); binOp op t (act.eval x) (act.eval y)) hr.ok (by simp only [execOp, ho]) ⟨r, h4, h5, rfl⟩
    · cases ha
  | unOp op t x =>
    rw [ho] at ha
    simp only [aval, Option.bind_eq_some_iff, val, yes, Option.some.injEq, Prod.mk.injEq] at ha
    obtain ⟨d, h1, d', h2, rfl, rfl, rfl⟩ := ha
    obtain ⟨r, h3, h4⟩ := run_unD (P := P) (w := w) h2 (dnd_vd hr h1)
    exact Runs.of_pure hr.ok (by simp only [execOp, ho]) ⟨r, h3, h4, rfl⟩
  | convert s t x =>
    rw [ho] at ha
    simp only [aval] at ha
    split at ha
    · rename_i k k' n h1 h2
      split at ha
      · rename_i hs
        simp only [val, yes, Option.some.injEq, Prod.mk.injEq] at ha
        obtain ⟨rfl, rfl, rfl⟩ := ha
        obtain ⟨ds, hds⟩ := Option.isSome_iff_exists.1 hs
        refine Runs.of_pure (s := convert s t (act.eval x)) hr.ok (by simp only [execOp, ho]) ⟨.int k (k.wrap n), ?_, .int _ _, rfl⟩
        rw [(dnd_vd hr h2).int_inv]
        unfold convert
        simp only [Sem.run_bind, run_underlying hds, run_underlying (intOf_und h1), Result.andThen_ok]
        cases ds <;> rfl
      · cases ha
    · cases ha
  | makeFunc f first caps =>
    rw [ho] at ha
    simp only [aval] at ha
    split at ha
    · rename_i g
      split at ha
      · rename_i hf
        simp only [Option.bind_eq_some_iff, yes, Option.some.injEq, Prod.mk.injEq] at ha
        obtain ⟨cs, h1, rfl, rfl, rfl⟩ := ha
        obtain ⟨h2, h3⟩ := capsA_sound hr h1
        refine Runs.of_pure (s := Instr.makeFunc (.func g) (first.map act.eval) (caps.map act.eval)) hr.ok (by simp only [execOp, ho]) ⟨.func (.func g) #[] (caps.map act.eval), ?_, ⟨(caps.toList.map act.eval), by rw [← Array.toList_map], h2, h3⟩, rfl⟩
        have : first = #[] := Array.eq_empty_of_size_eq_zero hf
        subst this
        simp [Instr.makeFunc]
      · cases ha
    · cases ha
  | extract x i => rw [ho] at ha; exact Runs.of_pure hr.ok (by simp only [execOp, ho]) (sound_extract hr ha)
  | field s x f => rw [ho] at ha; exact Runs.of_pure hr.ok (by simp only [execOp, ho]) (sound_field hr ha hc)
  | fieldAddr s x f => rw [ho] at ha; exact Runs.of_pure hr.ok (by simp only [execOp, ho]) (sound_fieldAddr hr ha)
  | indexAddr t x i => rw [ho] at ha; exact Runs.of_pure hr.ok (by simp only [execOp, ho]) (sound_indexAddr hr ha hc)
  | index t x i => rw [ho] at ha; exact Runs.of_pure hr.ok (by simp only [execOp, ho]) (sound_index hr ha hc)
  | slice t x lo hi mx =>
    rw [ho] at ha
    cases mx with
    | none => exact Runs.of_pure hr.ok (by simp only [execOp, ho, Option.map_none]) (sound_slice hr ha hc)
    | some m => simp [aval] at ha
  | call cl =>
    rw [ho] at ha
    obtain ⟨cal, args, ats⟩ := cl
    cases cal with
    | builtin b =>
      obtain ⟨h1, h2⟩ := call_builtin (P := P) (ρ := act.eval) (b := b) ho rfl
      rw [h1]
      refine Runs.congr (h2 w) ?_
      cases b with
      | append => exact Runs.of (by simp only [builtin]) (sound_append hr (ty := o.type) rfl (hg (by rw [ho]; rfl)) ha hc)
      | len => exact Runs.of_pure hr.ok (by simp only [builtin]) (sound_len hr (ty := o.type) rfl ha)
      | max =>
        simp only [aval] at ha
        split at ha
        · rename_i k x k' y h3
          simp only [val, yes, Option.some.injEq, Prod.mk.injEq] at ha
          obtain ⟨rfl, rfl, rfl⟩ := ha
          obtain ⟨args⟩ := args
          obtain ⟨x', y', rfl⟩ : ∃ x' y', args = [x', y'] := by
            have hl : args.length = 2 := by have := congrArg List.length h3; simpa using this
            match args, hl with
            | [x', y'], _ => exact ⟨x', y', rfl⟩
          · simp only [List.map_cons, List.map_nil, List.cons.injEq, and_true] at h3
            refine Runs.of_pure (s := Builtin.max_ ats o.type (Array.map act.eval ⟨[x', y']⟩)) hr.ok (by simp only [builtin]) ⟨.int k (if y > x then y else x), ?_, .int _ _, rfl⟩
            simp [Builtin.max_, Builtin.max2, (dnd_vd hr h3.1).int_inv, (dnd_vd hr h3.2).int_inv]
        · cases ha
      | min =>
        simp only [aval] at ha
        split at ha
        · rename_i k x k' y h3
          simp only [val, yes, Option.some.injEq, Prod.mk.injEq] at ha
          obtain ⟨rfl, rfl, rfl⟩ := ha
          obtain ⟨args⟩ := args
          obtain ⟨x', y', rfl⟩ : ∃ x' y', args = [x', y'] := by
            have hl : args.length = 2 := by have := congrArg List.length h3; simpa using this
            match args, hl with
            | [x', y'], _ => exact ⟨x', y', rfl⟩
          · simp only [List.map_cons, List.map_nil, List.cons.injEq, and_true] at h3
            refine Runs.of_pure (s := Builtin.min_ ats o.type (Array.map act.eval ⟨[x', y']⟩)) hr.ok (by simp only [builtin]) ⟨.int k (if y < x then y else x), ?_, .int _ _, rfl⟩
            simp [Builtin.min_, Builtin.min2, (dnd_vd hr h3.1).int_inv, (dnd_vd hr h3.2).int_inv]
        · cases ha
      | _ => simp [aval] at ha
    | value f => simp [aval] at ha
    | invoke r m => simp [aval] at ha
  | _ => rw [ho] at ha; simp [aval] at ha

end Go.Proofs.Ytidnkaopndmigaa.V
end
section
set_option linter.unusedSimpArgs false
set_option linter.unusedVariables false
/- States of a frame; forgetting; contracts of functions; one operation after the other. -/
namespace Go.Proofs.Ytidnkaopndmigaa.V
open Go.RowKit

variable {P : Program} {B : Nat → Nat → Prop} {M0 : Fr} {p : Pm} {C : List Loc} {T : List A} {X : List (Nat × List A)} {w : World}

structure S where
  T : List A
  X : List (Nat × List A) := []
  C : List Loc := []

/-! Forgetting what is held at some places, and some variables. -/
def gone (ds : List Loc) (ks : List Nat) (l : Loc) : Bool := ds.contains l || match l with | .l k _ => ks.contains k | _ => false
def clA (ds : List Loc) (ks : List Nat) : A → A
  | .bor l e sz xs => if gone ds ks l then .d (.sl xs) else .bor l e sz xs
  | .box k off => if ks.contains k then .unk else .box k off
  | .row k e sz o n => if ks.contains k then .unk else .row k e sz o n
  | .fn g cs => if cs.any (fun c => ks.contains c.1) then .unk else .fn g cs
  | a => a
def clAt (ds : List Loc) (ks : List Nat) (l : Loc) : A → A
  | .grow e sz xs => if gone ds ks l then .d (.sl xs) else .grow e sz xs
  | a => clA ds ks a
def clT (ds : List Loc) (ks : List Nat) : Nat → List A → List A
  | _, [] => []
  | t, a :: T => clAt ds ks (.t t) a :: clT ds ks (t + 1) T
def clL (ds : List Loc) (ks : List Nat) (k : Nat) : Nat → List A → List A
  | _, [] => []
  | j, a :: T => clAt ds ks (.l k j) a :: clL ds ks k (j + 1) T
def clX (ds : List Loc) (ks : List Nat) : List (Nat × List A) → List (Nat × List A)
  | [] => []
  | (k, ls) :: X => if ks.contains k then clX ds ks X else (k, clL ds ks k 0 ls) :: clX ds ks X
def S.clean (s : S) (ds : List Loc) (ks : List Nat) : S := { T := clT ds ks 0 s.T, X := clX ds ks s.X, C := s.C.filter fun l => !gone ds ks l }
def Pm.clean (p : Pm) (ds : List Loc) (ks : List Nat) : Pm := { gr := fun l => if gone ds ks l then none else p.gr l, bx := fun k => if ks.contains k ∧ k < 1000 then none else p.bx k }

theorem clT_get (ds ks) : ∀ (T : List A) (n t : Nat), (clT ds ks n T)[t]? = (T[t]?).map (clAt ds ks (.t (n + t)))
  | [], n, t => by simp [clT]
  | a :: T, n, 0 => by simp [clT]
  | a :: T, n, t + 1 => by simp only [clT, List.getElem?_cons_succ]; rw [clT_get ds ks T (n + 1) t, show n + 1 + t = n + (t + 1) from by omega]
theorem clT_len (ds ks) : ∀ (T : List A) (n : Nat), (clT ds ks n T).length = T.length
  | [], n => rfl
  | a :: T, n => by simp [clT, clT_len ds ks T]
theorem clL_get (ds ks k) : ∀ (T : List A) (n t : Nat), (clL ds ks k n T)[t]? = (T[t]?).map (clAt ds ks (.l k (n + t)))
  | [], n, t => by simp [clL]
  | a :: T, n, 0 => by simp [clL]
  | a :: T, n, t + 1 => by simp only [clL, List.getElem?_cons_succ]; rw [clL_get ds ks k T (n + 1) t, show n + 1 + t = n + (t + 1) from by omega]
theorem clL_len (ds ks k) : ∀ (T : List A) (n : Nat), (clL ds ks k n T).length = T.length
  | [], n => rfl
  | a :: T, n => by simp [clL, clL_len ds ks k T]
theorem clX_lk (ds ks) : ∀ (X : List (Nat × List A)) (k : Nat) ls, lk (clX ds ks X) k = some ls → ks.contains k = false ∧ ∃ ls', lk X k = some ls' ∧ ls = clL ds ks k 0 ls'
  | [], k, ls, h => by simp [clX, lk] at h
  | (k', l') :: X, k, ls, h => by
    simp only [clX] at h
    split at h
    · rename_i hk
      obtain ⟨h1, ls', h2, h3⟩ := clX_lk ds ks X k ls h
      refine ⟨h1, ls', ?_, h3⟩
      simp only [lk]
      rw [if_neg (fun e => by subst e; rw [h1] at hk; cases hk)]; exact h2
    · rename_i hk
      simp only [lk] at h ⊢
      split at h
      · rename_i e; subst e
        injection h with h
        exact ⟨by simpa using hk, l', by simp, h.symm⟩
      · rename_i e
        obtain ⟨h1, ls', h2, h3⟩ := clX_lk ds ks X k ls h
        exact ⟨h1, ls', by rw [if_neg e]; exact h2, h3⟩

theorem VA.clean {M M' : Mut} {ds : List Loc} {ks : List Nat} (hk : Keep w M w M') {l : Loc} {a : A} {v : Value} (h : VA w M p C l a v) : VA w M' (p.clean ds ks) (C.filter fun l => !gone ds ks l) l (clAt ds ks l a) v := by
  have heads : ∀ {l' e sz xs}, gone ds ks l' = false → (l' ∉ C → Heads p l' e sz xs v) → (l' ∉ C.filter fun l => !gone ds ks l) → Heads (p.clean ds ks) l' e sz xs v := by
    intro l' e sz xs hg hh hn
    rcases hh (fun hc => hn (List.mem_filter.2 ⟨hc, by simp [hg]⟩)) with h1 | ⟨h1, h2, h3⟩
    · exact .inl h1
    · exact .inr ⟨h1, by simp only [Pm.clean, hg]; exact h2, h3⟩
  cases a with
  | d x => exact VD.mono hk h
  | nil => exact h
  | grow e sz xs =>
    simp only [clAt]
    split
    · exact VD.mono hk h.1
    · rename_i hg; exact ⟨VD.mono hk h.1, heads (by simpa using hg) h.2⟩
  | bor l' e sz xs =>
    simp only [clAt, clA]
    split
    · exact VD.mono hk h.1
    · rename_i hg; exact ⟨VD.mono hk h.1, heads (by simpa using hg) h.2⟩
  | box k off =>
    simp only [clAt, clA]
    split
    · trivial
    · rename_i hg
      obtain ⟨b, h1, h2⟩ := h
      exact ⟨b, by simp only [Pm.clean]; rw [if_neg (fun h => hg h.1)]; exact h1, h2⟩
  | cell ls =>
    obtain ⟨a, h1, h2⟩ := h
    refine ⟨a, h1, fun j d hd => ?_⟩
    obtain ⟨h3, h4, u, h5, h6⟩ := h2 j d hd
    have := hk (a.add j) u h5 (by rw [add_block, add_off]; exact h4)
    rw [add_block, add_off] at this
    exact ⟨h3, this.2, u, this.1, VD.mono hk h6⟩
  | unk => trivial
  | want => trivial
  | fn g cs =>
    simp only [clAt, clA]
    split
    · trivial
    · rename_i hg
      obtain ⟨vs, h1, h2, h3⟩ := h
      refine ⟨vs, h1, h2, fun j k o hj => ?_⟩
      obtain ⟨b, q1, q2⟩ := h3 j k o hj
      refine ⟨b, ?_, q2⟩
      simp only [Pm.clean]
      rw [if_neg]; exact q1
      intro hk
      exact hg (List.any_eq_true.2 ⟨_, List.mem_of_getElem? hj, hk.1⟩)
  | row k e sz o n =>
    simp only [clAt, clA]
    split
    · trivial
    · rename_i hg
      rcases h with h | ⟨b, cap, c, h1, h2⟩
      · exact .inl h
      · exact .inr ⟨b, cap, c, by simp only [Pm.clean]; rw [if_neg (fun h => hg h.1)]; exact h1, h2⟩

theorem Pm.clean_M {ds : List Loc} {ks : List Nat} {b i : Nat} (h : (p.clean ds ks).M M0 b i) : p.M M0 b i := by
  rcases h with h | ⟨k, h⟩ | ⟨l, h, h1, h2⟩
  · exact .inl h
  · simp only [Pm.clean] at h
    split at h
    · cases h
    · exact .inr (.inl ⟨k, h⟩)
  · simp only [Pm.clean] at h1
    split at h1
    · cases h1
    · exact .inr (.inr ⟨l, h, h1, h2⟩)

theorem Pm.clean_ok {ds : List Loc} {ks : List Nat} (ok : p.ok B M0 w) : (p.clean ds ks).ok B M0 w := by
  have hg : ∀ {l h}, (p.clean ds ks).gr l = some h → p.gr l = some h := fun h => by
    simp only [Pm.clean] at h; split at h; cases h; exact h
  have hb : ∀ {k b}, (p.clean ds ks).bx k = some b → p.bx k = some b := fun h => by
    simp only [Pm.clean] at h; split at h; cases h; exact h
  exact ⟨ok.m0, ok.size, fun k b h => ok.bx k b (hb h), fun l h e => ok.gr l h (hg e), fun k k' b h h' => ok.bxi k k' b (hb h) (hb h'), fun l l' h h' e e' => ok.gri l l' h h' (hg e) (hg e'), fun k b l h e e' => ok.dis k b l h (hb e) (hg e'), fun k b t n h => by
    obtain ⟨q1, q2, q3⟩ := ok.fx k b t n h
    exact ⟨q1, by simp only [Pm.clean]; rw [if_neg (fun h => by omega)]; exact q2, q3⟩⟩

theorem Rel.clean {tv : Array Value} (hr : Rel B M0 p C T X tv w) (ds : List Loc) (ks : List Nat) : Rel B M0 (p.clean ds ks) (C.filter fun l => !gone ds ks l) (clT ds ks 0 T) (clX ds ks X) tv w := by
  have hk : Keep w (p.M M0) w ((p.clean ds ks).M M0) := fun a u h hn => ⟨h, fun hm => hn (Pm.clean_M hm)⟩
  refine ⟨Pm.clean_ok hr.ok, by rw [clT_len]; exact hr.len, fun t a h => ?_, fun k ls h => ?_⟩
  · rw [clT_get, Option.map_eq_some_iff] at h
    obtain ⟨a', h1, rfl⟩ := h
    rw [Nat.zero_add]
    exact VA.clean hk (hr.tm t a' h1)
  · obtain ⟨h1, ls', h2, rfl⟩ := clX_lk ds ks X k ls h
    rcases hr.bx k ls' h2 with rfl | ⟨b, c, e, h3, h4, h5, h6⟩
    · exact .inl rfl
    refine .inr ⟨b, c, e, by simp only [Pm.clean]; rw [if_neg (fun h => by rw [h1] at h; cases h.1)]; exact h3, h4, by rw [clL_len]; exact h5, fun j a h => ?_⟩
    rw [clL_get, Option.map_eq_some_iff] at h
    obtain ⟨a', h7, rfl⟩ := h
    rw [Nat.zero_add]
    exact VA.clean hk (h6 j a' h7)

/-! Contracts. -/
def Args (w : World) (M : Mut) (ds : List D) (vs : List Value) : Prop := vs.length = ds.length ∧ ∀ (j : Nat) d v, ds[j]? = some d → vs[j]? = some v → VD w M d v

/-- Called with values that read as args, the function returns what reads as r, and nothing that was there has changed. -/
def Spec (P : Program) (f : FuncId) (args : List D) (r : D) : Prop :=
  ∀ (M : Mut) (w : World) (vs : List Value), (∀ b i, M b i → b < w.heap.size) → Args w M args vs →
    Calls P f vs.toArray w fun e w' => ∃ v, e = .returned v ∧ VD w' M r v ∧ Below w.heap.size w w'

def Holds (B : Nat → Nat → Prop) (M0 : Fr) (w0 : World) (s : S) (a : Act) (w : World) : Prop := ∃ p, Rel B M0 p s.C s.T s.X a.tmps w ∧ a.defers = [] ∧ Away B w0 w

theorem Holds.clean {w0 : World} {s : S} {a : Act} (h : Holds B M0 w0 s a w) (ds : List Loc) (ks : List Nat) : Holds B M0 w0 (s.clean ds ks) a w := by
  obtain ⟨p, h1, h2⟩ := h
  exact ⟨_, h1.clean ds ks, h2⟩

/-! One operation. -/
def S.put (s : S) (d : Nat) (x : A) (e : Eff := {}) : S :=
  { T := s.T.set d x, X := match e.new with | some ls => (d, ls) :: s.X | none => s.X, C := e.use ++ s.C }

def pre (o : Op) (d : Nat) (s : S) : S := if needBox o then s.clean [] [d] else if needRow o then s.clean [.t d] [] else s

theorem Rel.put {p' : Pm} {s : S} {a : Act} {d : Nat} {x : A} {e : Eff} {v : Value} {w' : World} (hr : Rel B M0 p s.C s.T s.X a.tmps w) (hd : Done B M0 p s.C w d x e v w' p') : Rel B M0 p' (s.put d x e).C (s.put d x e).T (s.put d x e).X (a.put (some d) v).tmps w' := by
  refine ⟨hd.ok, by simp [S.put, Act.put, hr.len], fun t y h => ?_, fun k ls h => ?_⟩
  · simp only [S.put, List.getElem?_set] at h
    simp only [Act.put]
    split at h
    · rename_i e; subst e
      split at h
      · rename_i hlt
        injection h with h; subst h
        rw [hr.len] at hlt
        simp only [Array.getD_eq_getD_getElem?, Array.getElem?_setIfInBounds_self_of_lt hlt, Option.getD_some]
        exact hd.va
      · cases h
    · rename_i hne
      have := VA.mono hd.gr (hr.tm t y h)
      simp only [Array.getD_eq_getD_getElem?] at this ⊢
      rw [Array.getElem?_setIfInBounds_ne hne]; exact this
  · have old : ∀ {k ls}, lk s.X k = some ls → ls = [] ∨ ∃ b c e', p'.bx k = some b ∧ w'.heap[b]? = some (.cells c e' (0, 0)) ∧ ls.length ≤ c.size ∧ ∀ j a, ls[j]? = some a → VA w' (p'.M M0) p' (e.use ++ s.C) (.l k j) a (c.getD j undef) := by
      intro k ls h
      rcases hr.bx k ls h with rfl | ⟨b, c, e', h1, h2, h3, h4⟩
      · exact .inl rfl
      exact .inr ⟨b, c, e', hd.gr.bx _ _ h1, by rw [hd.old k b h1]; exact h2, h3, fun j a ha => VA.mono hd.gr (h4 j a ha)⟩
    simp only [S.put] at h
    split at h
    · rename_i ls' hnew
      simp only [lk] at h
      split at h
      · rename_i e'; subst e'
        injection h with h; subst h
        obtain ⟨b, c, t, n1, n2, n3, n4⟩ := hd.new _ hnew
        exact .inr ⟨b, c, t, n1, n2, Nat.le_of_eq n3.symm, n4⟩
      · exact old h
    · exact old h

end Go.Proofs.Ytidnkaopndmigaa.V
end
section
set_option linter.unusedSimpArgs false
set_option linter.unusedVariables false
/- Assignments, stores and calls. -/
namespace Go.Proofs.Ytidnkaopndmigaa.V
open Go.RowKit

variable {P : Program} {B : Nat → Nat → Prop} {M0 : Fr} {p : Pm} {C : List Loc} {T : List A} {X : List (Nat × List A)} {w : World}

theorem hand_ok {l0 l : Loc} {h : Hdr} (ok : p.ok B M0 w) (hk : p.gr l0 = none) (hl : p.gr l = some h) : (p.hand [l] l0 h).ok B M0 w := by
  have hg : ∀ {l' h'}, (p.hand [l] l0 h).gr l' = some h' → ∃ l'', p.gr l'' = some h' ∧ (l' = l0 → l'' = l) ∧ (l' ≠ l0 → l'' = l' ∧ l' ≠ l) := by
    intro l' h' e
    simp only [Pm.hand] at e
    split at e
    · rename_i e'; injection e with e; subst e; exact ⟨l, hl, fun _ => rfl, fun hn => absurd e' hn⟩
    · rename_i e'
      split at e
      · cases e
      · rename_i e''; exact ⟨l', e, fun hc => absurd hc e', fun _ => ⟨rfl, by simpa using e''⟩⟩
  refine ⟨ok.m0, ok.size, ok.bx, fun l' h' e => ?_, ok.bxi, fun l1 l2 h1 h2 g1 g2 e => ?_, fun k b l' h' e e' => ?_, ok.fx⟩
  · obtain ⟨l'', e', _⟩ := hg e; exact ok.gr _ _ e'
  · obtain ⟨m1, e1, a1, b1⟩ := hg g1
    obtain ⟨m2, e2, a2, b2⟩ := hg g2
    have hm := ok.gri _ _ _ _ e1 e2 e
    by_cases c1 : l1 = l0 <;> by_cases c2 : l2 = l0
    · rw [c1, c2]
    · exact absurd ((a1 c1).symm.trans (hm.trans (b2 c2).1)).symm (b2 c2).2
    · exact absurd (((b1 c1).1.symm.trans hm).trans (a2 c2)) (b1 c1).2
    · rw [← (b1 c1).1, ← (b2 c2).1]; exact hm
  · obtain ⟨l'', e'', _⟩ := hg e'; exact ok.dis _ _ _ _ e e''

theorem hand_M {l0 l : Loc} {h : Hdr} (hl : p.gr l = some h) {b i : Nat} (hm : (p.hand [l] l0 h).M M0 b i) : p.M M0 b i := by
  rcases hm with hm | ⟨k, hm⟩ | ⟨l', h', h1, h2, h3⟩
  · exact .inl hm
  · exact .inr (.inl ⟨k, hm⟩)
  · simp only [Pm.hand] at h1
    split at h1
    · injection h1 with h1; subst h1; exact .inr (.inr ⟨l, h, hl, h2, h3⟩)
    · split at h1
      · cases h1
      · exact .inr (.inr ⟨l', h', h1, h2, h3⟩)

theorem hand_grows {l0 l : Loc} {h : Hdr} {M : Mut} (hk : p.gr l0 = none) (hkeep : Keep w M w ((p.hand [l] l0 h).M M0)) : Grows w M p C w ((p.hand [l] l0 h).M M0) (p.hand [l] l0 h) (l :: C) := by
  refine ⟨hkeep, fun k b e => e, fun l' h' hn e => ?_, fun l' hn hc => hn (by simp [hc]), fun _ _ c _ _ h => ⟨c, h, rfl⟩⟩
  simp only [Pm.hand]
  rw [if_neg (fun e' => by rw [e', hk] at e; cases e), if_neg (fun e' => hn (by simp at e'; simp [e']))]; exact e

/-- A row is handed from one place to another. -/
theorem moved {l0 l : Loc} {e : TypeId} {sz : Nat} {xs : List D} {v : Value} (ok : p.ok B M0 w) (hk : p.gr l0 = none) (hl : l ∉ C) (h0 : l0 ∉ C) (hne : l0 ≠ l) (h : VA w (p.M M0) p C l (.grow e sz xs) v) :
    ∃ p', p'.ok B M0 w ∧ (∀ k b, p.bx k = some b → p'.bx k = some b) ∧ Grows w (p.M M0) p C w (p'.M M0) p' (l :: C) ∧ VA w (p'.M M0) p' (l :: C) l0 (.grow e sz xs) v ∧ (∀ b i, p'.M M0 b i → p.M M0 b i) := by
  rcases h.2 hl with ⟨h1, h2⟩ | ⟨hd, h1, h2, h3, h4, h5, h6⟩
  · exact ⟨p, ok, fun _ _ h => h, ⟨Keep.refl _ _, fun _ _ h => h, fun _ _ _ h => h, fun l' hn hc => hn (by simp [hc]), fun _ _ c _ _ h => ⟨c, h, rfl⟩⟩, ⟨h.1, fun _ => .inl ⟨h1, h2⟩⟩, fun _ _ h => h⟩
  · have hkeep : Keep w (p.M M0) w ((p.hand [l] l0 hd).M M0) := fun a u hc hn => ⟨hc, fun hm => hn (hand_M h1 hm)⟩
    refine ⟨_, hand_ok ok hk h1, fun _ _ h => h, hand_grows hk hkeep, ⟨h.1.mono hkeep, fun _ => .inr ⟨hd, by simp [Pm.hand], h2, h3, h4, h5, h6⟩⟩, fun b i hm => hand_M h1 hm⟩

/-! Assignment. -/
def S.set (s : S) (d : Nat) (x : A) : S := { s with T := s.T.set d x }
def plainA : A → A
  | .grow _ _ xs | .bor _ _ _ xs => .d (.sl xs)
  | a => a
def asg (s : S) (d : Nat) (x : Operand) : Option S :=
  match x with
  | .tmp t => match s.T[t]? with
    | some (.grow e sz xs) => if s.C.contains (.t t) || t == d then some (s.set d (.d (.sl xs))) else some { (s.clean [.t d] []).set d (.grow e sz xs) with C := .t t :: (s.clean [.t d] []).C }
    | some a => some (s.set d (plainA a))
    | none => none
  | .const v => (aOfV v).map (s.set d)
  | _ => none

theorem VA.plain {M : Mut} {l l' : Loc} {a : A} {v : Value} (h : VA w M p C l a v) : VA w M p C l' (plainA a) v := by
  cases a <;> first | exact h | exact h.1

theorem Rel.set {tv : Array Value} {d : Nat} {x : A} {v : Value} (hr : Rel B M0 p C T X tv w) (h : VA w (p.M M0) p C (.t d) x v) : Rel B M0 p C (T.set d x) X (tv.setIfInBounds d v) w := by
  refine ⟨hr.ok, by simp [hr.len], fun t y ht => ?_, hr.bx⟩
  rw [List.getElem?_set] at ht
  split at ht
  · rename_i e; subst e
    split at ht
    · rename_i hlt
      injection ht with ht; subst ht
      rw [hr.len] at hlt
      simp only [Array.getD_eq_getD_getElem?, Array.getElem?_setIfInBounds_self_of_lt hlt, Option.getD_some]
      exact h
    · cases ht
  · rename_i hne
    have := hr.tm t y ht
    simp only [Array.getD_eq_getD_getElem?] at this ⊢
    rw [Array.getElem?_setIfInBounds_ne hne]; exact this

theorem Rel.grow {p' : Pm} {C' : List Loc} {tv : Array Value} (hr : Rel B M0 p C T X tv w) (ok : p'.ok B M0 w) (hb : ∀ k b, p.bx k = some b → p'.bx k = some b) (g : Grows w (p.M M0) p C w (p'.M M0) p' C') : Rel B M0 p' C' T X tv w :=
  ⟨ok, hr.len, fun t a h => VA.mono g (hr.tm t a h), fun k ls h => by
    rcases hr.bx k ls h with rfl | ⟨b, c, e, h1, h2, h3, h4⟩
    · exact .inl rfl
    exact .inr ⟨b, c, e, hb _ _ h1, h2, h3, fun j a ha => VA.mono g (h4 j a ha)⟩⟩

theorem clAt_live {ds ks l} {e sz xs} (h : gone ds ks l = false) : clAt ds ks l (.grow e sz xs) = .grow e sz xs := by simp [clAt, h]

theorem asg_sound {w0 : World} {s s' : S} {a : Act} {d : Nat} {x : Operand} (h : Holds B M0 w0 s a w) (ha : asg s d x = some s') : Holds B M0 w0 s' (a.put (some d) (a.eval x)) w := by
  obtain ⟨p, hr, hd, hbel⟩ := h
  cases x with
  | tmp t =>
    simp only [asg] at ha
    split at ha
    · rename_i e sz xs ht
      split at ha
      · injection ha with ha; subst ha
        exact ⟨p, hr.set (hr.tm t _ ht).1, hd, hbel⟩
      · rename_i hc
        simp only [Bool.or_eq_true, not_or, Bool.not_eq_true, List.contains_eq_mem, decide_eq_false_iff_not, beq_eq_false_iff_ne] at hc
        obtain ⟨hc1, hc2⟩ := hc
        injection ha with ha; subst ha
        have hcl := hr.clean [.t d] []
        have hng : gone [.t d] [] (.t t) = false := by simp [gone, hc2]
        have ht' : (clT [.t d] [] 0 s.T)[t]? = some (.grow e sz xs) := by rw [clT_get, ht, Option.map_some, Nat.zero_add, clAt_live hng]
        obtain ⟨p', h1, h2, h3, h4, _⟩ := moved (l0 := .t d) (l := .t t) hcl.ok (by simp [Pm.clean, gone]) (fun hm => hc1 (List.mem_filter.1 hm).1) (fun hm => by simp [gone] at hm) (by simpa using fun e => hc2 e.symm) (hcl.tm t _ ht')
        exact ⟨p', (hcl.grow h1 h2 h3).set h4, hd, hbel⟩
    · rename_i ax hn ht
      injection ha with ha; subst ha
      exact ⟨p, hr.set (hr.tm t _ ht).plain, hd, hbel⟩
    · cases ha
  | const v =>
    simp only [asg, Option.map_eq_some_iff] at ha
    obtain ⟨ax, h1, rfl⟩ := ha
    exact ⟨p, hr.set (aOfV_va h1), hd, hbel⟩
  | global g => cases ha
  | func f => cases ha

/-! Stores. -/
def updX (k : Nat) (ls : List A) : List (Nat × List A) → List (Nat × List A)
  | [] => []
  | (k', l') :: X => if k = k' then (k', ls) :: X else (k', l') :: updX k ls X
theorem updX_lk {k : Nat} {ls : List A} : ∀ {X : List (Nat × List A)} {k' : Nat} {l' : List A}, lk (updX k ls X) k' = some l' → (k' = k ∧ l' = ls) ∨ (k' ≠ k ∧ lk X k' = some l')
  | [], k', l', h => by simp [updX, lk] at h
  | (k0, l0) :: X, k', l', h => by
    simp only [updX] at h
    split at h
    · rename_i e; subst e
      simp only [lk] at h ⊢
      split at h
      · rename_i e'; subst e'; injection h with h; exact .inl ⟨rfl, h.symm⟩
      · rename_i e'; exact .inr ⟨e', by rw [if_neg e']; exact h⟩
    · rename_i e
      simp only [lk] at h ⊢
      split at h
      · rename_i e'; subst e'; injection h with h; exact .inr ⟨fun e' => e e'.symm, by simp [h]⟩
      · rename_i e'
        rcases updX_lk h with h1 | ⟨h1, h2⟩
        · exact .inl h1
        · exact .inr ⟨h1, by rw [if_neg e']; exact h2⟩

def sto (P : Program) (s : S) (t : TypeId) (ad x : Operand) : Option S :=
  match opnd s.T ad with
  | some (.box k off) => match lk s.X k, aggOf P t, szOf P t with
    | some ls, some true, some sz => match dlf s.T x with
      | some (.agg ds) => if ds.length = sz ∧ off + sz ≤ ls.length ∧ ds.all D.leaf then some { s with X := updX k (ls.take off ++ ds.map .ofD ++ ls.drop (off + sz)) s.X } else none
      | _ => none
    | some ls, some false, some 1 => if off < ls.length then
        match x with
        | .tmp t' => match s.T[t']? with
          | some (.grow e sz xs) => if s.C.contains (.t t') then some { s with X := updX k (ls.set off (.d (.sl xs))) s.X } else
              (lk (s.clean [.l k off] []).X k).map fun ls' => { (s.clean [.l k off] []) with X := updX k (ls'.set off (.grow e sz xs)) (s.clean [.l k off] []).X, C := .t t' :: (s.clean [.l k off] []).C }
          | some (.d x) => if x.leaf then some { s with X := updX k (ls.set off (.ofD x)) s.X } else none
          | some .nil => some { s with X := updX k (ls.set off .nil) s.X }
          | some (.bor _ _ _ xs) => some { s with X := updX k (ls.set off (.d (.sl xs))) s.X }
          | some (.row k' e' sz' o' n') => some { s with X := updX k (ls.set off (.row k' e' sz' o' n')) s.X }
          | _ => none
        | .const v => match aOfV v with
          | some (.d x) => if x.leaf then some { s with X := updX k (ls.set off (.ofD x)) s.X } else none
          | some .nil => some { s with X := updX k (ls.set off .nil) s.X }
          | _ => none
        | _ => none
      else none
    | _, _, _ => none
  | _ => none

theorem run_storeVar_at {t : TypeId} {b off : Nat} {c : Array Value} {e : TypeId} {v : Value} {sz : Nat} (hs : szOf P t = some sz) (hb : w.heap[b]? = some (.cells c e (0, 0))) (hv : v.cells.size = sz) (ho : off + sz ≤ c.size) (h1 : ∀ u ∈ v.cells.toList, u.oneCell' = true) :
    (Instr.storeAt t (.pointer (some ⟨b, off, none⟩)) v).run P w = .ok () (w.setRow b (c.toList.take off ++ v.cells.toList ++ c.toList.drop (off + sz)).toArray) := by
  unfold Instr.storeAt storeVar
  simp only [Sem.run_bind, Instr.sureAddr, Sem.run_pure, Result.andThen_ok, run_sizeOf hs]
  rw [if_neg (by simp [hv])]
  have := run_storeCells_at P b off e v.cells.toList 0 c w hb (by simp [hv]; omega) h1
  simpa [hv] using this

theorem Rel.store {tv : Array Value} {k b : Nat} {ls ls' : List A} {c c' : Array Value} {e : TypeId} (hr : Rel B M0 p C T X tv w) (hk : lk X k = some ls) (hbk : p.bx k = some b) (hb : w.heap[b]? = some (.cells c e (0, 0))) (hc' : c'.size = c.size) (hl : ls'.length = ls.length)
    (h : ∀ j a, ls'[j]? = some a → VA w (p.M M0) p C (.l k j) a (c'.getD j undef)) : Rel B M0 p C T (updX k ls' X) tv (w.setRow b c') := by
  have hsame : (w.setRow b c').heap[b]? = some (.cells c' e (0, 0)) := setRow_heap_same hb
  have hothers : ∀ b', b' ≠ b → (w.setRow b c').heap[b']? = w.heap[b']? := fun b' hn => setRow_other w b b' c' hn
  have hkeep : Keep w (p.M M0) (w.setRow b c') (p.M M0) := by
    intro a u hc hn
    have hne : a.block ≠ b := fun e => hn (.inr (.inl ⟨k, by rw [e]; exact hbk⟩))
    exact ⟨by rw [World.cell?_of_block (w := w) (hothers _ hne)]; exact hc, hn⟩
  have g : Grows w (p.M M0) p C (w.setRow b c') (p.M M0) p C := ⟨hkeep, fun _ _ h => h, fun _ _ _ h => h, fun _ h => h, fun k1 b1 c1 t1 _ hh => by
    by_cases hbb : b1 = b
    · subst hbb; rw [hb] at hh; injection hh with hh; injection hh with hh ht; subst hh; subst ht; exact ⟨c', hsame, hc'⟩
    · exact ⟨c1, by rw [hothers _ hbb]; exact hh, rfl⟩⟩
  obtain ⟨c0, e0, q2, q3, _⟩ := hr.bxb hk hbk
  rw [hb] at q2; injection q2 with q2; injection q2 with q2; subst q2
  refine ⟨⟨fun b i h => ⟨(hr.ok.m0 b i h).1, by simpa using (hr.ok.m0 b i h).2⟩, fun k hk => hr.ok.size k (by simpa using hk), fun k' b' hx => ?_, fun l h' hg => ?_, hr.ok.bxi, hr.ok.gri, hr.ok.dis, fun k' b' t n hf => ?_⟩, hr.len, fun t a ht => VA.mono g (hr.tm t a ht), fun k' l' hx => ?_⟩
  · obtain ⟨r1, c1, t1, r2⟩ := hr.ok.bx _ _ hx
    by_cases hbb : b' = b
    · subst hbb; exact ⟨r1, c', e, hsame⟩
    · exact ⟨r1, c1, t1, by rw [hothers _ hbb]; exact r2⟩
  · obtain ⟨r1, r2, r3, c1, r4, r5⟩ := hr.ok.gr _ _ hg
    exact ⟨r1, r2, r3, c1, by rw [hothers _ (fun e => hr.ok.dis _ _ _ _ hbk hg e.symm)]; exact r4, r5⟩
  · obtain ⟨f1, f2, cf, f3, f4⟩ := hr.ok.fx _ _ _ _ hf
    by_cases hbb : b' = b
    · subst hbb; rw [hb] at f3; injection f3 with f3; injection f3 with f3 f3'; subst f3; subst f3'
      exact ⟨f1, f2, c', hsame, by rw [hc']; exact f4⟩
    · exact ⟨f1, f2, cf, by rw [hothers _ hbb]; exact f3, f4⟩
  · rcases updX_lk hx with ⟨rfl, rfl⟩ | ⟨hne, hx⟩
    · exact .inr ⟨b, c', e, hbk, hsame, by rw [hc', hl]; exact q3, fun j a ha => VA.mono g (h j a ha)⟩
    · rcases hr.bx k' l' hx with rfl | ⟨b1, c1, e1, r1, r2, r3, r4⟩
      · exact .inl rfl
      refine .inr ?_
      have hbb : b1 ≠ b := fun e => hne (hr.ok.bxi _ _ _ (e ▸ r1) hbk)
      exact ⟨b1, c1, e1, r1, by rw [hothers _ hbb]; exact r2, r3, fun j a ha => VA.mono g (r4 j a ha)⟩

theorem below_setRow {b : Nat} {c : Array Value} (hB : ∀ i, B b i) : Away B w (w.setRow b c) :=
  ⟨rfl, rfl, rfl, by simp, fun k _ hk => setRow_other w b k c (fun e => hk 0 (by rw [e]; exact hB 0)), fun a u hu ho => by
    rw [World.cell?_of_block (w := w) (setRow_other w b a.block c (fun e => ho (by rw [e]; exact hB _)))]; exact hu⟩

theorem sto_sound {w0 : World} {s s' : S} {a : Act} {t : TypeId} {ad x : Operand} (h : Holds B M0 w0 s a w) (hs : sto P s t ad x = some s') :
    ∃ w', (Instr.storeAt t (a.eval ad) (a.eval x)).run P w = .ok () w' ∧ Holds B M0 w0 s' a w' := by
  obtain ⟨p, hr, hd, hbel⟩ := h
  unfold sto at hs
  split at hs
  · rename_i k off hk
    obtain ⟨b, hb, hv⟩ := opnd_va hr hk (l := .t 0)
    rw [hv]
    split at hs
    · rename_i ls sz hlk hag hsz
      obtain ⟨c, e, q2, q3, q4⟩ := hr.bxb hlk hb
      split at hs
      · rename_i ds hds
        split at hs
        · rename_i hcond
          obtain ⟨hl, ho, hall⟩ := hcond
          injection hs with hs; subst hs
          have hx := dlf_vd hr hds
          obtain ⟨cs, hcs, hcl, hcf, hcv⟩ := hx.agg_inv
          rw [hcs]
          have hcells : (Value.agg cs.toArray).cells.toList = cs := by simp [Value.cells]
          refine ⟨_, run_storeVar_at (e := e) hsz q2 (by simp [Value.cells]; omega) (by omega) (fun u hu => ?_), p, hr.store hlk hb q2 ?_ ?_ (fun j y hj => ?_), hd, hbel.trans (below_setRow (hr.ok.bx _ _ hb).1)⟩
          · rw [hcells] at hu
            obtain ⟨j, hj⟩ := List.getElem?_of_mem hu
            have hjl : j < ds.length := by rw [← hcl]; exact (List.getElem?_eq_some_iff.1 hj).1
            exact (hcv j _ u (List.getElem?_eq_getElem hjl) hj).one (hcf j _ (List.getElem?_eq_getElem hjl))
          · simp [Value.cells]; omega
          · simp; omega
          · rw [hcells]
            simp only [Array.getD_eq_getD_getElem?, List.getElem?_toArray]
            have hto : (c.toList.take off).length = off := by simp; omega
            have hlo : (ls.take off).length = off := by simp; omega
            rw [List.append_assoc, List.getElem?_append] at hj ⊢
            rw [hto]; rw [hlo] at hj
            split at hj
            · rename_i hjo
              rw [if_pos hjo]
              rw [List.getElem?_take, if_pos hjo] at hj ⊢
              have := q4 j y hj
              simpa [Array.getD_eq_getD_getElem?] using this
            · rename_i hjo
              rw [if_neg hjo]
              rw [List.getElem?_append] at hj ⊢
              rw [hcl]
              simp only [List.length_map] at hj
              split at hj
              · rename_i hjd
                rw [if_pos hjd]
                rw [List.getElem?_map, Option.map_eq_some_iff] at hj
                obtain ⟨y', hy', rfl⟩ := hj
                have hlt : j - off < cs.length := by rw [hcl]; exact hjd
                rw [List.getElem?_eq_getElem hlt]
                exact VA.ofD (hcv _ _ _ hy' (List.getElem?_eq_getElem hlt))
              · rename_i hjd
                rw [if_neg hjd]
                rw [List.getElem?_drop] at hj ⊢
                rw [show off + sz + (j - off - ds.length) = j from by omega] at hj ⊢
                have := q4 j y hj
                simpa [Array.getD_eq_getD_getElem?] using this
        · cases hs
      · cases hs
    · rename_i ls hlk hag hsz
      obtain ⟨c, e, q2, q3, q4⟩ := hr.bxb hlk hb
      split at hs
      · rename_i hlt
        -- storing one cell
        have put : ∀ (y : A) (v : Value), v.cells = #[v] → v.oneCell' = true → VA w (p.M M0) p s.C (.l k off) y v →
            ∃ w', (Instr.storeAt t (.pointer (some ⟨b, off, none⟩)) v).run P w = .ok () w' ∧ Holds B M0 w0 { s with X := updX k (ls.set off y) s.X } a w' := by
          intro y v hvc hv1 hy
          refine ⟨_, run_storeVar_at (e := e) hsz q2 (by rw [hvc]; rfl) (by omega) (fun u hu => by rw [hvc] at hu; simp at hu; subst hu; exact hv1), p, hr.store hlk hb q2 ?_ (by simp) (fun j z hj => ?_), hd, hbel.trans (below_setRow (hr.ok.bx _ _ hb).1)⟩
          · rw [hvc]; simp; omega
          · rw [hvc]
            simp only [Array.getD_eq_getD_getElem?, List.getElem?_toArray]
            have hto : (c.toList.take off).length = off := by simp; omega
            rw [List.getElem?_set] at hj
            rw [List.append_assoc, List.getElem?_append, hto]
            split at hj
            · rename_i hjo; subst hjo
              injection hj with hj; subst hj
              rw [if_neg (by omega)]; simpa using hy
            · rename_i hjo
              have := q4 j z hj
              split
              · rename_i hjl
                rw [List.getElem?_take, if_pos hjl]; simpa [Array.getD_eq_getD_getElem?] using this
              · rename_i hjl
                rw [List.getElem?_append_right (by simp; omega), List.getElem?_drop]
                rw [show off + 1 + (j - off - [v].length) = j from by simp; omega]
                simpa [Array.getD_eq_getD_getElem?] using this
        have leafc : ∀ {x : D} {v : Value}, x.leaf = true → VD w (p.M M0) x v → v.cells = #[v] ∧ v.oneCell' = true := by
          intro x v hx hv
          cases hv <;> first | exact ⟨rfl, rfl⟩ | simp [D.leaf] at hx
        have sl1 : ∀ {xs : List D} {v : Value}, VD w (p.M M0) (.sl xs) v → v.cells = #[v] ∧ v.oneCell' = true := fun h => leafc rfl h
        split at hs
        · rename_i t'
          split at hs
          · rename_i e1 sz1 xs ht
            have hva := hr.tm t' _ ht
            split at hs
            · injection hs with hs; subst hs
              obtain ⟨c1, c2⟩ := sl1 hva.1
              exact put _ _ c1 c2 hva.1
            · rename_i hc
              simp only [Bool.not_eq_true, List.contains_eq_mem, decide_eq_false_iff_not] at hc
              simp only [Option.map_eq_some_iff] at hs
              obtain ⟨ls', hls', rfl⟩ := hs
              have hcl := hr.clean [.l k off] []
              have hng : gone [.l k off] [] (.t t') = false := by simp [gone]
              have ht' : (clT [.l k off] [] 0 s.T)[t']? = some (.grow e1 sz1 xs) := by rw [clT_get, ht, Option.map_some, Nat.zero_add, clAt_live hng]
              obtain ⟨p', h1, h2, h3, h4, _⟩ := moved (l0 := .l k off) (l := .t t') hcl.ok (by simp [Pm.clean, gone]) (fun hm => hc (List.mem_filter.1 hm).1) (fun hm => by simp [gone] at hm) (by simp) (hcl.tm t' _ ht')
              have hr' := hcl.grow h1 h2 h3
              have hbc : (p.clean [.l k off] []).bx k = some b := by simp [Pm.clean, hb]
              obtain ⟨c', e', r2, r3, r4⟩ := hr'.bxb hls' (h2 _ _ hbc)
              rw [q2] at r2; injection r2 with r2; injection r2 with r2 r2'; subst r2; subst r2'
              obtain ⟨c1, c2⟩ := sl1 (hr.tm t' _ ht).1
              have hlt' : off < ls'.length := by
                obtain ⟨_, l2, h5, h6⟩ := clX_lk _ _ _ _ _ hls'
                rw [hlk] at h5; injection h5 with h5
                rw [h6, clL_len, ← h5]; exact hlt
              refine ⟨_, run_storeVar_at (e := e) hsz q2 (show (a.eval (.tmp t')).cells.size = 1 by show (a.tmps.getD t' undef).cells.size = 1; rw [c1]; rfl) (by omega) (fun u hu => by
                have hu' : u ∈ (a.tmps.getD t' undef).cells.toList := hu
                rw [c1] at hu'; have hu' : u ∈ [a.tmps.getD t' undef] := hu'; rw [List.mem_singleton] at hu'; subst hu'; exact c2), p', hr'.store hls' (h2 _ _ hbc) q2 ?_ (by simp) (fun j z hj => ?_), hd, hbel.trans (below_setRow (hr.ok.bx _ _ hb).1)⟩
              · show (_ ++ (a.tmps.getD t' undef).cells.toList ++ _).toArray.size = _
                rw [c1]; simp; omega
              · show VA _ _ _ _ _ _ ((_ ++ (a.tmps.getD t' undef).cells.toList ++ _).toArray.getD j undef)
                rw [c1]
                simp only [Array.getD_eq_getD_getElem?, List.getElem?_toArray]
                have hto : (c.toList.take off).length = off := by simp; omega
                rw [List.getElem?_set] at hj
                rw [List.append_assoc, List.getElem?_append, hto]
                split at hj
                · rename_i hjo; subst hjo
                  injection hj with hj; subst hj
                  rw [if_neg (by omega)]
                  simpa using h4
                · rename_i hjo
                  have := r4 j z hj
                  split
                  · rename_i hjl
                    rw [List.getElem?_take, if_pos hjl]; simpa [Array.getD_eq_getD_getElem?] using this
                  · rename_i hjl
                    rw [List.getElem?_append_right (by simp; omega), List.getElem?_drop]
                    simp only [List.length_singleton]
                    rw [show off + 1 + (j - off - 1) = j from by omega]
                    simpa [Array.getD_eq_getD_getElem?] using this
          · rename_i y ht
            split at hs
            · rename_i hyl
              injection hs with hs; subst hs
              obtain ⟨c1, c2⟩ := leafc hyl (hr.tm t' _ ht)
              exact put _ _ c1 c2 (VA.ofD (hr.tm t' _ ht))
            · cases hs
          · rename_i ht
            injection hs with hs; subst hs
            have hva : a.tmps.getD t' undef = .slice none 0 0 := hr.tm t' _ ht
            exact put .nil _ (by show (a.tmps.getD t' undef).cells = #[a.tmps.getD t' undef]; rw [hva]; rfl) (by show (a.tmps.getD t' undef).oneCell' = true; rw [hva]; rfl) hva
          · rename_i _ _ _ xs ht
            injection hs with hs; subst hs
            have hva := hr.tm t' _ ht
            obtain ⟨c1, c2⟩ := sl1 hva.1
            exact put _ _ c1 c2 hva.1
          · rename_i k' e' sz' o' n' ht
            injection hs with hs; subst hs
            have hva := hr.tm t' _ ht
            have hone : (a.tmps.getD t' undef).cells = #[a.tmps.getD t' undef] ∧ (a.tmps.getD t' undef).oneCell' = true := by
              rcases hva with ⟨_, h⟩ | ⟨b', cap', c', _, h, _⟩ <;> rw [h] <;> exact ⟨rfl, rfl⟩
            exact put (.row k' e' sz' o' n') _ hone.1 hone.2 hva
          · cases hs
        · rename_i v
          split at hs
          · rename_i y hy
            split at hs
            · rename_i hyl
              injection hs with hs; subst hs
              have hva : VD w (p.M M0) y v := aOfV_va (l := .t 0) (C := []) (p := p) hy
              obtain ⟨c1, c2⟩ := leafc hyl hva
              exact put _ _ c1 c2 (VA.ofD hva)
            · cases hs
          · rename_i hy
            injection hs with hs; subst hs
            have hva : v = .slice none 0 0 := aOfV_va (w := w) (M := p.M M0) (l := .t 0) (C := []) (p := p) hy
            exact put .nil _ (by show v.cells = #[v]; rw [hva]; rfl) (by show v.oneCell' = true; rw [hva]; rfl) hva
          · cases hs
        · cases hs
      · cases hs
    · cases hs
  · cases hs

end Go.Proofs.Ytidnkaopndmigaa.V
end
section
set_option linter.unusedSimpArgs false
set_option linter.unusedVariables false
/- Rows of the call's own: appends to them, and what becomes of one that changes no more. -/
namespace Go.Proofs.Ytidnkaopndmigaa.V
open Go.RowKit

variable {P : Program} {B : Nat → Nat → Prop} {M0 : Fr} {p : Pm} {C : List Loc} {T : List A} {X : List (Nat × List A)} {w : World}

theorem clX_none {ds : List Loc} {ks : List Nat} {k : Nat} (h : ks.contains k = true) (X : List (Nat × List A)) : lk (clX ds ks X) k = none := by
  cases h' : lk (clX ds ks X) k with
  | none => rfl
  | some ls => have := (clX_lk ds ks X k ls h').1; rw [h] at this; cases this

/-- What stays of a cell's contents in another place. -/
def rowA : A → A
  | .d x => .d x
  | .nil => .nil
  | .grow _ _ xs | .bor _ _ _ xs => .d (.sl xs)
  | _ => .unk
theorem VA.rowA {M M' : Mut} {w' : World} {p' : Pm} {C' : List Loc} {l l' : Loc} {a : A} {v : Value} (hk : Keep w M w' M') (h : VA w M p C l a v) : VA w' M' p' C' l' (rowA a) v := by
  cases a with
  | d x => exact VD.mono hk h
  | nil => exact h
  | grow e sz xs => exact VD.mono hk h.1
  | bor l' e sz xs => exact VD.mono hk h.1
  | _ => trivial

theorem Rel.addNil {tv : Array Value} (hr : Rel B M0 p C T X tv w) (d : Nat) : Rel B M0 p C T ((d, []) :: X) tv w :=
  ⟨hr.ok, hr.len, hr.tm, fun k ls h => by
    simp only [lk] at h
    split at h
    · injection h with h; exact .inl h.symm
    · exact hr.bx k ls h⟩

theorem Rel.fresh {tv : Array Value} {w' : World} {d : Nat} {c : Array Value} {t : TypeId} {ls : List A} (hr : Rel B M0 p C T X tv w) (hd : p.bx d = none) (hn : New w w' (.cells c t)) (hl : ls.length ≤ c.size)
    (hv : ∀ (j : Nat) a, ls[j]? = some a → VA w' ((p.box d w.heap.size).M M0) (p.box d w.heap.size) C (.l d j) a (c.getD j undef)) : Rel B M0 (p.box d w.heap.size) C T ((d, ls) :: X) tv w' := by
  have g := grows_box (C := C) hr.ok hd hn
  refine ⟨ok_box hr.ok hd hn, hr.len, fun t a h => VA.mono g (hr.tm t a h), fun k l h => ?_⟩
  simp only [lk] at h
  split at h
  · rename_i e; subst e
    injection h with h; subst h
    exact .inr ⟨w.heap.size, c, t, by simp [Pm.box], hn.last, hl, hv⟩
  · rcases hr.bx k l h with rfl | ⟨b, c', e, h1, h2, h3, h4⟩
    · exact .inl rfl
    · exact .inr ⟨b, c', e, g.bx _ _ h1, by rw [hn.old (heap_lt h2)]; exact h2, h3, fun j a ha => VA.mono g (h4 j a ha)⟩

theorem Rel.renew {tv : Array Value} {d b : Nat} {ls : List A} {c c' : Array Value} {e : TypeId} (hr : Rel B M0 p C T X tv w) (hbk : p.bx d = some b) (hb : w.heap[b]? = some (.cells c e (0, 0))) (hc' : c'.size = c.size) (hX : lk X d = none) (hl : ls.length ≤ c.size)
    (h : ∀ (j : Nat) a, ls[j]? = some a → VA w (p.M M0) p C (.l d j) a (c'.getD j undef)) : Rel B M0 p C T ((d, ls) :: X) tv (w.setRow b c') := by
  have hsame : (w.setRow b c').heap[b]? = some (.cells c' e (0, 0)) := setRow_heap_same hb
  have hothers : ∀ b', b' ≠ b → (w.setRow b c').heap[b']? = w.heap[b']? := fun b' hn => setRow_other w b b' c' hn
  have hkeep : Keep w (p.M M0) (w.setRow b c') (p.M M0) := by
    intro a u hc hn
    have hne : a.block ≠ b := fun e => hn (.inr (.inl ⟨d, by rw [e]; exact hbk⟩))
    exact ⟨by rw [World.cell?_of_block (w := w) (hothers _ hne)]; exact hc, hn⟩
  have g : Grows w (p.M M0) p C (w.setRow b c') (p.M M0) p C := ⟨hkeep, fun _ _ h => h, fun _ _ _ h => h, fun _ h => h, fun k1 b1 c1 t1 _ hh => by
    by_cases hbb : b1 = b
    · subst hbb; rw [hb] at hh; injection hh with hh; injection hh with hh ht; subst hh; subst ht; exact ⟨c', hsame, hc'⟩
    · exact ⟨c1, by rw [hothers _ hbb]; exact hh, rfl⟩⟩
  refine ⟨⟨fun b i h => ⟨(hr.ok.m0 b i h).1, by simpa using (hr.ok.m0 b i h).2⟩, fun k hk => hr.ok.size k (by simpa using hk), fun k' b' hx => ?_, fun l h' hg => ?_, hr.ok.bxi, hr.ok.gri, hr.ok.dis, fun k' b' t n hf => ?_⟩, hr.len, fun t a ht => VA.mono g (hr.tm t a ht), fun k' l' hx => ?_⟩
  · obtain ⟨r1, c1, t1, r2⟩ := hr.ok.bx _ _ hx
    by_cases hbb : b' = b
    · subst hbb; exact ⟨r1, c', e, hsame⟩
    · exact ⟨r1, c1, t1, by rw [hothers _ hbb]; exact r2⟩
  · obtain ⟨r1, r2, r3, c1, r4, r5⟩ := hr.ok.gr _ _ hg
    exact ⟨r1, r2, r3, c1, by rw [hothers _ (fun e => hr.ok.dis _ _ _ _ hbk hg e.symm)]; exact r4, r5⟩
  · obtain ⟨f1, f2, cf, f3, f4⟩ := hr.ok.fx _ _ _ _ hf
    by_cases hbb : b' = b
    · subst hbb; rw [hb] at f3; injection f3 with f3; injection f3 with f3 f3'; subst f3; subst f3'
      exact ⟨f1, f2, c', hsame, by rw [hc']; exact f4⟩
    · exact ⟨f1, f2, cf, by rw [hothers _ hbb]; exact f3, f4⟩
  · simp only [lk] at hx
    split at hx
    · rename_i e'; subst e'
      injection hx with hx; subst hx
      exact .inr ⟨b, c', e, hbk, hsame, by rw [hc']; exact hl, fun j a ha => VA.mono g (h j a ha)⟩
    · rename_i hne
      rcases hr.bx k' l' hx with rfl | ⟨b1, c1, e1, r1, r2, r3, r4⟩
      · exact .inl rfl
      have hbb : b1 ≠ b := fun e => hne (hr.ok.bxi _ _ _ (e ▸ r1) hbk)
      exact .inr ⟨b1, c1, e1, r1, by rw [hothers _ hbb]; exact r2, r3, fun j a ha => VA.mono g (r4 j a ha)⟩

def Pm.rekey (p : Pm) (k d b : Nat) : Pm := { p.clean [] [k, d] with bx := fun k' => if k' = d then some b else (p.clean [] [k, d]).bx k' }

theorem rekey_bx {k d b k' b' : Nat} (hk : k < 1000) (h : (p.rekey k d b).bx k' = some b') : (k' = d ∧ b' = b) ∨ (k' ≠ d ∧ k' ≠ k ∧ p.bx k' = some b') := by
  simp only [Pm.rekey] at h
  split at h
  · rename_i e; injection h with h; exact .inl ⟨e, h.symm⟩
  · rename_i e
    simp only [Pm.clean] at h
    split at h
    · cases h
    · rename_i hn
      exact .inr ⟨e, fun e' => hn ⟨by simp [e'], by omega⟩, h⟩
theorem rekey_gr {k d b : Nat} {l : Loc} {h : Hdr} (hg : (p.rekey k d b).gr l = some h) : p.gr l = some h := by
  simp only [Pm.rekey, Pm.clean] at hg
  split at hg
  · cases hg
  · exact hg
theorem rekey_M {k d b : Nat} (hk : k < 1000) (hb : p.bx k = some b) {b' i : Nat} (hm : (p.rekey k d b).M M0 b' i) : p.M M0 b' i := by
  rcases hm with hm | ⟨k', hm⟩ | ⟨l, h, h1, h2, h3⟩
  · exact .inl hm
  · rcases rekey_bx hk hm with ⟨_, rfl⟩ | ⟨_, _, h⟩
    · exact .inr (.inl ⟨k, hb⟩)
    · exact .inr (.inl ⟨k', h⟩)
  · exact .inr (.inr ⟨l, h, rekey_gr h1, h2, h3⟩)
theorem rekey_ok {k d b : Nat} (hk : k < 1000) (hd : d < 1000) (ok : p.ok B M0 w) (hb : p.bx k = some b) : (p.rekey k d b).ok B M0 w := by
  refine ⟨ok.m0, ok.size, fun k' b' h => ?_, fun l h hg => ok.gr l h (rekey_gr hg), fun k1 k2 b' h1 h2 => ?_, fun l l' h h' e e' => ok.gri l l' h h' (rekey_gr e) (rekey_gr e'), fun k' b' l h hx hg => ?_, fun k' b' t n h => ?_⟩
  · rcases rekey_bx hk h with ⟨_, rfl⟩ | ⟨_, _, h⟩
    · exact ok.bx _ _ hb
    · exact ok.bx _ _ h
  · rcases rekey_bx hk h1 with ⟨rfl, rfl⟩ | ⟨n1, n2, g1⟩ <;> rcases rekey_bx hk h2 with ⟨rfl, e⟩ | ⟨m1, m2, g2⟩
    · rfl
    · exact absurd (ok.bxi _ _ _ g2 hb) m2
    · subst e; exact absurd (ok.bxi _ _ _ g1 hb) n2
    · exact ok.bxi _ _ _ g1 g2
  · rcases rekey_bx hk hx with ⟨_, rfl⟩ | ⟨_, _, g⟩
    · exact ok.dis _ _ _ _ hb (rekey_gr hg)
    · exact ok.dis _ _ _ _ g (rekey_gr hg)
  · obtain ⟨f1, f2, f3⟩ := ok.fx _ _ _ _ h
    refine ⟨f1, ?_, f3⟩
    simp only [Pm.rekey, Pm.clean]
    rw [if_neg (by omega), if_neg (fun h => by omega)]; exact f2

theorem Rel.rekey {tv : Array Value} {k d b : Nat} (hk1 : k < 1000) (hd1 : d < 1000) (hr : Rel B M0 p C T X tv w) (hb : p.bx k = some b) : Rel B M0 (p.rekey k d b) (C.filter fun l => !gone [] [k, d] l) (clT [] [k, d] 0 T) (clX [] [k, d] X) tv w := by
  have hk : Keep w (p.M M0) w ((p.rekey k d b).M M0) := fun a u h hn => ⟨h, fun hm => hn (rekey_M hk1 hb hm)⟩
  have up : ∀ {l a v}, VA w (p.M M0) p C l a v → VA w ((p.rekey k d b).M M0) (p.rekey k d b) (C.filter fun l => !gone [] [k, d] l) l (clAt [] [k, d] l a) v := by
    intro l a v h
    refine VA.mono (M := (p.rekey k d b).M M0) (p := p.clean [] [k, d]) (p' := p.rekey k d b) ⟨Keep.refl _ _, fun k' b' h => ?_, fun l h _ hg => hg, fun _ h => h, fun _ _ c _ _ h => ⟨c, h, rfl⟩⟩ (VA.clean hk h)
    simp only [Pm.rekey]
    split
    · rename_i e; subst e; simp [Pm.clean, hd1] at h
    · exact h
  refine ⟨rekey_ok hk1 hd1 hr.ok hb, by rw [clT_len]; exact hr.len, fun t a h => ?_, fun k' ls h => ?_⟩
  · rw [clT_get, Option.map_eq_some_iff] at h
    obtain ⟨a', h1, rfl⟩ := h
    rw [Nat.zero_add]
    exact up (hr.tm t a' h1)
  · obtain ⟨h1, ls', h2, rfl⟩ := clX_lk [] [k, d] X k' ls h
    rcases hr.bx k' ls' h2 with rfl | ⟨b', c, e, h3, h4, h5, h6⟩
    · exact .inl rfl
    refine .inr ⟨b', c, e, ?_, h4, by rw [clL_len]; exact h5, fun j a h => ?_⟩
    · simp only [Pm.rekey]
      rw [if_neg (fun e => by subst e; simp at h1)]
      simp only [Pm.clean]; rw [if_neg (fun h => by rw [h1] at h; cases h.1)]; exact h3
    · rw [clL_get, Option.map_eq_some_iff] at h
      obtain ⟨a', h7, rfl⟩ := h
      rw [Nat.zero_add]
      exact up (h6 j a' h7)

def S.app (s : S) (k r d : Nat) (e : TypeId) (sz n : Nat) (ls : List A) (ys : List D) : S :=
  { T := (s.clean [] [k, r]).T.set d (.row r e sz 0 (n + ys.length)), X := (r, ls.map rowA ++ (ys.flatMap D.cells).map .ofD) :: (s.clean [] [k, r]).X, C := (s.clean [] [k, r]).C }

/-- append to a row of the call's own. -/
def appR (P : Program) (s : S) (d : Nat) (x y : Operand) (t t' : TypeId) : Option (Prop × S) :=
  match elemOf P t with
  | some e => match szOf P e, bytesOf P e, dnd s.T y with
    | some (sz + 1), some by_, some (.sl ys) =>
      if t = t' ∧ ((zeroOf P e).filter fun l => l.length = sz + 1).isSome then match opnd s.T x with
        | some (.row k e' sz' o n) => if e' = e ∧ sz' = sz + 1 ∧ o = 0 ∧ k < 1000 ∧ d < 1000 then (lk s.X k).map fun ls => (ls.length = n * (sz + 1) ∧ (n + ys.length) * by_ ≤ 140737488355328 ∧ n + ys.length ≤ maxLen ∧ ∀ y ∈ ys, y.cells.length = sz + 1, s.app k k d e (sz + 1) n ls ys) else none
        | some .nil => match s.T[d]? with
          | some .want => if d < 1000 then some (ys.length * by_ ≤ 140737488355328 ∧ ys.length ≤ maxLen ∧ ∀ y ∈ ys, y.cells.length = sz + 1, s.app d d d e (sz + 1) 0 [] ys) else none
          | _ => none
        | _ => none
      else none
    | _, _, _ => none
  | none => none

theorem flatMap_nil_len {sz : Nat} {ys : List D} (h : ys.flatMap D.cells = []) (hs : ∀ y ∈ ys, y.cells.length = sz + 1) : ys = [] := by
  cases ys with
  | nil => rfl
  | cons y r => have := hs y (by simp); simp at h; rw [h.1] at this; simp at this

theorem app_nil {w0 : World} {s : S} {a : Act} (h : Holds B M0 w0 s a w) {k r d n : Nat} (hd1 : r < 1000) {e t ty : TypeId} {sz by_ : Nat} {ls : List A} {ys : List D} {x y : Operand} (he : elemOf P t = some e) (hsz : szOf P e = some (sz + 1)) (hby : bytesOf P e = some by_)
    (hz : ((zeroOf P e).filter fun l => l.length = sz + 1).isSome) (hy : dnd s.T y = some (.sl ys)) (hls : ls = []) (hn : n = 0) (hb : (n + ys.length) * by_ ≤ 140737488355328) (hm : n + ys.length ≤ maxLen) (hcl : ∀ y ∈ ys, y.cells.length = sz + 1) (hv : a.eval x = .slice none 0 0) :
    ∃ v w', (Builtin.append_ #[t, t] ty #[a.eval x, a.eval y]).run P w = .ok v w' ∧ Holds B M0 w0 (s.app k r d e (sz + 1) n ls ys) (a.put (some d) v) w' := by
  obtain ⟨p, hr, hd, hbel⟩ := h
  subst hls; subst hn
  obtain ⟨i, hi, his⟩ := szOf_info hsz
  have his : i.size = sz + 1 := his
  obtain ⟨i', hi', hib⟩ := bytesOf_info hby
  rw [hi] at hi'; obtain rfl := Option.some.inj hi'
  have ht := elemOf_und he
  obtain ⟨zl, hzl⟩ := Option.isSome_iff_exists.1 hz
  rw [Option.filter_eq_some_iff] at hzl
  obtain ⟨hz, hzlen⟩ := hzl
  obtain ⟨i', z, hi', hzv, hzm⟩ := zeroOf_inv hz
  rw [hi] at hi'; obtain rfl := Option.some.inj hi'
  have hzsz : z.cells.size = i.size := by have := (mapM_aOfV hzm).1; simp at hzlen this; omega
  have hyv := dnd_vd hr hy
  have h1 := hr.clean [] [k, r]
  rw [hv]
  have nothing : ys = [] → ∀ (b : Option Addr) (c : Nat), a.eval y = .slice b 0 c → ∃ v w', (Builtin.append_ #[t, t] ty #[.slice none 0 0, a.eval y]).run P w = .ok v w' ∧ Holds B M0 w0 (s.app k r d e (sz + 1) 0 [] ys) (a.put (some d) v) w' := by
    intro hys b c hvy
    subst hys
    rw [hvy]
    refine ⟨_, w, run_append_nothing ht hi (Nat.le_refl _), _, (h1.addNil r).set (d := d) (x := .row r e (sz + 1) 0 0) ?_, hd, hbel⟩
    exact .inl ⟨rfl, rfl⟩
  rcases VD.sl_inv hyv with ⟨hys, cy, hvy⟩ | ⟨ay, cy, szy, u, hvy, _⟩
  · exact nothing hys none cy hvy
  · by_cases hys : ys = []
    · exact nothing hys (some ay) cy (by rw [hvy, hys]; rfl)
    · rw [hvy] at hyv ⊢
      obtain ⟨news, _, n2, n3, n4, _, n6⟩ := src_cells hyv hcl (by omega)
      have hyl : 0 < ys.length := List.length_pos_iff.2 hys
      have hcapm := grownCap_le_maxLen w ys.length 0 e (by simpa using hm)
      have hge := grownCap_ge w ys.length 0 e
      have hrun := run_append_nil (P := P) w t ty e i z ht hi hzv ay ys.length cy news (by rw [his]; exact n2) (fun j u hu => (n3 j u hu).1) hyl (by simp only [maxLen] at hm; omega) (by rw [Nat.zero_add] at hb; rw [hib]; omega)
      have hdn : (p.clean [] [k, r]).bx r = none := by simp [Pm.clean, hd1]
      have hfl := flat_len ys hcl
      have hkk : Keep w (p.M M0) (w.drew.alloc (.cells (news.toArray ++ Builtin.zeroCells z.cells (grownCap w ys.length 0 e - ys.length)) e)) (((p.clean [] [k, r]).box r w.heap.size).M M0) :=
        Keep.trans (fun a u h hn => ⟨h, fun hm => hn (Pm.clean_M hm)⟩) (grows_box (C := []) h1.ok hdn (New.drew w _)).keep
      refine ⟨_, _, hrun, _, (h1.fresh hdn (New.drew w _) (ls := [].map rowA ++ (ys.flatMap D.cells).map .ofD) ?_ (fun j x hx => ?_)).set (d := d) (x := .row r e (sz + 1) 0 (0 + ys.length)) ?_, hd, hbel.trans (New.drew w _).below⟩
      · simp [hfl, n2]
      · simp only [List.map_nil, List.nil_append, List.getElem?_map, Option.map_eq_some_iff] at hx
        obtain ⟨x', hx', rfl⟩ := hx
        have hj : j < news.length := by rw [n2, ← hfl]; exact (List.getElem?_eq_some_iff.1 hx').1
        refine VA.ofD ((n4.2 j x' _ hx' ?_).mono hkk)
        rw [Array.getD_eq_getD_getElem?, Array.getElem?_append_left (by simpa using hj)]
        simp [hj]
      · refine .inr ⟨w.heap.size, grownCap w ys.length 0 e, _, by simp [Pm.box], by rw [Nat.zero_add], by omega, hcapm, (New.drew w _).last, ?_⟩
        simp only [Array.size_append, List.size_toArray, size_zeroCells, hzsz, n2, his, ← Nat.add_mul]
        rw [Nat.zero_add]
        exact Nat.mul_le_mul_right _ (by omega)

theorem appR_sound {w0 : World} {s s' : S} {a : Act} {d : Nat} {x y : Operand} {t t' ty : TypeId} {c : Prop} (h : Holds B M0 w0 s a w) (ha : appR P s d x y t t' = some (c, s')) (hc : c) :
    ∃ v w', (Builtin.append_ #[t, t'] ty #[a.eval x, a.eval y]).run P w = .ok v w' ∧ Holds B M0 w0 s' (a.put (some d) v) w' := by
  unfold appR at ha
  split at ha
  rotate_left
  · cases ha
  rename_i e he
  split at ha
  rotate_left
  · cases ha
  rename_i sz by_ ys hsz hby hy
  split at ha
  rotate_left
  · cases ha
  rename_i hcond
  obtain ⟨rfl, hz⟩ := hcond
  have hz : ((zeroOf P e).filter fun l => l.length = sz + 1).isSome := hz
  split at ha
  · rename_i k e' sz' o n hx
    split at ha
    rotate_left
    · cases ha
    rename_i hee
    obtain ⟨hee1, rfl, rfl, hk1, hd1⟩ := hee
    obtain rfl : e = e' := hee1.symm
    simp only [Option.map_eq_some_iff, Prod.mk.injEq] at ha
    obtain ⟨ls, hk, rfl, rfl⟩ := ha
    obtain ⟨hln, hb, hm, hcl⟩ := hc
    obtain ⟨p, hr, hd, hbel⟩ := h
    rcases opnd_va hr hx (l := .t 0) with ⟨hn0, hv⟩ | ⟨b, cap, c, q1, q2, q3, q4, q5, q6⟩
    · have hls : ls = [] := List.eq_nil_of_length_eq_zero (by rw [hln, hn0, Nat.zero_mul])
      exact app_nil ⟨p, hr, hd, hbel⟩ hk1 he hsz hby hz hy hls hn0 hb hm hcl hv
    · obtain ⟨i, hi, his⟩ := szOf_info hsz
      have his : i.size = sz + 1 := his
      obtain ⟨i', hi', hib⟩ := bytesOf_info hby
      rw [hi] at hi'; obtain rfl := Option.some.inj hi'
      have ht := elemOf_und he
      obtain ⟨zl, hzl⟩ := Option.isSome_iff_exists.1 hz
      rw [Option.filter_eq_some_iff] at hzl
      obtain ⟨hz, hzlen⟩ := hzl
      obtain ⟨i', z, hi', hzv, hzm⟩ := zeroOf_inv hz
      rw [hi] at hi'; obtain rfl := Option.some.inj hi'
      have hzsz : z.cells.size = i.size := by have := (mapM_aOfV hzm).1; simp at hzlen this; omega
      have hyv := dnd_vd hr hy
      obtain ⟨c', e', r1, r2, r3⟩ := hr.bxb hk q1
      rw [q5] at r1; injection r1 with r1; injection r1 with r1 r1'; subst r1; subst r1'
      have hB := (hr.ok.bx _ _ q1).1
      rw [q2]
      rw [Nat.zero_add] at q6
      have hncs : n * (sz + 1) ≤ c.size := Nat.le_trans (Nat.mul_le_mul_right _ q3) q6
      have hfl := flat_len ys hcl
      -- the same row, perhaps with more in it
      have inplace : ∀ (news : List Value), Row w (p.M M0) (ys.flatMap D.cells) news → news.length = ys.length * (sz + 1) → n + ys.length ≤ cap →
          Holds B M0 w0 (s.app k k d e (sz + 1) n ls ys) (a.put (some d) (.slice (some ⟨b, 0, none⟩) (n + ys.length) cap)) (w.setRow b (c.toList.take (n * (sz + 1)) ++ news ++ c.toList.drop (n * (sz + 1) + news.length)).toArray) := by
        intro news hrow hnl hroom
        have hmul : n * (sz + 1) + ys.length * (sz + 1) ≤ c.size := by rw [← Nat.add_mul]; exact Nat.le_trans (Nat.mul_le_mul_right _ hroom) q6
        generalize hcs : (c.toList.take (n * (sz + 1)) ++ news ++ c.toList.drop (n * (sz + 1) + news.length)).toArray = cs
        have hcsz : cs.size = c.size := by subst hcs; simp; omega
        have hkk : Keep w (p.M M0) w ((p.rekey k k b).M M0) := fun a u h hn => ⟨h, fun hm => hn (rekey_M hk1 q1 hm)⟩
        have h1 := hr.rekey (d := k) hk1 hk1 q1
        have hbd : (p.rekey k k b).bx k = some b := by simp [Pm.rekey]
        refine ⟨_, (h1.renew hbd q5 hcsz (clX_none (by simp) _) (ls := ls.map rowA ++ (ys.flatMap D.cells).map .ofD) (by simp [hln, hfl]; omega) (fun j x hx => ?_)).set (d := d) (x := .row k e (sz + 1) 0 (n + ys.length)) ?_, hd, hbel.trans (below_setRow hB)⟩
        · rw [List.getElem?_append] at hx
          have hto : (c.toList.take (n * (sz + 1))).length = n * (sz + 1) := by simp; omega
          have hget : cs.getD j undef = ((c.toList.take (n * (sz + 1)) ++ (news ++ c.toList.drop (n * (sz + 1) + news.length)))[j]?).getD undef := by
            subst hcs; rw [Array.getD_eq_getD_getElem?, List.getElem?_toArray, List.append_assoc]
          rw [hget, List.getElem?_append, hto]
          simp only [List.length_map, hln] at hx
          split at hx
          · rename_i hj
            rw [if_pos hj, List.getElem?_take, if_pos hj]
            simp only [List.getElem?_map, Option.map_eq_some_iff] at hx
            obtain ⟨x', hx', rfl⟩ := hx
            have := r3 j x' hx'
            rw [Array.getElem?_toList, ← Array.getD_eq_getD_getElem?]
            exact VA.rowA hkk this
          · rename_i hj
            rw [if_neg hj]
            simp only [List.getElem?_map, Option.map_eq_some_iff] at hx
            obtain ⟨x', hx', rfl⟩ := hx
            have hjn : j - n * (sz + 1) < news.length := by rw [hnl, ← hfl]; exact (List.getElem?_eq_some_iff.1 hx').1
            rw [List.getElem?_append_left hjn, List.getElem?_eq_getElem hjn]
            exact VA.ofD ((hrow.2 _ x' _ hx' (List.getElem?_eq_getElem hjn)).mono hkk)
        · exact .inr ⟨b, cap, cs, hbd, rfl, hroom, q4, setRow_heap_same q5, by rw [hcsz, Nat.zero_add]; exact q6⟩
      have nothing : ys = [] → ∀ (b' : Option Addr) (c' : Nat), a.eval y = .slice b' 0 c' → ∃ v w', (Builtin.append_ #[t, t] ty #[.slice (some ⟨b, 0, none⟩) n cap, a.eval y]).run P w = .ok v w' ∧ Holds B M0 w0 (s.app k k d e (sz + 1) n ls ys) (a.put (some d) v) w' := by
        intro hys b' c' hvy
        subst hys
        rw [hvy]
        have := inplace [] ⟨by simp, by simp⟩ (by simp) (by simpa using q3)
        simp only [List.append_nil, List.length_nil, Nat.add_zero, List.take_append_drop, Array.toArray_toList] at this
        rw [setRow_self w b c e (0, 0) q5] at this
        exact ⟨_, w, run_append_nothing ht hi q3, this⟩
      rcases VD.sl_inv hyv with ⟨hys, cy, hvy⟩ | ⟨ay, cy, szy, u, hvy, _⟩
      · exact nothing hys none cy hvy
      · by_cases hys : ys = []
        · exact nothing hys (some ay) cy (by rw [hvy, hys]; rfl)
        rw [hvy] at hyv ⊢
        obtain ⟨news, _, n2, n3, n4, n5, n6⟩ := src_cells hyv hcl (by omega)
        have hyl : 0 < ys.length := List.length_pos_iff.2 hys
        by_cases hroom : n + ys.length ≤ cap
        · have hmul : n * (sz + 1) + ys.length * (sz + 1) ≤ c.size := by rw [← Nat.add_mul]; exact Nat.le_trans (Nat.mul_le_mul_right _ hroom) q6
          have hrun := run_append_room (P := P) w t ty e i ht hi b n cap c q5 ay ys.length cy news (by rw [his]; exact n2) (fun j u hu => (n3 j u hu).1) n5 hroom (by rw [his, n2]; exact hmul)
          rw [his] at hrun
          exact ⟨_, _, hrun, inplace news n4 n2 hroom⟩
        · have ho2 : (c.toList.take (n * (sz + 1))).length = n * (sz + 1) := by simp; omega
          have hog : ∀ (j : Nat) v, (c.toList.take (n * (sz + 1)))[j]? = some v → w.cell? ((Addr.mk b 0 none).add j) = some v := by
            intro j v hj
            rw [Addr.add_lit, cell_of_row w _ _ _ _ _ q5, Nat.zero_add]
            rw [List.getElem?_take] at hj
            split at hj
            · simpa using hj
            · cases hj
          have hcapm := grownCap_le_maxLen w (n + ys.length) cap e hm
          have hge := grownCap_ge w (n + ys.length) cap e
          have hrun := run_append_grow (P := P) w t ty e i z ht hi hzv ⟨b, 0, none⟩ n cap (c.toList.take (n * (sz + 1))) (by rw [his]; exact ho2) hog ay ys.length cy news (by rw [his]; exact n2) (fun j u hu => (n3 j u hu).1) (by omega)
            (by simp only [maxLen] at hm; omega) (growslice_fits (by omega) (by rw [hib]; exact hb))
          have h1 := hr.clean [] [k, k]
          have hdn : (p.clean [] [k, k]).bx k = none := by simp [Pm.clean, hk1]
          have hkk : Keep w (p.M M0) _ (((p.clean [] [k, k]).box k w.heap.size).M M0) :=
            Keep.trans (fun a u h hn => ⟨h, fun hm => hn (Pm.clean_M hm)⟩) (grows_box (C := []) h1.ok hdn (New.drew w (.cells ((c.toList.take (n * (sz + 1))).toArray ++ news.toArray ++ Builtin.zeroCells z.cells (grownCap w (n + ys.length) cap e - (n + ys.length))) e))).keep
          refine ⟨_, _, hrun, _, (h1.fresh hdn (New.drew w _) (ls := ls.map rowA ++ (ys.flatMap D.cells).map .ofD) ?_ (fun j x hx => ?_)).set (d := d) (x := .row k e (sz + 1) 0 (n + ys.length)) ?_, hd, hbel.trans (New.drew w _).below⟩
          · simp only [Array.size_append, List.size_toArray, ho2, n2, List.length_append, List.length_map, hln, hfl]; omega
          · have hget : ((c.toList.take (n * (sz + 1))).toArray ++ news.toArray ++ Builtin.zeroCells z.cells (grownCap w (n + ys.length) cap e - (n + ys.length))).getD j undef = ((c.toList.take (n * (sz + 1)) ++ (news ++ (Builtin.zeroCells z.cells (grownCap w (n + ys.length) cap e - (n + ys.length))).toList))[j]?).getD undef := by
              rw [Array.getD_eq_getD_getElem?, ← Array.getElem?_toList]; simp [List.append_assoc]
            rw [hget, List.getElem?_append, ho2]
            rw [List.getElem?_append] at hx
            simp only [List.length_map, hln] at hx
            split at hx
            · rename_i hj
              rw [if_pos hj, List.getElem?_take, if_pos hj]
              simp only [List.getElem?_map, Option.map_eq_some_iff] at hx
              obtain ⟨x', hx', rfl⟩ := hx
              have := r3 j x' hx'
              rw [Array.getElem?_toList, ← Array.getD_eq_getD_getElem?]
              exact VA.rowA hkk this
            · rename_i hj
              rw [if_neg hj]
              simp only [List.getElem?_map, Option.map_eq_some_iff] at hx
              obtain ⟨x', hx', rfl⟩ := hx
              have hjn : j - n * (sz + 1) < news.length := by rw [n2, ← hfl]; exact (List.getElem?_eq_some_iff.1 hx').1
              rw [List.getElem?_append_left hjn, List.getElem?_eq_getElem hjn]
              exact VA.ofD ((n4.2 _ x' _ hx' (List.getElem?_eq_getElem hjn)).mono hkk)
          · refine .inr ⟨w.heap.size, grownCap w (n + ys.length) cap e, _, by simp [Pm.box], rfl, hge, hcapm, (New.drew w _).last, ?_⟩
            simp only [Array.size_append, List.size_toArray, size_zeroCells, hzsz, n2, ho2, his, ← Nat.add_mul]
            rw [Nat.zero_add]
            exact Nat.mul_le_mul_right _ (by omega)
  · rename_i hx
    split at ha
    · rename_i hw
      split at ha
      rotate_left
      · cases ha
      rename_i hd1
      simp only [Option.some.injEq, Prod.mk.injEq] at ha
      obtain ⟨rfl, rfl⟩ := ha
      obtain ⟨hb, hm, hcl⟩ := hc
      have hv : a.eval x = .slice none 0 0 := by obtain ⟨p, hr, _⟩ := h; exact opnd_va hr hx (l := .t 0)
      exact app_nil h hd1 he hsz hby hz hy rfl rfl (by simpa using hb) (by simpa using hm) hcl hv
    · cases ha
  · cases ha

/-! A row that changes no more. -/
def RowIs (sz : Nat) (ls : List A) (xs : List D) : Prop := ∀ (i : Nat) x, xs[i]? = some x → x.cells.length = sz ∧ ∀ (j : Nat) d, x.cells[j]? = some d → d.leaf = true ∧ ∃ a, ls[i * sz + j]? = some a ∧ toD a = some d
def frzA (k sz : Nat) (xs : List D) : A → A
  | .row k' e sz' o n => if k' = k then (if o = 0 ∧ n = xs.length ∧ sz' = sz then .d (.sl xs) else .unk) else .row k' e sz' o n
  | a => a
def frzX (k sz : Nat) (xs : List D) : List (Nat × List A) → List (Nat × List A)
  | [] => []
  | (k', ls) :: X => (k', ls.map (frzA k sz xs)) :: frzX k sz xs X
def S.freeze (s : S) (k sz : Nat) (xs : List D) : S := S.clean { T := s.T.map (frzA k sz xs), X := frzX k sz xs s.X, C := s.C } [] [k]
theorem frzX_lk {k sz xs} : ∀ {X : List (Nat × List A)} {k' : Nat}, lk (frzX k sz xs X) k' = (lk X k').map (·.map (frzA k sz xs))
  | [], _ => rfl
  | (k0, l0) :: X, k' => by
    simp only [frzX, lk]
    split
    · rfl
    · exact frzX_lk

theorem Holds.freeze {w0 : World} {s : S} {a : Act} (h : Holds B M0 w0 s a w) {k sz : Nat} {ls : List A} {xs : List D} (hk1 : k < 1000) (hk : lk s.X k = some ls) (hx : RowIs sz ls xs) : Holds B M0 w0 (s.freeze k sz xs) a w := by
  obtain ⟨p, hr, hd, hbel⟩ := h
  have hkk : Keep w (p.M M0) w ((p.clean [] [k]).M M0) := fun a u h hn => ⟨h, fun hm => hn (Pm.clean_M hm)⟩
  have up : ∀ {l a v}, VA w (p.M M0) p s.C l a v → VA w ((p.clean [] [k]).M M0) (p.clean [] [k]) (s.C.filter fun l => !gone [] [k] l) l (clAt [] [k] l (frzA k sz xs a)) v := by
    intro l a v h
    cases a with
    | row k' e sz' o n =>
      simp only [frzA]
      split
      · rename_i hkk'
        split
        · rename_i hc
          obtain ⟨rfl, rfl, rfl⟩ := hc
          subst hkk'
          show VD _ _ _ _
          rcases h with ⟨hn, hv⟩ | ⟨b, cap, c, h1, h2, h3, h4, h5, h6⟩
          · have : xs = [] := List.eq_nil_of_length_eq_zero hn
            subst this; rw [hv]; exact .nil 0
          · rw [h2]
            obtain ⟨c', e', r1, r2, r3⟩ := hr.bxb hk h1
            rw [h5] at r1; injection r1 with r1; injection r1 with r1 r1'; subst r1; subst r1'
            refine VD.sl_mk _ _ sz' (fun i j => c.getD (i * sz' + j) undef) h3 (fun i x hi => (hx i x hi).1) (fun i x j d hi hj => ?_) rfl
            obtain ⟨h7, a, h8, h9⟩ := (hx i x hi).2 j d hj
            have hlt : i * sz' + j < c.size := Nat.lt_of_lt_of_le (List.getElem?_eq_some_iff.1 h8).1 r2
            refine ⟨h7, ?_, fun hm => ?_, VD.mono hkk (toD_vd h9 (r3 _ _ h8))⟩
            · rw [Addr.add_lit, cell_of_row w _ _ _ _ _ h5, Nat.zero_add, Array.getD_eq_getD_getElem?, Array.getElem?_eq_getElem hlt]; rfl
            · rcases hm with hm | ⟨k2, hm⟩ | ⟨l2, h', g1, g2, g3⟩
              · exact (hr.ok.m0 _ _ hm).1 ((hr.ok.bx _ _ h1).1 _)
              · simp only [Pm.clean] at hm
                split at hm
                · cases hm
                · rename_i hn; exact hn ⟨by simp [hr.ok.bxi _ _ _ hm h1], by rw [hr.ok.bxi _ _ _ hm h1]; exact hk1⟩
              · simp only [Pm.clean] at g1
                split at g1
                · cases g1
                · exact hr.ok.dis _ _ _ _ h1 g1 g2.symm
        · trivial
      · exact VA.clean hkk h
    | _ => exact VA.clean hkk h
  refine ⟨p.clean [] [k], ⟨Pm.clean_ok hr.ok, by simp only [S.freeze, S.clean, clT_len, List.length_map]; exact hr.len, fun t a h => ?_, fun k' l h => ?_⟩, hd, hbel⟩
  · simp only [S.freeze, S.clean] at h ⊢
    rw [clT_get, Option.map_eq_some_iff] at h
    obtain ⟨a', h1, rfl⟩ := h
    rw [List.getElem?_map, Option.map_eq_some_iff] at h1
    obtain ⟨a'', h2, rfl⟩ := h1
    rw [Nat.zero_add]
    exact up (hr.tm t a'' h2)
  · simp only [S.freeze, S.clean] at h ⊢
    obtain ⟨h1, ls', h2, rfl⟩ := clX_lk [] [k] _ k' l h
    rw [frzX_lk, Option.map_eq_some_iff] at h2
    obtain ⟨l0, h3, rfl⟩ := h2
    rcases hr.bx k' l0 h3 with rfl | ⟨b', c, e, g3, g4, g5, g6⟩
    · exact .inl rfl
    refine .inr ⟨b', c, e, by simp only [Pm.clean]; rw [if_neg (fun h => by rw [h1] at h; cases h.1)]; exact g3, g4, by rw [clL_len, List.length_map]; exact g5, fun j a h => ?_⟩
    rw [clL_get, Option.map_eq_some_iff] at h
    obtain ⟨a', h7, rfl⟩ := h
    rw [List.getElem?_map, Option.map_eq_some_iff] at h7
    obtain ⟨a'', h8, rfl⟩ := h7
    rw [Nat.zero_add]
    exact up (g6 j a'' h8)

end Go.Proofs.Ytidnkaopndmigaa.V
end
section
set_option linter.unusedSimpArgs false
set_option linter.unusedVariables false
/- Calls that are handed variables and rows of the caller's own, and may hand back rows. -/
namespace Go.Proofs.Ytidnkaopndmigaa.V
open Go.RowKit

variable {P : Program} {B : Nat → Nat → Prop} {M0 : Fr} {p : Pm} {C : List Loc} {T : List A} {X : List (Nat × List A)} {w : World}

/-- A call of f enters it. -/
def Enters (P : Program) (f : FuncId) : Prop := ∀ args w, (callFunc f args).run P w = .ok (.enter f args) w

/-- The callee's number and the caller's of each variable. -/
abbrev Ren := List (Nat × Nat)
def rto : Ren → Nat → Option Nat
  | [], _ => none
  | (a, b) :: ρ, k => if a = k then some b else rto ρ k
def rof : Ren → Nat → Option Nat
  | [], _ => none
  | (a, b) :: ρ, k => if b = k then some a else rof ρ k
def rok : Ren → Prop
  | [] => True
  | (a, b) :: ρ => rto ρ a = none ∧ rof ρ b = none ∧ rok ρ
theorem rof_of_rto : ∀ {ρ : Ren}, rok ρ → ∀ {a b}, rto ρ a = some b → rof ρ b = some a
  | [], _, a, b, h => by simp [rto] at h
  | (x, y) :: ρ, ⟨h1, h2, h3⟩, a, b, h => by
    simp only [rto] at h
    split at h
    · rename_i e; injection h with h; subst e; subst h; simp [rof]
    · have := rof_of_rto h3 h
      simp only [rof]
      rw [if_neg (fun e => by subst e; rw [h2] at this; cases this)]; exact this
theorem rto_of_rof : ∀ {ρ : Ren}, rok ρ → ∀ {a b}, rof ρ b = some a → rto ρ a = some b
  | [], _, a, b, h => by simp [rof] at h
  | (x, y) :: ρ, ⟨h1, h2, h3⟩, a, b, h => by
    simp only [rof] at h
    split at h
    · rename_i e; injection h with h; subst e; subst h; simp [rto]
    · have := rto_of_rof h3 h
      simp only [rto]
      rw [if_neg (fun e => by subst e; rw [h1] at this; cases this)]; exact this
theorem rto_inj {ρ : Ren} (h : rok ρ) {a a' b : Nat} (h1 : rto ρ a = some b) (h2 : rto ρ a' = some b) : a = a' := by
  have := rof_of_rto h h1; rw [rof_of_rto h h2] at this; injection this with this; exact this.symm

def tupOf (v : Value) (vs : List Value) : Prop := vs = [v] ∨ (vs.length ≠ 1 ∧ v = .tuple vs.toArray)

/-- Called with values and variables that are as 'as' and 'X' say, f returns, and leaves, what 'rs' and 'Y' say; all else is as it was. -/
structure ConO (P : Program) (f : FuncId) (as : List A) (X : List (Nat × List A)) (rs : List A) (Y : List (Nat × List A)) : Prop where
  enters : Enters P f
  spec : ∀ (B : Nat → Nat → Prop) (M0 : Fr) (p : Pm) (vs : List Value) (w : World), Rel B M0 p [] as X vs.toArray w →
    Calls P f vs.toArray w fun e w' => ∃ v vs' p', e = .returned v ∧ tupOf v vs' ∧ Rel B M0 p' [] rs Y vs'.toArray w' ∧ Away B w w'

/-! What is handed over. -/
def passCs (ρ : Ren) : List (Nat × Nat) → Option (List (Nat × Nat))
  | [] => some []
  | (kc, o) :: cs => match rto ρ kc, passCs ρ cs with
    | some k, some l => some ((k, o) :: l)
    | _, _ => none
theorem passCs_get {ρ : Ren} : ∀ {cs cs' : List (Nat × Nat)}, passCs ρ cs = some cs' → cs'.length = cs.length ∧ ∀ (j k o : Nat), cs'[j]? = some (k, o) → ∃ kc, cs[j]? = some (kc, o) ∧ rto ρ kc = some k
  | [], cs', h => by simp only [passCs, Option.some.injEq] at h; subst h; exact ⟨rfl, fun j k o h => by simp at h⟩
  | (kc, o) :: cs, cs', h => by
    simp only [passCs] at h
    split at h
    · rename_i k l h1 h2
      injection h with h; subst h
      obtain ⟨q1, q2⟩ := passCs_get h2
      refine ⟨by simp [q1], fun j k' o' hj => ?_⟩
      cases j with
      | zero => simp at hj; obtain ⟨rfl, rfl⟩ := hj; exact ⟨kc, by simp, h1⟩
      | succ j => simpa using q2 j k' o' (by simpa using hj)
    · cases h
theorem passCs_get' {ρ : Ren} {cs cs' : List (Nat × Nat)} (h : passCs ρ cs = some cs') {j kc o : Nat} (hj : cs[j]? = some (kc, o)) : ∃ k, cs'[j]? = some (k, o) ∧ rto ρ kc = some k := by
  obtain ⟨h1, h2⟩ := passCs_get h
  have hlt : j < cs'.length := by rw [h1]; exact (List.getElem?_eq_some_iff.1 hj).1
  obtain ⟨kc', q1, q2⟩ := h2 j _ _ (List.getElem?_eq_getElem hlt)
  rw [hj] at q1; injection q1 with q1; injection q1 with q1 q3
  subst q3; subst q1
  exact ⟨_, List.getElem?_eq_getElem hlt, q2⟩
def passA (ρ : Ren) (y : A) : A → Prop
  | .d x => (toD y).map D.n1 = some x ∨ toD y = some x
  | .nil => y = .nil
  | .row kc e sz o n => match rto ρ kc with | some k => y = .row k e sz o n | none => False
  | .box kc o => match rto ρ kc with | some k => y = .box k o | none => False
  | .unk => True
  | .fn g cs => match passCs ρ cs with | some cs' => y = .fn g cs' | none => False
  | _ => False
def passL (ρ : Ren) : List A → List A → Prop
  | [], [] => True
  | y :: ys, a :: as => passA ρ y a ∧ passL ρ ys as
  | _, _ => False
def conA (ρ : Ren) (C : List Loc) (l : Loc) (y : A) : A → Prop
  | .grow e sz xs => (y = .grow e sz xs ∧ C.contains l = false) ∨ (y = .nil ∧ xs = [])
  | a => passA ρ y a
def conL (ρ : Ren) (C : List Loc) (k : Nat) : Nat → List A → List A → Prop
  | _, [], [] => True
  | j, y :: ys, a :: as => conA ρ C (.l k j) y a ∧ conL ρ C k (j + 1) ys as
  | _, _, _ => False
def passX (ρ : Ren) (C : List Loc) (X : List (Nat × List A)) : List (Nat × List A) → Prop
  | [] => True
  | (kc, lc) :: Y => (match rto ρ kc with | some k => (match lk X k with | some ls => conL ρ C k 0 ls lc | none => False) | none => False) ∧ passX ρ C X Y

theorem passL_get : ∀ {ρ ys as}, passL ρ ys as → as.length = ys.length ∧ ∀ (i : Nat) a, as[i]? = some a → ∃ y, ys[i]? = some y ∧ passA ρ y a
  | _, [], [], _ => ⟨rfl, fun i a h => by simp at h⟩
  | ρ, y :: ys, a :: as, h => by
    obtain ⟨h1, h2⟩ := h
    obtain ⟨h3, h4⟩ := passL_get h2
    refine ⟨by simp [h3], fun i b hb => ?_⟩
    cases i with
    | zero => simp at hb; subst hb; exact ⟨y, rfl, h1⟩
    | succ i => simp at hb; simpa using h4 i b hb
  | _, [], _ :: _, h => h.elim
  | _, _ :: _, [], h => h.elim
theorem conL_get : ∀ {ρ C k} {ys as : List A} {j : Nat}, conL ρ C k j ys as → as.length = ys.length ∧ ∀ (i : Nat) a, as[i]? = some a → ∃ y, ys[i]? = some y ∧ conA ρ C (.l k (j + i)) y a
  | _, _, _, [], [], _, _ => ⟨rfl, fun i a h => by simp at h⟩
  | ρ, C, k, y :: ys, a :: as, j, h => by
    obtain ⟨h1, h2⟩ := h
    obtain ⟨h3, h4⟩ := conL_get h2
    refine ⟨by simp [h3], fun i b hb => ?_⟩
    cases i with
    | zero => simp at hb; subst hb; exact ⟨y, rfl, h1⟩
    | succ i =>
      simp at hb
      obtain ⟨y', h5, h6⟩ := h4 i b hb
      exact ⟨y', by simpa using h5, by rw [show j + (i + 1) = j + 1 + i from by omega]; exact h6⟩
  | _, _, _, [], _ :: _, _, h => h.elim
  | _, _, _, _ :: _, [], _, h => h.elim
theorem passX_get : ∀ {ρ C X Y}, passX ρ C X Y → ∀ kc lc, lk Y kc = some lc → ∃ k ls, rto ρ kc = some k ∧ lk X k = some ls ∧ conL ρ C k 0 ls lc
  | ρ, C, X, [], _, kc, lc, h => by simp [lk] at h
  | ρ, C, X, (k0, l0) :: Y, ⟨h1, h2⟩, kc, lc, h => by
    simp only [lk] at h
    split at h
    · rename_i e; subst e
      injection h with h; subst h
      split at h1
      · rename_i k hk
        split at h1
        · rename_i ls hls; exact ⟨k, ls, hk, hls, h1⟩
        · exact h1.elim
      · exact h1.elim
    · exact passX_get h2 kc lc h

/-- The callee's blocks: new ones, the variables that it is handed, and what lies behind the rows in them. -/
def Lent (p : Pm) (ρ : Ren) (w : World) (b i : Nat) : Prop := w.heap.size ≤ b ∨ (∃ kc k, rto ρ kc = some k ∧ p.bx k = some b) ∨ ∃ kc k j h, rto ρ kc = some k ∧ p.gr (.l k j) = some h ∧ h.b = b ∧ h.len * h.size ≤ i
def lentFx (p : Pm) (ρ : Ren) (w : World) (kc : Nat) : Option (Nat × TypeId × Nat) := (rto ρ kc).bind fun k => (p.bx k).bind fun b => match w.heap[b]? with | some (.cells c t _) => some (b, t, c.size) | _ => none
def lentFr (p : Pm) (M0 : Fr) (ρ : Ren) (w : World) : Fr := ⟨fun b i => p.M M0 b i ∧ ¬ Lent p ρ w b i, lentFx p ρ w⟩
def Pm.lent (p : Pm) (ρ : Ren) (C : List Loc) : Pm where
  bx := fun kc => (rto ρ kc).bind p.bx
  gr := fun | .l kc j => (rto ρ kc).bind fun k => if C.contains (.l k j) then none else p.gr (.l k j)
            | .t _ => none

theorem lent_gr {ρ : Ren} {l : Loc} {h : Hdr} (hg : (p.lent ρ C).gr l = some h) : ∃ kc k j, l = .l kc j ∧ rto ρ kc = some k ∧ p.gr (.l k j) = some h ∧ .l k j ∉ C := by
  cases l with
  | t n => simp [Pm.lent] at hg
  | l kc j =>
    simp only [Pm.lent, Option.bind_eq_some_iff] at hg
    obtain ⟨k, h1, h2⟩ := hg
    split at h2
    · cases h2
    · rename_i hc
      exact ⟨kc, k, j, rfl, h1, h2, by simpa using hc⟩

theorem M_lt (ok : p.ok B M0 w) {b i : Nat} (hm : p.M M0 b i) : b < w.heap.size := by
  rcases hm with hm | ⟨k, hm⟩ | ⟨l, hd, h1, h2, _⟩
  · exact (ok.m0 _ _ hm).2
  · obtain ⟨_, _, _, q⟩ := ok.bx _ _ hm; exact heap_lt q
  · obtain ⟨_, _, _, _, q, _⟩ := ok.gr _ _ h1; rw [← h2]; exact heap_lt q

theorem lent_M {ρ : Ren} {b i : Nat} (hm : (p.lent ρ C).M (lentFr p M0 ρ w) b i) : p.M M0 b i := by
  rcases hm with hm | ⟨kc, hm⟩ | ⟨l, h, h1, h2, h3⟩
  · exact hm.1
  · simp only [Pm.lent, Option.bind_eq_some_iff] at hm
    obtain ⟨k, _, h⟩ := hm
    exact .inr (.inl ⟨k, h⟩)
  · obtain ⟨kc, k, j, rfl, _, h5, _⟩ := lent_gr h1
    exact .inr (.inr ⟨_, h, h5, h2, h3⟩)

theorem lent_ok {ρ : Ren} (hρ : rok ρ) (h1000 : ∀ kc k, rto ρ kc = some k → 1000 ≤ kc) (ok : p.ok B M0 w) : (p.lent ρ C).ok (Lent p ρ w) (lentFr p M0 ρ w) w := by
  refine ⟨fun b i h => ⟨h.2, M_lt ok h.1⟩, fun k hk i => .inl hk, fun kc b h => ?_, fun l h hg => ?_, fun k1 k2 b h1 h2 => ?_, fun l l' h h' e e' hb => ?_, fun kc b l h e e' => ?_, fun kc b t n h => ?_⟩
  · simp only [Pm.lent, Option.bind_eq_some_iff] at h
    obtain ⟨k, h1, h2⟩ := h
    obtain ⟨_, h3⟩ := ok.bx _ _ h2
    exact ⟨fun i => .inr (.inl ⟨kc, k, h1, h2⟩), h3⟩
  · obtain ⟨kc, k, j, rfl, h4, h5, _⟩ := lent_gr hg
    obtain ⟨_, h7⟩ := ok.gr _ _ h5
    exact ⟨fun i hi => .inr (.inr ⟨kc, k, j, h, h4, h5, rfl, hi⟩), h7⟩
  · simp only [Pm.lent, Option.bind_eq_some_iff] at h1 h2
    obtain ⟨k, h3, h4⟩ := h1
    obtain ⟨k', h5, h6⟩ := h2
    have := ok.bxi _ _ _ h4 h6; subst this
    exact rto_inj hρ h3 h5
  · obtain ⟨kc, k, j, rfl, h4, h5, _⟩ := lent_gr e
    obtain ⟨kc', k', j', rfl, h4', h5', _⟩ := lent_gr e'
    have := ok.gri _ _ _ _ h5 h5' hb
    injection this with h1 h2; subst h1; subst h2
    rw [rto_inj hρ h4 h4']
  · simp only [Pm.lent, Option.bind_eq_some_iff] at e
    obtain ⟨k, _, h2⟩ := e
    obtain ⟨_, _, _, _, _, h5, _⟩ := lent_gr e'
    exact ok.dis _ _ _ _ h2 h5
  · simp only [lentFr, lentFx, Option.bind_eq_some_iff] at h
    obtain ⟨k, h1, b', h2, h3⟩ := h
    obtain ⟨_, c, t', h5⟩ := ok.bx _ _ h2
    rw [h5] at h3
    simp only [Option.some.injEq, Prod.mk.injEq] at h3
    obtain ⟨rfl, rfl, rfl⟩ := h3
    exact ⟨h1000 _ _ h1, by simp only [Pm.lent, h1, Option.bind_some]; exact h2, c, h5, rfl⟩

theorem passA_va {ρ : Ren} {y a : A} {l l' : Loc} {v : Value} (h : passA ρ y a) (hv : VA w (p.M M0) p C l y v) : VA w ((p.lent ρ C).M (lentFr p M0 ρ w)) (p.lent ρ C) [] l' a v := by
  have hk : Keep w (p.M M0) w ((p.lent ρ C).M (lentFr p M0 ρ w)) := fun a u h hn => ⟨h, fun hm => hn (lent_M hm)⟩
  cases a with
  | d x =>
    simp only [passA, Option.map_eq_some_iff] at h
    rcases h with ⟨x', h1, rfl⟩ | h1
    · exact VD.mono hk (toD_vd h1 hv).n1
    · exact VD.mono hk (toD_vd h1 hv)
  | nil => simp only [passA] at h; subst h; exact hv
  | unk => trivial
  | row kc e sz o n =>
    simp only [passA] at h
    split at h
    · rename_i k hkc
      subst h
      rcases hv with hv | ⟨b, cap, c, h1, h2⟩
      · exact .inl hv
      · exact .inr ⟨b, cap, c, by simp only [Pm.lent, hkc, Option.bind_some]; exact h1, h2⟩
    · exact h.elim
  | box kc o =>
    simp only [passA] at h
    split at h
    · rename_i k hkc
      subst h
      obtain ⟨b, h1, h2⟩ := hv
      exact ⟨b, by simp only [Pm.lent, hkc, Option.bind_some]; exact h1, h2⟩
    · exact h.elim
  | fn g cs =>
    simp only [passA] at h
    split at h
    · rename_i cs' hcs
      subst h
      obtain ⟨vs, h1, h2, h3⟩ := hv
      refine ⟨vs, h1, by rw [h2, (passCs_get hcs).1], fun j kc o hj => ?_⟩
      obtain ⟨k, q1, q2⟩ := passCs_get' hcs hj
      obtain ⟨b, q3, q4⟩ := h3 j k o q1
      exact ⟨b, by simp only [Pm.lent, q2, Option.bind_some]; exact q3, q4⟩
    · exact h.elim
  | _ => exact h.elim

theorem conA_va {ρ : Ren} {y a : A} {kc k j : Nat} {v : Value} (hkc : rto ρ kc = some k) (h : conA ρ C (.l k j) y a) (hv : VA w (p.M M0) p C (.l k j) y v) : VA w ((p.lent ρ C).M (lentFr p M0 ρ w)) (p.lent ρ C) [] (.l kc j) a v := by
  have hk : Keep w (p.M M0) w ((p.lent ρ C).M (lentFr p M0 ρ w)) := fun a u h hn => ⟨h, fun hm => hn (lent_M hm)⟩
  cases a with
  | grow e sz xs =>
    rcases h with ⟨rfl, hc⟩ | ⟨rfl, rfl⟩
    · have hc' : Loc.l k j ∉ C := by simpa using hc
      refine ⟨VD.mono hk hv.1, fun _ => ?_⟩
      rcases hv.2 hc' with h1 | ⟨hd, h1, h2⟩
      · exact .inl h1
      · exact .inr ⟨hd, by simp only [Pm.lent, hkc, Option.bind_some, hc]; exact h1, h2⟩
    · obtain rfl : v = .slice none 0 0 := hv
      exact ⟨.nil 0, fun _ => .inl ⟨rfl, rfl⟩⟩
  | _ => exact passA_va h hv

/-- The callee's state at its start. -/
theorem Rel.lent {tv : Array Value} {ρ : Ren} {as ys : List A} {Y : List (Nat × List A)} {vs : List Value} (hr : Rel B M0 p C T X tv w) (hρ : rok ρ) (h1000 : ∀ kc k, rto ρ kc = some k → 1000 ≤ kc) (hp : passL ρ ys as) (hlen : vs.length = ys.length)
    (hv : ∀ (i : Nat) y v, ys[i]? = some y → vs[i]? = some v → VA w (p.M M0) p C (.t 0) y v) (hX : passX ρ C X Y) : Rel (Lent p ρ w) (lentFr p M0 ρ w) (p.lent ρ C) [] as Y vs.toArray w := by
  obtain ⟨h1, h2⟩ := passL_get hp
  refine ⟨lent_ok hρ h1000 hr.ok, by simp [h1, hlen], fun t a ha => ?_, fun kc lc h => ?_⟩
  · obtain ⟨y, hy, hpy⟩ := h2 t a ha
    have hlt : t < vs.length := by rw [hlen]; exact (List.getElem?_eq_some_iff.1 hy).1
    have := passA_va (l' := .t t) hpy (hv t y _ hy (List.getElem?_eq_getElem hlt))
    rw [Array.getD_eq_getD_getElem?, List.getElem?_toArray, List.getElem?_eq_getElem hlt]; exact this
  · obtain ⟨k, ls, h3, h4, h5⟩ := passX_get hX kc lc h
    obtain ⟨h6, h7⟩ := conL_get h5
    rcases hr.bx k ls h4 with rfl | ⟨b, c, e, q1, q2, q3, q4⟩
    · exact .inl (List.eq_nil_of_length_eq_zero h6)
    · refine .inr ⟨b, c, e, by simp only [Pm.lent, h3, Option.bind_some]; exact q1, q2, by rw [h6]; exact q3, fun j a ha => ?_⟩
      obtain ⟨y, hy, hc⟩ := h7 j a ha
      rw [Nat.zero_add] at hc
      exact conA_va h3 hc (q4 j y hy)

end Go.Proofs.Ytidnkaopndmigaa.V
end
