/- Texts of ours, put together: VO2, V13, V14, V15, V16, V17, V18, V19, V20, V21, V22. -/
import Derived.Test.YtidnkaopndmigaaK0
section
set_option linter.unusedSimpArgs false
set_option linter.unusedVariables false
/- The caller behind such a call. -/
namespace Go.Proofs.Ytidnkaopndmigaa.V
open Go.RowKit

variable {P : Program} {B : Nat → Nat → Prop} {M0 : Fr} {p : Pm} {C : List Loc} {T : List A} {X : List (Nat × List A)} {w : World}

theorem rof_app : ∀ (φ ρ : Ren) (k : Nat), rof (φ ++ ρ) k = match rof φ k with | some a => some a | none => rof ρ k
  | [], ρ, k => rfl
  | (a, b) :: φ, ρ, k => by
    simp only [List.cons_append, rof]
    split
    · rfl
    · exact rof_app φ ρ k
theorem rto_app : ∀ (φ ρ : Ren) (k : Nat), rto (φ ++ ρ) k = match rto φ k with | some a => some a | none => rto ρ k
  | [], ρ, k => rfl
  | (a, b) :: φ, ρ, k => by
    simp only [List.cons_append, rto]
    split
    · rfl
    · exact rto_app φ ρ k

def afA (σ : Ren) : A → A
  | .bor (.l k j) e sz xs => if (rof σ k).isSome then .d (.sl xs) else .bor (.l k j) e sz xs
  | a => a
def renA (σ : Ren) : A → A
  | .row kc e sz o n => match rto σ kc with | some k => .row k e sz o n | none => .unk
  | .box kc o => match rto σ kc with | some k => .box k o | none => .unk
  | .bor _ _ _ xs => .d (.sl xs)
  | .cell _ => .unk
  | .fn g cs => match passCs σ cs with | some cs' => .fn g cs' | none => .unk
  | a => a
def outA (σ : Ren) (a : A) : A := match renA σ a with | .grow _ _ xs => .d (.sl xs) | b => b
def afX (σ : Ren) : List (Nat × List A) → List (Nat × List A)
  | [] => []
  | (k, ls) :: X => if (rof σ k).isSome then afX σ X else (k, ls.map (afA σ)) :: afX σ X
def newY (σ : Ren) (R : List (Nat × List A)) : List (Nat × List A) → List (Nat × List A)
  | [] => R
  | (kc, lc) :: Y => match rto σ kc with | some k => (k, lc.map (renA σ)) :: newY σ R Y | none => newY σ R Y
def inR (σ : Ren) : Loc → Bool
  | .l k _ => (rof σ k).isSome
  | .t _ => false

theorem afX_lk {σ : Ren} : ∀ {X : List (Nat × List A)} {k : Nat} {ls}, lk (afX σ X) k = some ls → rof σ k = none ∧ ∃ l, lk X k = some l ∧ ls = l.map (afA σ)
  | [], k, ls, h => by simp [afX, lk] at h
  | (k0, l0) :: X, k, ls, h => by
    simp only [afX] at h
    split at h
    · rename_i hs
      obtain ⟨h1, l, h2, h3⟩ := afX_lk h
      refine ⟨h1, l, ?_, h3⟩
      simp only [lk]
      rw [if_neg (fun e => by subst e; rw [h1] at hs; cases hs)]; exact h2
    · rename_i hs
      simp only [lk] at h ⊢
      split at h
      · rename_i e; subst e
        injection h with h
        exact ⟨by simpa using hs, l0, by simp, h.symm⟩
      · rename_i e
        obtain ⟨h1, l, h2, h3⟩ := afX_lk h
        exact ⟨h1, l, by rw [if_neg e]; exact h2, h3⟩
theorem newY_lk {σ : Ren} (hσ : rok σ) {R : List (Nat × List A)} : ∀ {Y : List (Nat × List A)} {k : Nat} {ls}, lk (newY σ R Y) k = some ls → (∃ kc lc, rto σ kc = some k ∧ lk Y kc = some lc ∧ ls = lc.map (renA σ)) ∨ lk R k = some ls
  | [], k, ls, h => .inr h
  | (k0, l0) :: Y, k, ls, h => by
    simp only [newY] at h
    have step : ∀ {kc lc}, rto σ kc = some k → (rto σ k0 ≠ some k) → lk Y kc = some lc → lk ((k0, l0) :: Y) kc = some lc := fun h1 h2 h3 => by
      simp only [lk]; rw [if_neg (fun e => by subst e; exact h2 h1)]; exact h3
    split at h
    · rename_i k1 hk1
      simp only [lk] at h
      split at h
      · rename_i e; subst e
        injection h with h
        exact .inl ⟨k0, l0, hk1, by simp [lk], h.symm⟩
      · rename_i e
        rcases newY_lk hσ h with ⟨kc, lc, h1, h2, h3⟩ | h'
        · exact .inl ⟨kc, lc, h1, step h1 (fun h => by rw [hk1] at h; injection h with h; exact e h.symm) h2, h3⟩
        · exact .inr h'
    · rename_i hk1
      rcases newY_lk hσ h with ⟨kc, lc, h1, h2, h3⟩ | h'
      · exact .inl ⟨kc, lc, h1, step h1 (fun h => by rw [hk1] at h; cases h) h2, h3⟩
      · exact .inr h'

def Pm.back (p p' : Pm) (σ : Ren) : Pm where
  bx := fun k => match rof σ k with | some kc => p'.bx kc | none => p.bx k
  gr := fun | .l k j => match rof σ k with | some kc => p'.gr (.l kc j) | none => p.gr (.l k j)
            | .t n => p.gr (.t n)

theorem nlent {ρ : Ren} (hρ : rok ρ) (ok : p.ok B M0 w) {k b : Nat} (hb : p.bx k = some b) (hk : rof ρ k = none) (i : Nat) : ¬ Lent p ρ w b i := by
  rintro (h | ⟨kc, k2, h1, h2⟩ | ⟨kc, k2, j, h, h1, h2, h3, _⟩)
  · obtain ⟨_, _, _, q⟩ := ok.bx _ _ hb; have := heap_lt q; omega
  · have := ok.bxi _ _ _ h2 hb; subst this; rw [rof_of_rto hρ h1] at hk; cases hk
  · exact ok.dis _ _ _ _ hb h2 h3.symm
theorem nlentg {ρ : Ren} (hρ : rok ρ) (ok : p.ok B M0 w) {l : Loc} {h : Hdr} (hg : p.gr l = some h) (hl : inR ρ l = false) (i : Nat) : ¬ Lent p ρ w h.b i := by
  rintro (h' | ⟨kc, k2, h1, h2⟩ | ⟨kc, k2, j, h', h1, h2, h3, _⟩)
  · obtain ⟨_, _, _, _, q, _⟩ := ok.gr _ _ hg; have := heap_lt q; omega
  · exact ok.dis _ _ _ _ h2 hg rfl
  · have := ok.gri _ _ _ _ h2 hg h3; subst this; simp [inR, rof_of_rto hρ h1] at hl
theorem lentB {ρ : Ren} (ok : p.ok B M0 w) {b i : Nat} (h : Lent p ρ w b i) : B b i := by
  rcases h with h | ⟨kc, k, h1, h2⟩ | ⟨kc, k, j, h, h1, h2, h3, h4⟩
  · exact ok.size _ h i
  · exact (ok.bx _ _ h2).1 i
  · rw [← h3]; exact (ok.gr _ _ h2).1 i h4
theorem lentM {ρ : Ren} (ok : p.ok B M0 w) {b i : Nat} (hb : b < w.heap.size) (h : Lent p ρ w b i) : p.M M0 b i := by
  rcases h with h | ⟨kc, k, h1, h2⟩ | ⟨kc, k, j, h, h1, h2, h3, h4⟩
  · omega
  · exact .inr (.inl ⟨k, h2⟩)
  · exact .inr (.inr ⟨_, h, h2, h3, h4⟩)

section
variable {p' : Pm} {φ ρ : Ren} {rs : List A} {Y : List (Nat × List A)} {vs : Array Value} {w' : World}

/-- What is known when the call returns. -/
structure Back (B : Nat → Nat → Prop) (M0 : Fr) (p p' : Pm) (φ ρ : Ren) (w w' : World) : Prop where
  hσ : rok (φ ++ ρ)
  hρ : rok ρ
  ok : p.ok B M0 w
  ok' : p'.ok (Lent p ρ w) (lentFr p M0 ρ w) w'
  away : Away (Lent p ρ w) w w'
  fresh : ∀ kc k, rof φ k = some kc → k < 1000 ∧ p.bx k = none

theorem Back.same (h : Back B M0 p p' φ ρ w w') {k b : Nat} (hb : p.bx k = some b) (hk : rof ρ k = none) : w'.heap[b]? = w.heap[b]? := by
  obtain ⟨_, _, _, q⟩ := h.ok.bx _ _ hb
  exact h.away.block b (heap_lt q) (nlent h.hρ h.ok hb hk)
theorem Back.sameg (h : Back B M0 p p' φ ρ w w') {l : Loc} {hd : Hdr} (hg : p.gr l = some hd) (hl : inR ρ l = false) : w'.heap[hd.b]? = w.heap[hd.b]? := by
  obtain ⟨_, _, _, _, q, _⟩ := h.ok.gr _ _ hg
  exact h.away.block _ (heap_lt q) (nlentg h.hρ h.ok hg hl)
/-- A variable keeps its block, its type and its size. -/
theorem Back.fixed (h : Back B M0 p p' φ ρ w w') {k b : Nat} {c : Array Value} {t : TypeId} (hb : p.bx k = some b) (hc : w.heap[b]? = some (.cells c t (0, 0))) : (p.back p' (φ ++ ρ)).bx k = some b ∧ ∃ c', w'.heap[b]? = some (.cells c' t (0, 0)) ∧ c'.size = c.size := by
  have hnf : rof φ k = none := by
    cases hf : rof φ k with
    | none => rfl
    | some kc => rw [(h.fresh kc k hf).2] at hb; cases hb
  have e : rof (φ ++ ρ) k = rof ρ k := by rw [rof_app, hnf]
  simp only [Pm.back, e]
  cases hk : rof ρ k with
  | none => exact ⟨hb, c, by rw [h.same hb hk]; exact hc, rfl⟩
  | some kc =>
    have hfx : lentFx p ρ w kc = some (b, t, c.size) := by
      simp only [lentFx, rto_of_rof h.hρ hk, Option.bind_some, hb, hc]
    obtain ⟨_, h1, h2⟩ := h.ok'.fx kc b t c.size hfx
    exact ⟨h1, h2⟩

theorem back_bx (h : Back B M0 p p' φ ρ w w') {k b : Nat} (hb : (p.back p' (φ ++ ρ)).bx k = some b) : (∃ kc, rof (φ ++ ρ) k = some kc ∧ p'.bx kc = some b) ∨ (rof (φ ++ ρ) k = none ∧ rof ρ k = none ∧ p.bx k = some b) := by
  simp only [Pm.back] at hb
  split at hb
  · rename_i kc hk; exact .inl ⟨kc, hk, hb⟩
  · rename_i hk
    refine .inr ⟨hk, ?_, hb⟩
    rw [rof_app] at hk
    split at hk
    · cases hk
    · exact hk
theorem inR_app {l : Loc} (hl : inR (φ ++ ρ) l = false) : inR ρ l = false := by
  cases l with
  | t n => rfl
  | l k j =>
    simp only [inR, rof_app] at hl ⊢
    split at hl
    · cases hl
    · exact hl
theorem back_gr (h : Back B M0 p p' φ ρ w w') {l : Loc} {hd : Hdr} (hg : (p.back p' (φ ++ ρ)).gr l = some hd) : (∃ k j kc, l = .l k j ∧ rof (φ ++ ρ) k = some kc ∧ p'.gr (.l kc j) = some hd) ∨ (inR (φ ++ ρ) l = false ∧ p.gr l = some hd) := by
  cases l with
  | t n => exact .inr ⟨rfl, hg⟩
  | l k j =>
    simp only [Pm.back] at hg
    split at hg
    · rename_i kc hk; exact .inl ⟨k, j, kc, rfl, hk, hg⟩
    · rename_i hk; exact .inr ⟨by simp [inR, hk], hg⟩
theorem back_gr_old {l : Loc} (hl : inR (φ ++ ρ) l = false) : (p.back p' (φ ++ ρ)).gr l = p.gr l := by
  cases l with
  | t n => rfl
  | l k j =>
    simp only [inR, Option.isSome_eq_false_iff, Option.isNone_iff_eq_none] at hl
    simp only [Pm.back, hl]

theorem Back.pm (h : Back B M0 p p' φ ρ w w') : (p.back p' (φ ++ ρ)).ok B M0 w' := by
  refine ⟨fun b i hm => ⟨(h.ok.m0 b i hm).1, Nat.lt_of_lt_of_le (h.ok.m0 b i hm).2 h.away.size⟩, fun k hk i => h.ok.size k (Nat.le_trans h.away.size hk) i, fun k b hb => ?_, fun l hd hg => ?_, fun k1 k2 b h1 h2 => ?_, fun l1 l2 g1 g2 h1 h2 e => ?_, fun k b l hd h1 h2 => ?_, fun k b t n hf => ?_⟩
  · rcases back_bx h hb with ⟨kc, _, h2⟩ | ⟨_, h1, h2⟩
    · obtain ⟨q1, q2⟩ := h.ok'.bx _ _ h2
      exact ⟨fun i => lentB h.ok (q1 i), q2⟩
    · obtain ⟨q1, c, t, q2⟩ := h.ok.bx _ _ h2
      exact ⟨q1, c, t, by rw [h.same h2 h1]; exact q2⟩
  · rcases back_gr h hg with ⟨k, j, kc, rfl, _, h2⟩ | ⟨h1, h2⟩
    · obtain ⟨q1, q2⟩ := h.ok'.gr _ _ h2
      exact ⟨fun i hi => lentB h.ok (q1 i hi), q2⟩
    · obtain ⟨q1, q2, q3, c, q4, q5⟩ := h.ok.gr _ _ h2
      exact ⟨q1, q2, q3, c, by rw [h.sameg h2 (inR_app h1)]; exact q4, q5⟩
  · rcases back_bx h h1 with ⟨c1, a1, b1⟩ | ⟨a1, a1', b1⟩ <;> rcases back_bx h h2 with ⟨c2, a2, b2⟩ | ⟨a2, a2', b2⟩
    · have := h.ok'.bxi _ _ _ b1 b2; subst this
      have e1 := rto_of_rof h.hσ a1; rw [rto_of_rof h.hσ a2] at e1; injection e1 with e1; exact e1.symm
    · exact absurd ((h.ok'.bx _ _ b1).1 0) (nlent h.hρ h.ok b2 a2' 0)
    · exact absurd ((h.ok'.bx _ _ b2).1 0) (nlent h.hρ h.ok b1 a1' 0)
    · exact h.ok.bxi _ _ _ b1 b2
  · rcases back_gr h h1 with ⟨k1, j1, c1, rfl, a1, b1⟩ | ⟨a1, b1⟩ <;> rcases back_gr h h2 with ⟨k2, j2, c2, rfl, a2, b2⟩ | ⟨a2, b2⟩
    · have := h.ok'.gri _ _ _ _ b1 b2 e
      injection this with e1 e2; subst e1; subst e2
      have e1 := rto_of_rof h.hσ a1; rw [rto_of_rof h.hσ a2] at e1; injection e1 with e1; rw [e1]
    · exact absurd (by rw [← e]; exact (h.ok'.gr _ _ b1).1 _ (Nat.le_refl _)) (nlentg h.hρ h.ok b2 (inR_app a2) _)
    · exact absurd (by rw [e]; exact (h.ok'.gr _ _ b2).1 _ (Nat.le_refl _)) (nlentg h.hρ h.ok b1 (inR_app a1) _)
    · exact h.ok.gri _ _ _ _ b1 b2 e
  · rcases back_bx h h1 with ⟨c1, a1, b1⟩ | ⟨a1, a1', b1⟩ <;> rcases back_gr h h2 with ⟨k2, j2, c2, rfl, a2, b2⟩ | ⟨a2, b2⟩
    · exact h.ok'.dis _ _ _ _ b1 b2
    · intro e; subst e; exact nlentg h.hρ h.ok b2 (inR_app a2) 0 ((h.ok'.bx _ _ b1).1 0)
    · intro e; subst e; exact nlent h.hρ h.ok b1 a1' _ ((h.ok'.gr _ _ b2).1 _ (Nat.le_refl _))
    · exact h.ok.dis _ _ _ _ b1 b2
  · obtain ⟨f1, f2, c, f3, f4⟩ := h.ok.fx _ _ _ _ hf
    obtain ⟨g1, c', g2, g3⟩ := h.fixed f2 f3
    exact ⟨f1, g1, c', g2, by omega⟩

theorem Back.keep (h : Back B M0 p p' φ ρ w w') : Keep w (p.M M0) w' ((p.back p' (φ ++ ρ)).M M0) := by
  intro a u hc hn
  have hlt := block_lt_of_cell hc
  have hnl : ¬ Lent p ρ w a.block a.off := fun hl => hn (lentM h.ok hlt hl)
  refine ⟨h.away.cell a u hc hnl, ?_⟩
  rintro (hm | ⟨k, hm⟩ | ⟨l, hd, g1, g2, g3⟩)
  · exact hn (.inl hm)
  · rcases back_bx h hm with ⟨kc, _, h2⟩ | ⟨_, h1, h2⟩
    · exact hnl ((h.ok'.bx _ _ h2).1 _)
    · exact hn (.inr (.inl ⟨k, h2⟩))
  · rcases back_gr h g1 with ⟨k, j, kc, rfl, _, h2⟩ | ⟨h1, h2⟩
    · exact hnl (by rw [← g2]; exact (h.ok'.gr _ _ h2).1 _ g3)
    · exact hn (.inr (.inr ⟨l, hd, h2, g2, g3⟩))

theorem Back.keep' (h : Back B M0 p p' φ ρ w w') : Keep w' (p'.M (lentFr p M0 ρ w)) w' ((p.back p' (φ ++ ρ)).M M0) := by
  intro a u hc hn
  refine ⟨hc, ?_⟩
  rintro (hm | ⟨k, hm⟩ | ⟨l, hd, g1, g2, g3⟩)
  · exact hn (.inl ⟨.inl hm, fun hl => (h.ok.m0 _ _ hm).1 (lentB h.ok hl)⟩)
  · rcases back_bx h hm with ⟨kc, _, h2⟩ | ⟨_, h1, h2⟩
    · exact hn (.inr (.inl ⟨kc, h2⟩))
    · exact hn (.inl ⟨.inr (.inl ⟨k, h2⟩), nlent h.hρ h.ok h2 h1 _⟩)
  · rcases back_gr h g1 with ⟨k, j, kc, rfl, _, h2⟩ | ⟨h1, h2⟩
    · exact hn (.inr (.inr ⟨_, hd, h2, g2, g3⟩))
    · exact hn (.inl ⟨.inr (.inr ⟨l, hd, h2, g2, g3⟩), by rw [← g2]; exact nlentg h.hρ h.ok h2 (inR_app h1) _⟩)

theorem Back.old (h : Back B M0 p p' φ ρ w w') {l : Loc} {a : A} {v : Value} (hl : inR (φ ++ ρ) l = false) (hv : VA w (p.M M0) p C l a v) : VA w' ((p.back p' (φ ++ ρ)).M M0) (p.back p' (φ ++ ρ)) (C.filter fun l => !inR (φ ++ ρ) l) l (afA (φ ++ ρ) a) v := by
  have heads : ∀ {l' e sz xs}, inR (φ ++ ρ) l' = false → (l' ∉ C → Heads p l' e sz xs v) → (l' ∉ C.filter fun l => !inR (φ ++ ρ) l) → Heads (p.back p' (φ ++ ρ)) l' e sz xs v := by
    intro l' e sz xs hg hh hn
    rcases hh (fun hc => hn (List.mem_filter.2 ⟨hc, by simp [hg]⟩)) with h1 | ⟨h1, h2, h3⟩
    · exact .inl h1
    · exact .inr ⟨h1, by rw [back_gr_old hg]; exact h2, h3⟩
  cases a with
  | d x => exact VD.mono h.keep hv
  | nil => exact hv
  | unk => trivial
  | want => trivial
  | grow e sz xs => exact ⟨VD.mono h.keep hv.1, heads hl hv.2⟩
  | bor l' e sz xs =>
    cases l' with
    | t n => exact ⟨VD.mono h.keep hv.1, heads rfl hv.2⟩
    | l k j =>
      simp only [afA]
      split
      · exact VD.mono h.keep hv.1
      · rename_i hk; exact ⟨VD.mono h.keep hv.1, heads (by simpa [inR] using hk) hv.2⟩
  | box k o =>
    obtain ⟨b, h1, h2⟩ := hv
    obtain ⟨_, c, t, h3⟩ := h.ok.bx _ _ h1
    exact ⟨b, (h.fixed h1 h3).1, h2⟩
  | cell ls =>
    obtain ⟨a, h1, h2⟩ := hv
    refine ⟨a, h1, fun j d hd => ?_⟩
    obtain ⟨h3, h4, u, h5, h6⟩ := h2 j d hd
    have := h.keep (a.add j) u h5 (by rw [add_block, add_off]; exact h4)
    rw [add_block, add_off] at this
    exact ⟨h3, this.2, u, this.1, VD.mono h.keep h6⟩
  | row k e sz o n =>
    rcases hv with hv | ⟨b, cap, c, h1, h2, h3, h4, h5, h6⟩
    · exact .inl hv
    · obtain ⟨g1, c', g2, g3⟩ := h.fixed h1 h5
      exact .inr ⟨b, cap, c', g1, h2, h3, h4, g2, by omega⟩
  | fn g cs =>
    obtain ⟨vs, h1, h2, h3⟩ := hv
    refine ⟨vs, h1, h2, fun j k o hj => ?_⟩
    obtain ⟨b, q1, q2⟩ := h3 j k o hj
    obtain ⟨_, c, t, q3⟩ := h.ok.bx _ _ q1
    exact ⟨b, (h.fixed q1 q3).1, q2⟩

theorem Back.ren (h : Back B M0 p p' φ ρ w w') {l l' : Loc} {a : A} {v : Value} (hl : (∃ kc k j, l' = .l kc j ∧ l = .l k j ∧ rto (φ ++ ρ) kc = some k) ∨ ∀ e sz xs, a ≠ .grow e sz xs) (hv : VA w' (p'.M (lentFr p M0 ρ w)) p' [] l' a v) :
    VA w' ((p.back p' (φ ++ ρ)).M M0) (p.back p' (φ ++ ρ)) (C.filter fun l => !inR (φ ++ ρ) l) l (renA (φ ++ ρ) a) v := by
  cases a with
  | d x => exact VD.mono h.keep' hv
  | nil => exact hv
  | unk => trivial
  | want => trivial
  | cell ls => trivial
  | bor l' e sz xs => exact VD.mono h.keep' hv.1
  | grow e sz xs =>
    rcases hl with ⟨kc, k, j, rfl, rfl, hk⟩ | hl
    · refine ⟨VD.mono h.keep' hv.1, fun _ => ?_⟩
      rcases hv.2 (by simp) with h1 | ⟨hd, h1, h2⟩
      · exact .inl h1
      · exact .inr ⟨hd, by simp only [Pm.back, rof_of_rto h.hσ hk]; exact h1, h2⟩
    · exact absurd rfl (hl e sz xs)
  | box kc o =>
    simp only [renA]
    split
    · rename_i k hk
      obtain ⟨b, h1, h2⟩ := hv
      exact ⟨b, by simp only [Pm.back, rof_of_rto h.hσ hk]; exact h1, h2⟩
    · trivial
  | row kc e sz o n =>
    simp only [renA]
    split
    · rename_i k hk
      rcases hv with hv | ⟨b, cap, c, h1, h2⟩
      · exact .inl hv
      · exact .inr ⟨b, cap, c, by simp only [Pm.back, rof_of_rto h.hσ hk]; exact h1, h2⟩
    · trivial
  | fn g cs =>
    simp only [renA]
    split
    · rename_i cs' hcs
      obtain ⟨vs, h1, h2, h3⟩ := hv
      refine ⟨vs, h1, by rw [h2, (passCs_get hcs).1], fun j k o hj => ?_⟩
      obtain ⟨kc, q1, q2⟩ := (passCs_get hcs).2 j k o hj
      obtain ⟨b, q3, q4⟩ := h3 j kc o q1
      exact ⟨b, by simp only [Pm.back, rof_of_rto h.hσ q2]; exact q3, q4⟩
    · trivial

theorem Back.out (h : Back B M0 p p' φ ρ w w') {l l' : Loc} {a : A} {v : Value} (hv : VA w' (p'.M (lentFr p M0 ρ w)) p' [] l' a v) :
    VA w' ((p.back p' (φ ++ ρ)).M M0) (p.back p' (φ ++ ρ)) (C.filter fun l => !inR (φ ++ ρ) l) l (outA (φ ++ ρ) a) v := by
  by_cases hg : ∀ e sz xs, a ≠ .grow e sz xs
  · have := h.ren (C := C) (l := l) (.inr hg) hv
    unfold outA
    cases a with
    | grow e sz xs => exact absurd rfl (hg e sz xs)
    | row kc e sz o n => simp only [renA] at this ⊢; split at this <;> (split <;> simp_all)
    | box kc o => simp only [renA] at this ⊢; split at this <;> (split <;> simp_all)
    | fn g cs => simp only [renA] at this ⊢; split at this <;> (split <;> simp_all)
    | _ => exact this
  · cases a with
    | grow e sz xs => exact VD.mono h.keep' hv.1
    | _ => simp at hg

/-- The value of a call. -/
def resA (σ : Ren) : List A → Option A
  | [r] => some (outA σ r)
  | rs => (rs.mapM toD).map fun ds => .d (.tup ds)

def S.back (s : S) (σ : Ren) (Y : List (Nat × List A)) : S := { T := s.T.map (afA σ), X := newY σ (afX σ s.X) Y, C := s.C.filter fun l => !inR σ l }

theorem Back.rel (h : Back B M0 p p' φ ρ w w') {tv : Array Value} (hr : Rel B M0 p C T X tv w) (hr' : Rel (Lent p ρ w) (lentFr p M0 ρ w) p' [] rs Y vs w') :
    Rel B M0 (p.back p' (φ ++ ρ)) (C.filter fun l => !inR (φ ++ ρ) l) (T.map (afA (φ ++ ρ))) (newY (φ ++ ρ) (afX (φ ++ ρ) X) Y) tv w' := by
  refine ⟨h.pm, by simp [hr.len], fun t a ha => ?_, fun k ls hk => ?_⟩
  · rw [List.getElem?_map, Option.map_eq_some_iff] at ha
    obtain ⟨a', h1, rfl⟩ := ha
    exact h.old rfl (hr.tm t a' h1)
  · rcases newY_lk h.hσ hk with ⟨kc, lc, h1, h2, rfl⟩ | hk
    · rcases hr'.bx kc lc h2 with rfl | ⟨b, c, e, q1, q2, q3, q4⟩
      · exact .inl rfl
      · refine .inr ⟨b, c, e, by simp only [Pm.back, rof_of_rto h.hσ h1]; exact q1, q2, by simpa using q3, fun j a ha => ?_⟩
        rw [List.getElem?_map, Option.map_eq_some_iff] at ha
        obtain ⟨a', h3, rfl⟩ := ha
        exact h.ren (.inl ⟨kc, k, j, rfl, rfl, h1⟩) (q4 j a' h3)
    · obtain ⟨h1, l, h2, rfl⟩ := afX_lk hk
      rcases hr.bx k l h2 with rfl | ⟨b, c, e, q1, q2, q3, q4⟩
      · exact .inl rfl
      · have hn : rof ρ k = none := by
          rw [rof_app] at h1
          split at h1
          · cases h1
          · exact h1
        refine .inr ⟨b, c, e, by simp only [Pm.back, h1]; exact q1, by rw [h.same q1 hn]; exact q2, by simpa using q3, fun j a ha => ?_⟩
        rw [List.getElem?_map, Option.map_eq_some_iff] at ha
        obtain ⟨a', h3, rfl⟩ := ha
        exact h.old (by simp [inR, h1]) (q4 j a' h3)
end

theorem mapM_toD_get {ls : List A} {ds : List D} (h : ls.mapM toD = some ds) : ds.length = ls.length ∧ ∀ (j : Nat) d, ds[j]? = some d → ∃ a, ls[j]? = some a ∧ toD a = some d := mapM_toD h

theorem lent_away {w0 : World} {ρ : Ren} {w' : World} (ok : p.ok B M0 w) (h : Away (Lent p ρ w) w w') : Away B w w' :=
  ⟨h.os, h.tape, h.output, h.size, fun k hk ho => h.block k hk fun i hi => ho i (lentB ok hi), fun a u hu ho => h.cell a u hu fun hl => ho (lentB ok hl)⟩

/-- A call of such a function, seen from its caller. -/
theorem conO_callV {w0 : World} {s : S} {a : Act} {f : FuncId} {vs : List Value} {ys as rs : List A} {Xc Y : List (Nat × List A)} {φ ρ : Ren} (hh : Holds B M0 w0 s a w) (hcon : ConO P f as Xc rs Y) (hσ : rok (φ ++ ρ)) (hρ : rok ρ) (h1000 : ∀ kc k, rto ρ kc = some k → 1000 ≤ kc) (hφ : ∀ kc k, rof φ k = some kc → k < 1000)
    (hys : ∀ p, Rel B M0 p (s.clean [] (φ.map (·.2))).C (s.clean [] (φ.map (·.2))).T (s.clean [] (φ.map (·.2))).X a.tmps w → vs.length = ys.length ∧ ∀ (i : Nat) y v, ys[i]? = some y → vs[i]? = some v → VA w (p.M M0) p (s.clean [] (φ.map (·.2))).C (.t 0) y v)
    (hp : passL ρ ys as) (hX : passX ρ (s.clean [] (φ.map (·.2))).C (s.clean [] (φ.map (·.2))).X Xc) :
    Calls P f vs.toArray w fun e w' => ∃ v, e = .returned v ∧ (∀ d r, resA (φ ++ ρ) rs = some r → Holds B M0 w0 (((s.clean [] (φ.map (·.2))).back (φ ++ ρ) Y).set d r) (a.put (some d) v) w') ∧ Holds B M0 w0 ((s.clean [] (φ.map (·.2))).back (φ ++ ρ) Y) a w' := by
  obtain ⟨p0, hr0, hd, hbel⟩ := hh
  have hr := hr0.clean [] (φ.map (·.2))
  generalize hp1 : p0.clean [] (φ.map (·.2)) = p at hr
  obtain ⟨hl, hv⟩ := hys p hr
  have hl' := hr.lent hρ h1000 hp (vs := vs) hl hv hX
  refine (hcon.spec _ _ _ _ _ hl').mono fun e w' ⟨v, vs', p', he, htup, hr', haway⟩ => ⟨v, he, ?_⟩
  have hback : Back B M0 p p' φ ρ w w' := ⟨hσ, hρ, hr.ok, hr'.ok, haway, fun kc k hk => ⟨hφ kc k hk, by
    rw [← hp1]; simp only [Pm.clean]; rw [if_pos]
    refine ⟨?_, hφ kc k hk⟩
    have : ∀ {φ : Ren}, rof φ k = some kc → k ∈ φ.map (·.2) := by
      intro φ
      induction φ with
      | nil => intro h; simp [rof] at h
      | cons q φ ih =>
        intro h
        simp only [rof] at h
        split at h
        · rename_i e; simp [e]
        · simp [ih h]
    simpa using this hk⟩⟩
  have hrel := hback.rel hr hr'
  have hbel' := hbel.trans (lent_away (w0 := w) hr.ok haway)
  refine ⟨fun d r hres => ⟨_, hrel.set (d := d) ?_, hd, hbel'⟩, _, hrel, hd, hbel'⟩
  have hlen : rs.length = vs'.length := by have := hr'.len; simpa using this
  unfold resA at hres
  split at hres
  · injection hres with hres; subst hres
    obtain ⟨v0, rfl⟩ := List.length_eq_one_iff.1 (show vs'.length = 1 by rw [← hlen]; rfl)
    have hv0 : v0 = v := by
      rcases htup with h | ⟨h, _⟩
      · injection h
      · simp at h
    subst hv0
    exact hback.out (hr'.tm 0 _ rfl)
  · rename_i hne
    simp only [Option.map_eq_some_iff] at hres
    obtain ⟨ds, hds, rfl⟩ := hres
    obtain ⟨h1, h2⟩ := mapM_toD_get hds
    have hvt : v = .tuple vs'.toArray := by
      rcases htup with h | ⟨_, h⟩
      · exfalso
        rw [h] at hlen
        obtain ⟨r0, hr0⟩ := List.length_eq_one_iff.1 (show rs.length = 1 by rw [hlen]; rfl)
        exact hne r0 hr0
      · exact h
    subst hvt
    refine VD.tup _ _ (by rw [h1, hlen]) fun j d' u hd' hu => ?_
    obtain ⟨a', h3, h4⟩ := h2 j d' hd'
    have := hr'.tm j a' h3
    have hju : vs'.toArray.getD j undef = u := by rw [Array.getD_eq_getD_getElem?, List.getElem?_toArray, hu]; rfl
    rw [hju] at this
    exact (toD_vd h4 this).mono hback.keep'

theorem conO_call {w0 : World} {s : S} {a : Act} {f : FuncId} {xs : List Operand} {ys as rs : List A} {Xc Y : List (Nat × List A)} {φ ρ : Ren} (hh : Holds B M0 w0 s a w) (hcon : ConO P f as Xc rs Y) (hσ : rok (φ ++ ρ)) (hρ : rok ρ) (h1000 : ∀ kc k, rto ρ kc = some k → 1000 ≤ kc) (hφ : ∀ kc k, rof φ k = some kc → k < 1000)
    (hys : xs.mapM (opnd (s.clean [] (φ.map (·.2))).T) = some ys) (hp : passL ρ ys as) (hX : passX ρ (s.clean [] (φ.map (·.2))).C (s.clean [] (φ.map (·.2))).X Xc) :
    Calls P f (xs.map a.eval).toArray w fun e w' => ∃ v, e = .returned v ∧ (∀ d r, resA (φ ++ ρ) rs = some r → Holds B M0 w0 (((s.clean [] (φ.map (·.2))).back (φ ++ ρ) Y).set d r) (a.put (some d) v) w') ∧ Holds B M0 w0 ((s.clean [] (φ.map (·.2))).back (φ ++ ρ) Y) a w' := by
  refine conO_callV hh hcon hσ hρ h1000 hφ (fun p hr => ?_) hp hX
  have hyl : ∀ {xs : List Operand} {ys : List A}, xs.mapM (opnd (s.clean [] (φ.map (·.2))).T) = some ys → xs.length = ys.length ∧ ∀ (i : Nat) y v, ys[i]? = some y → (xs.map a.eval)[i]? = some v → VA w (p.M M0) p (s.clean [] (φ.map (·.2))).C (.t 0) y v := by
    intro xs
    induction xs with
    | nil => intro ys h; simp at h; subst h; exact ⟨rfl, fun i y v h => by simp at h⟩
    | cons x xs ih =>
      intro ys h
      simp only [List.mapM_cons, Option.bind_eq_bind, Option.bind_eq_some_iff, Option.pure_def, Option.some.injEq] at h
      obtain ⟨y, hy, ys', hys', rfl⟩ := h
      obtain ⟨h1, h2⟩ := ih hys'
      refine ⟨by simp [h1], fun i z v hz hv => ?_⟩
      cases i with
      | zero => simp at hz hv; subst hz; subst hv; exact opnd_va hr hy
      | succ i => simp at hz hv; exact h2 i z v hz (by simpa using hv)
  obtain ⟨h1, h2⟩ := hyl hys
  exact ⟨by simp [h1], h2⟩

def rge : Ren → Prop
  | [] => True
  | (a, _) :: ρ => 1000 ≤ a ∧ rge ρ
def rlt : Ren → Prop
  | [] => True
  | (_, b) :: φ => b < 1000 ∧ rlt φ
theorem rge_get : ∀ {ρ : Ren}, rge ρ → ∀ kc k, rto ρ kc = some k → 1000 ≤ kc
  | [], _, kc, k, h => by simp [rto] at h
  | (a, b) :: ρ, ⟨h1, h2⟩, kc, k, h => by
    simp only [rto] at h
    split at h
    · rename_i e; subst e; exact h1
    · exact rge_get h2 kc k h
theorem rlt_get : ∀ {φ : Ren}, rlt φ → ∀ kc k, rof φ k = some kc → k < 1000
  | [], _, kc, k, h => by simp [rof] at h
  | (a, b) :: φ, ⟨h1, h2⟩, kc, k, h => by
    simp only [rof] at h
    split at h
    · rename_i e; subst e; exact h1
    · exact rlt_get h2 kc k h

def putR (s : S) (σ : Ren) (Y : List (Nat × List A)) (rs : List A) (K : S → Prop) : Option Tmp → Prop
  | some d => match resA σ rs with | some r => K ((s.back σ Y).set d r) | none => False
  | none => K (s.back σ Y)
/-- A call that is handed variables or rows. -/
structure CallO (P : Program) (s : S) (f : FuncId) (args : List Operand) (dst : Option Tmp) (K : S → Prop) : Prop where
  ex : ∃ (φ ρ : Ren) (as : List A) (Xc : List (Nat × List A)) (rs : List A) (Y : List (Nat × List A)) (ys : List A), ConO P f as Xc rs Y ∧ (rok (φ ++ ρ) ∧ rok ρ ∧ rge ρ ∧ rlt φ) ∧ args.mapM (opnd (s.clean [] (φ.map (·.2))).T) = some ys ∧
    passL ρ ys as ∧ passX ρ (s.clean [] (φ.map (·.2))).C (s.clean [] (φ.map (·.2))).X Xc ∧ putR (s.clean [] (φ.map (·.2))) (φ ++ ρ) Y rs K dst

end Go.Proofs.Ytidnkaopndmigaa.V
end
section
set_option linter.unusedSimpArgs false
set_option linter.unusedVariables false
/- Code over values without memory: one operation after the other, loops, calls, contracts. -/
namespace Go.Proofs.Ytidnkaopndmigaa.V
open Go.RowKit

variable {P : Program} {B : Nat → Nat → Prop} {M0 : Fr} {p : Pm} {C : List Loc} {T : List A} {X : List (Nat × List A)} {w : World}

def argsD (T : List A) : List Operand → Option (List D)
  | [] => some []
  | x :: xs => match dnd T x, argsD T xs with
    | some d, some l => some (d :: l)
    | _, _ => none

theorem Enters.of {f : FuncId} {fn : Func} (hf : P.funcs[f]? = some fn) (hn : (fn.name == "runtime.NumGoroutine") = false) (hb : fn.body.isNone = false) : Enters P f := by
  intro args w
  unfold callFunc
  simp only [Sem.run_bind, run_program, Result.andThen_ok, hf, hn, hb, Bool.false_eq_true, if_false, Sem.run_pure]

/-- Called with values that read as args, f returns what reads as r, and nothing that was there has changed. -/
structure Con (P : Program) (f : FuncId) (args : List D) (r : D) : Prop where
  enters : Enters P f
  spec : Spec P f args r

def putO (s : S) (d : Option Tmp) (r : D) : S := match d with | some d => s.put d (.ofD r) | none => s

/-- append goes to a row of the call's own, or makes one. -/
def rowWay (s : S) (d : Nat) (x : Operand) : Bool := match opnd s.T x with | some (.row _ _ _ _ _) => true | some .nil => (match s.T[d]? with | some .want => true | _ => false) | _ => false

theorem run_slnil {t e : TypeId} {a : Option Addr} {n c : Nat} (ht : P.underlying t = some (.slice e)) :
    (binOp .eql t (.slice a n c) (.slice none 0 0)).run P w = .ok (.bool a.isNone) w := by
  have h : ∀ d : Nat, (Op.equalIn (d + 1) t (.slice a n c) (.slice none 0 0)).run P w = .ok a.isNone w := fun d => by
    cases a <;> simp [Op.equalIn, run_underlying ht]
  simp only [binOp]
  simp [Op.equal, Op.maxDepth, h 9999]

def stepx (P : Program) (o : Oper) (s : S) (K : S → Prop) : Prop :=
  match o.op, o.dst with
  | .assign x, some d => match asg s d x with | some s' => K s' | none => False
  | .store t ad x, none => match sto P s t ad x with | some s' => K s' | none => False
  | .call { callee := .value (.func f), args, .. }, d => (match argsD s.T args.toList with | some ds => ∃ r, Con P f ds r ∧ K (putO s d r) | none => False) ∨ CallO P s f args.toList d K
  | .call { callee := .builtin .append, args, argTypes }, some d => match args.toList, argTypes.toList with
    | [x, y], [t, t'] => if rowWay s d x = true then (match appR P s d x y t t' with | some (c, s') => c ∧ K s' | none => False) else
      (match aval P (pre o.op d s).T (pre o.op d s).X (pre o.op d s).C d o.op with | some (c, x, e) => c ∧ K ((pre o.op d s).put d x e) | none => False)
    | _, _ => False
  | .binOp .eql t x (.const (.slice none 0 0)) _, some d => if (elemOf P t).isSome = true then (match dnd s.T x with | some (.sl xs) => ∀ b : Bool, (b = true → xs = []) → K (s.set d (.d (.bool b))) | _ => False) else False
  | op, some d => match aval P (pre op d s).T (pre op d s).X (pre op d s).C d op with | some (c, x, e) => c ∧ K ((pre op d s).put d x e) | none => False
  | _, none => False

def seqx (P : Program) (ops : Array Oper) : List Oper → S → (S → Prop) → Prop
  | [], s, K => K s
  | o :: rest, s, K => match o.guard with
    | none => stepx P o s fun s' => seqx P ops rest s' K
    | some (j, want) => match ((ops[j]?).bind (·.dst)).bind (s.T[·]?) with
      | some (.d (.bool b)) => if b = want then stepx P o s (fun s' => seqx P ops rest s' K) else match o.dst with | some d => seqx P ops rest (s.set d .unk) K | none => seqx P ops rest s K
      | _ => False

theorem Rel.below {tv : Array Value} {w' : World} (hr : Rel B M0 p C T X tv w) (h : Below w.heap.size w w') : Rel B M0 p C T X tv w' := by
  have hk : Keep w (p.M M0) w' (p.M M0) := fun a u hc hn => ⟨by rw [h.cell (block_lt_of_cell hc)]; exact hc, hn⟩
  have g : Grows w (p.M M0) p C w' (p.M M0) p C := ⟨hk, fun _ _ h => h, fun _ _ _ h => h, fun _ h => h, fun _ b c _ _ hh => ⟨c, by rw [h.block b (heap_lt hh)]; exact hh, rfl⟩⟩
  refine ⟨⟨fun b i hm => ⟨(hr.ok.m0 b i hm).1, Nat.lt_of_lt_of_le (hr.ok.m0 b i hm).2 h.size⟩, fun k hk => hr.ok.size k (Nat.le_trans h.size hk), fun k b e => ?_, fun l hd e => ?_, hr.ok.bxi, hr.ok.gri, hr.ok.dis, fun k b t n hf => ?_⟩, hr.len, fun t a ht => VA.mono g (hr.tm t a ht), fun k ls hl => ?_⟩
  · obtain ⟨q1, c, t, q2⟩ := hr.ok.bx _ _ e
    exact ⟨q1, c, t, by rw [h.block b (heap_lt q2)]; exact q2⟩
  · obtain ⟨q1, q2, q3, c, q4, q5⟩ := hr.ok.gr _ _ e
    exact ⟨q1, q2, q3, c, by rw [h.block _ (heap_lt q4)]; exact q4, q5⟩
  · obtain ⟨f1, f2, cf, f3, f4⟩ := hr.ok.fx _ _ _ _ hf
    exact ⟨f1, f2, cf, by rw [h.block _ (heap_lt f3)]; exact f3, f4⟩
  · rcases hr.bx k ls hl with rfl | ⟨b, c, e, q1, q2, q3, q4⟩
    · exact .inl rfl
    exact .inr ⟨b, c, e, q1, by rw [h.block b (heap_lt q2)]; exact q2, q3, fun j a ha => VA.mono g (q4 j a ha)⟩

theorem argsD_sound {act : Act} (hr : Rel B M0 p C T X act.tmps w) : ∀ {xs : List Operand} {ds : List D}, argsD T xs = some ds → Args w (p.M M0) ds (xs.map act.eval)
  | [], ds, h => by simp only [argsD, Option.some.injEq] at h; subst h; exact ⟨rfl, fun j d v hd => by simp at hd⟩
  | x :: xs, ds, h => by
    simp only [argsD] at h
    split at h
    · rename_i d l h1 h2
      injection h with h; subst h
      obtain ⟨q1, q2⟩ := argsD_sound hr h2
      refine ⟨by simp [q1], fun j d' v hd hv => ?_⟩
      cases j with
      | zero => simp at hd hv; subst hd; subst hv; exact dnd_vd hr h1
      | succ j => simp at hd hv; exact q2 j d' v hd (by simpa using hv)
    · cases h

theorem pre_ok {w0 : World} {s : S} {a : Act} (op : Op) (d : Nat) (h : Holds B M0 w0 s a w) : ∃ p, Rel B M0 p (pre op d s).C (pre op d s).T (pre op d s).X a.tmps w ∧ a.defers = [] ∧ Away B w0 w ∧ (needBox op = true → free p d) ∧ (needRow op = true → p.gr (.t d) = none) := by
  obtain ⟨p, hr, hd, hb⟩ := h
  unfold pre
  split
  · rename_i h1
    refine ⟨_, hr.clean [] [d], hd, hb, fun _ hlt => by simp [Pm.clean, hlt], fun h2 => ?_⟩
    cases op <;> simp [needBox, needRow] at h1 h2
  · rename_i h1
    split
    · exact ⟨_, hr.clean [.t d] [], hd, hb, fun h2 => absurd h2 h1, fun _ => by simp [Pm.clean, gone]⟩
    · rename_i h2
      exact ⟨p, hr, hd, hb, fun h => absurd h h1, fun h => absurd h h2⟩

theorem stepx_sound {w0 : World} {s : S} {a : Act} {o : Oper} {K : S → Prop} (h : stepx P o s K) (hh : Holds B M0 w0 s a w) {next : Act → World → Prop} {Q : Exit → Act → World → Prop}
    (hn : ∀ s' a' w', K s' → Holds B M0 w0 s' a' w' → next a' w') : o.wp P a w next Q := by
  have value : ∀ d, o.dst = some d → (match aval P (pre o.op d s).T (pre o.op d s).X (pre o.op d s).C d o.op with | some (c, x, e) => c ∧ K ((pre o.op d s).put d x e) | none => False) → o.wp P a w next Q := by
    intro d hd h
    split at h
    · rename_i c x e ha
      obtain ⟨hc, hk⟩ := h
      obtain ⟨p, hr, hdf, hb, h1, h2⟩ := pre_ok o.op d hh
      obtain ⟨v, w', p', h3, h4⟩ := aval_sound hr h1 h2 ha hc
      unfold Oper.wp
      rw [h3, Oper.upon_value, hd]
      exact hn _ _ _ hk ⟨p', hr.put h4, hdf, hb.trans h4.below⟩
    · exact h.elim
  unfold stepx at h
  split at h
  · rename_i x d ho hd
    split at h
    · rename_i s' hs
      unfold Oper.wp
      simp only [execOp, ho, Sem.run_pure, Oper.upon_value, hd]
      exact hn _ _ _ h (asg_sound hh hs)
    · exact h.elim
  · rename_i t ad x ho hd
    split at h
    · rename_i s' hs
      obtain ⟨w', h1, h2⟩ := sto_sound hh hs
      unfold Oper.wp
      simp only [execOp, ho, Sem.run_bind, h1, Result.andThen_ok, Sem.run_pure, Oper.upon_skip, hd]
      exact hn _ _ _ h h2
    · exact h.elim
  · rename_i f args ats ho
    rcases h with h | ⟨φ, ρ, as, Xc, rs, Y, ys, hcon, ⟨c1, c2, c3, c4⟩, hys, hp, hX, hk⟩
    rotate_left
    · unfold Oper.wp
      have hrun : (execOp a.eval o).run P w = .ok (.enter f (args.map a.eval)) w := by
        simp only [execOp, ho, Sem.run_bind, resolve]
        show ((Deferred.ofValue (a.eval (.func f)) (args.map a.eval)).run P w).andThen _ = _
        show (Result.ok _ _).andThen _ = _
        simp only [Result.andThen_ok, invoke]
        rw [hcon.enters]
        simp
      rw [hrun, Oper.upon_enter]
      have hc := conO_call hh hcon c1 c2 (rge_get c3) (rlt_get c4) hys hp hX
      rw [show (args.toList.map a.eval).toArray = args.map a.eval from by rw [← Array.toList_map]] at hc
      refine hc.mono fun e w' hh' => ?_
      obtain ⟨v, rfl, h1, h2⟩ := hh'
      cases hd : o.dst with
      | none =>
        rw [hd] at hk
        exact hn _ _ _ hk h2
      | some d =>
        rw [hd] at hk
        simp only [putR] at hk
        split at hk
        · rename_i r hres; exact hn _ _ _ hk (h1 d r hres)
        · exact hk.elim
    split at h
    · rename_i ds hds
      obtain ⟨r, hcon, hk⟩ := h
      obtain ⟨p, hr, hdf, hb⟩ := hh
      unfold Oper.wp
      have hrun : (execOp a.eval o).run P w = .ok (.enter f (args.map a.eval)) w := by
        simp only [execOp, ho, Sem.run_bind, resolve]
        show ((Deferred.ofValue (a.eval (.func f)) (args.map a.eval)).run P w).andThen _ = _
        show (Result.ok _ _).andThen _ = _
        simp only [Result.andThen_ok, invoke]
        rw [hcon.enters]
        simp
      rw [hrun, Oper.upon_enter]
      have hM : ∀ b i, p.M M0 b i → b < w.heap.size := by
        intro b i hm
        rcases hm with hm | ⟨k, hm⟩ | ⟨l, hd, h1, h2, _⟩
        · exact (hr.ok.m0 _ _ hm).2
        · obtain ⟨_, _, _, q⟩ := hr.ok.bx _ _ hm; exact heap_lt q
        · obtain ⟨_, _, _, _, q, _⟩ := hr.ok.gr _ _ h1; rw [← h2]; exact heap_lt q
      have hc := hcon.spec (p.M M0) w (args.toList.map a.eval) hM (argsD_sound hr hds)
      rw [show (args.toList.map a.eval).toArray = args.map a.eval from by rw [← Array.toList_map]] at hc
      refine hc.mono fun e w' hh' => ?_
      obtain ⟨v, rfl, hv, hbel⟩ := hh'
      have hr' := hr.below hbel
      refine hn _ _ _ hk ?_
      unfold putO
      cases hd : o.dst with
      | none => exact ⟨p, hr', hdf, hb.trans (Away.of_below hbel)⟩
      | some d => exact ⟨p, hr'.set (VA.ofD hv), hdf, hb.trans (Away.of_below hbel)⟩
    · exact h.elim
  · rename_i args ats d ho hd
    split at h
    · rename_i x y t t' hx ht
      split at h
      · split at h
        · rename_i c s' happ
          obtain ⟨hc, hk⟩ := h
          obtain ⟨args⟩ := args
          obtain ⟨ats⟩ := ats
          simp only at hx ht
          subst hx; subst ht
          obtain ⟨v, w', h1, h2⟩ := appR_sound (ty := o.type) hh happ hc
          obtain ⟨g1, g2⟩ := call_builtin (P := P) (ρ := a.eval) (b := .append) ho rfl
          unfold Oper.wp
          have hrun : (execOp a.eval o).run P w = .ok (.value v) w' := by
            rw [g1, g2 w]
            simp only [builtin]
            exact run_v (by simpa using h1)
          rw [hrun, Oper.upon_value, hd]
          exact hn _ _ _ hk h2
        · exact h.elim
      · exact value _ hd h
    · exact h.elim
  · rename_i t x t' d ho hd
    split at h
    · rename_i hel
      obtain ⟨el, hel⟩ := Option.isSome_iff_exists.1 hel
      split at h
      · rename_i xs hx
        obtain ⟨p, hr, hdf, hb⟩ := hh
        have hv := dnd_vd hr hx
        have key : ∀ (b : Bool), (b = true → xs = []) → (do eqGuard .eql t x (.const (.slice none 0 0)) (a.eval x) (.slice none 0 0); binOp .eql t (a.eval x) (.slice none 0 0) : Sem Value).run P w = .ok (.bool b) w → o.wp P a w next Q := by
          intro b hb' hrun
          unfold Oper.wp
          have hrun' : (execOp a.eval o).run P w = .ok (.value (.bool b)) w := by
            simp only [execOp, ho]
            exact run_v hrun
          rw [hrun', Oper.upon_value, hd]
          exact hn _ _ _ (h b hb') ⟨p, hr.set (.bool b), hdf, hb⟩
        rcases VD.sl_inv hv with ⟨rfl, c, he⟩ | ⟨ad, cap, sz, u, he, _⟩
        · refine key true (fun _ => rfl) ?_
          rw [he]
          simp only [eqGuard]
          simpa using run_slnil (w := w) (n := 0) (c := c) (a := none) (elemOf_und hel)
        · refine key false (fun h => by cases h) ?_
          rw [he]
          simp only [eqGuard]
          simpa using run_slnil (w := w) (n := xs.length) (c := cap) (a := some ad) (elemOf_und hel)
      · exact h.elim
    · exact h.elim
  · exact value _ (by assumption) h
  · exact h.elim

theorem seqx_sound {w0 : World} {ops : Array Oper} {K : S → Prop} {Q : Exit → Act → World → Prop} (hQ : ∀ s a w, K s → Holds B M0 w0 s a w → Q .normal a w) : ∀ (l : List Oper) (s : S) (a : Act) (w : World), seqx P ops l s K → Holds B M0 w0 s a w → wpList P ops Q l a w
  | [], s, a, w, h, hh => hQ s a w h hh
  | o :: rest, s, a, w, h, hh => by
    simp only [seqx] at h
    have step : stepx P o s (fun s' => seqx P ops rest s' K) → Region.wanted o (yielded ops a.tmps) = true → wpList P ops Q (o :: rest) a w := by
      intro h hw
      unfold wpList
      rw [if_pos hw]
      exact .inl (stepx_sound h hh fun s' a' w' h1 h2 => seqx_sound hQ rest s' a' w' h1 h2)
    split at h
    · rename_i hg
      exact step h (by simp [Region.wanted, hg])
    · rename_i j want hg
      split at h
      · rename_i b hb
        obtain ⟨p, hr, hdf, hbel⟩ := hh
        simp only [Option.bind_eq_some_iff] at hb
        obtain ⟨d, ⟨oj, h1, h2⟩, h3⟩ := hb
        have hv : a.tmps.getD d undef = .bool b := (hr.tm d _ h3).bool_inv
        have hlt : d < a.tmps.size := by rw [← hr.len]; exact (List.getElem?_eq_some_iff.1 h3).1
        have hy : yielded ops a.tmps j = some b := by
          unfold yielded
          simp only [h1, Option.bind_some, h2]
          rw [Array.getD_eq_getD_getElem?] at hv
          rw [Array.getElem?_eq_getElem hlt] at hv ⊢
          simp only [Option.getD_some] at hv
          rw [hv]
        have hw : Region.wanted o (yielded ops a.tmps) = (b == want) := by simp [Region.wanted, hg, hy]
        split at h
        · rename_i hbw; exact step h (by rw [hw, hbw]; simp)
        · rename_i hbw
          unfold wpList
          rw [if_neg (by rw [hw]; simpa using hbw)]
          split at h
          · rename_i d' hd'
            rw [hd']
            exact seqx_sound hQ rest _ _ _ h ⟨p, hr.set trivial, hdf, hbel⟩
          · rename_i hd'
            rw [hd']
            exact seqx_sound hQ rest _ _ _ h ⟨p, hr, hdf, hbel⟩
      · exact h.elim

/-! Code. -/
def AW (P : Program) (c : Code) (Q : Exit → S → Prop) (s : S) : Prop :=
  ∀ (B : Nat → Nat → Prop) (M0 : Fr) (w0 : World) (a : Act) (w : World), Holds B M0 w0 s a w → c.wp P (fun e a' w' => ∃ s', Q e s' ∧ Holds B M0 w0 s' a' w') a w

def seqQ (K : S → Prop) (Q : Exit → S → Prop) : Exit → S → Prop
  | .normal, s => K s
  | e, s => Q e s
def blockQ (id : Nat) (Q : Exit → S → Prop) : Exit → S → Prop
  | .exit id', s => if id' = id then Q .normal s else Q (.exit id') s
  | e, s => Q e s

theorem AW.mono {c : Code} {Q Q' : Exit → S → Prop} {s : S} (h : AW P c Q s) (hq : ∀ e s, Q e s → Q' e s) : AW P c Q' s :=
  fun B M0 w0 a w hh => wp_mono (h B M0 w0 a w hh) fun _ _ _ ⟨s', h1, h2⟩ => ⟨s', hq _ _ h1, h2⟩
theorem AW.skip {Q : Exit → S → Prop} {s : S} (h : Q .normal s) : AW P .skip Q s := fun _ _ _ _ _ hh => wp_skip ⟨s, h, hh⟩
theorem AW.ret {Q : Exit → S → Prop} {s : S} (h : Q .ret s) : AW P .ret Q s := fun _ _ _ _ _ hh => wp_ret ⟨s, h, hh⟩
theorem AW.exit {id : Nat} {Q : Exit → S → Prop} {s : S} (h : Q (.exit id) s) : AW P (.exit id) Q s := fun _ _ _ _ _ hh => wp_exit ⟨s, h, hh⟩
theorem AW.seq {x y : Code} {Q : Exit → S → Prop} {s : S} (h : AW P x (seqQ (AW P y Q) Q) s) : AW P (.seq x y) Q s :=
  fun B M0 w0 a w hh => wp_seq (wp_mono (h B M0 w0 a w hh) fun e a' w' ⟨s', h1, h2⟩ => by
    cases e with
    | normal => exact h1 B M0 w0 a' w' h2
    | _ => exact ⟨s', h1, h2⟩)
theorem AW.cond {c : Operand} {x y : Code} {Q : Exit → S → Prop} {s : S} {b : Bool} (hc : dlf s.T c = some (.bool b)) (h : if b = true then AW P x Q s else AW P y Q s) : AW P (.cond c x y) Q s :=
  fun B M0 w0 a w hh => by
    obtain ⟨p, hr, hd, hb⟩ := hh
    refine wp_cond (t := b) (dlf_vd hr hc).bool_inv ?_
    cases b
    · exact h B M0 w0 a w ⟨p, hr, hd, hb⟩
    · exact h B M0 w0 a w ⟨p, hr, hd, hb⟩
theorem AW.block {id : Nat} {c : Code} {Q : Exit → S → Prop} {s : S} (h : AW P c (blockQ id Q) s) : AW P (.block id c) Q s :=
  fun B M0 w0 a w hh => wp_block (wp_mono (h B M0 w0 a w hh) fun e a' w' ⟨s', h1, h2⟩ => by
    cases e with
    | exit id' =>
      simp only [blockQ] at h1
      simp only [Exit.inBlock]
      split
      · rename_i e; rw [if_pos e] at h1; exact ⟨s', h1, h2⟩
      · rename_i e; rw [if_neg e] at h1; exact ⟨s', h1, h2⟩
    | _ => exact ⟨s', h1, h2⟩)
theorem AW.region {id : Nat} {ops : Array Oper} {Q : Exit → S → Prop} {s : S} (h : seqx P ops ops.toList s (Q .normal)) : AW P (.region id ops false) Q s :=
  fun _ _ _ a w hh => wp_region_list (seqx_sound (fun s a w h1 h2 => ⟨s, h1, h2⟩) _ s a w h hh)

/-- A loop, round by round. -/
def Lp (P : Program) (c : Code) (Q : Exit → S → Prop) : Nat → S → Prop
  | 0, _ => False
  | n + 1, s => AW P c (seqQ (Lp P c Q n) Q) s

theorem least_ex {p : Nat → Prop} : ∀ n, p n → ∃ m, p m ∧ (∀ k, p k → m ≤ k) := by
  intro n
  induction n using Nat.strongRecOn with
  | _ n ih =>
    intro hn
    by_cases h : ∃ k, k < n ∧ p k
    · obtain ⟨k, hk, hp⟩ := h; exact ih k hk hp
    · exact ⟨n, hn, fun k hk => Nat.le_of_not_lt fun hlt => h ⟨k, hlt, hk⟩⟩

open Classical in
noncomputable def least (p : Nat → Prop) : Nat := if h : ∃ m, p m ∧ (∀ k, p k → m ≤ k) then h.choose else 0
theorem least_spec {p : Nat → Prop} (h : ∃ n, p n) : p (least p) ∧ ∀ k, p k → least p ≤ k := by
  obtain ⟨n, hn⟩ := h
  have h := least_ex n hn
  unfold least
  rw [dif_pos h]
  exact h.choose_spec

theorem AW.loop {c : Code} {Q : Exit → S → Prop} {s : S} (n : Nat) (h : Lp P c Q n s) : AW P (.loop c) Q s := by
  intro B M0 w0 a w hh
  refine wp_loop (fun a w => ∃ n s, Lp P c Q n s ∧ Holds B M0 w0 s a w) (fun a w => least fun n => ∃ s, Lp P c Q n s ∧ Holds B M0 w0 s a w) ⟨n, s, h, hh⟩ fun a w hI => ?_
  obtain ⟨⟨s1, h1, h2⟩, hmin⟩ := least_spec (p := fun n => ∃ s, Lp P c Q n s ∧ Holds B M0 w0 s a w) hI
  generalize hm : (least fun n => ∃ s, Lp P c Q n s ∧ Holds B M0 w0 s a w) = m at h1 hmin
  cases m with
  | zero => exact h1.elim
  | succ m =>
    refine wp_mono (h1 B M0 w0 a w h2) fun e a' w' ⟨s', h3, h4⟩ => ?_
    cases e with
    | normal =>
      have := (least_spec (p := fun n => ∃ s, Lp P c Q n s ∧ Holds B M0 w0 s a' w') ⟨m, s', h3, h4⟩).2 m ⟨s', h3, h4⟩
      exact ⟨⟨m, s', h3, h4⟩, by show _ < _; omega⟩
    | _ => exact ⟨s', h3, h4⟩

/-! A function's contract out of its text. -/
def start (args : List D) (n : Nat) : S := { T := args.map .d ++ List.replicate (n - args.length) .unk }

def res1 (P : Program) (s : S) : ResultVar → Option D
  | .tmp t => ((s.T[t]?).bind toD).map D.n1
  | .cell t ty => match s.T[t]? with
    | some (.box k off) => match loadA P s.X ty (.box k off) with
      | some (_, a, _) => (toD a).map D.n1
      | none => none
    | _ => none
def resL (P : Program) (s : S) : List ResultVar → Option (List D)
  | [] => some []
  | x :: xs => match res1 P s x, resL P s xs with
    | some d, some l => some (d :: l)
    | _, _ => none
def resD (P : Program) (s : S) (rs : Array ResultVar) : Option D :=
  (resL P s rs.toList).map fun l => match l with | [d] => d | l => .tup l

def Post (P : Program) (rs : Array ResultVar) (r : D) (e : Exit) (s : S) : Prop := (e = .normal ∨ e = .ret) ∧ resD P s rs = some r

theorem res1_sound {act : Act} {s : S} (hr : Rel B M0 p s.C s.T s.X act.tmps w) {x : ResultVar} {d : D} (h : res1 P s x = some d) :
    ∃ v, (match x with | .tmp t => Pure.pure (act.tmps.getD t undef) | .cell a t => do loadVar t (← asAddr (act.tmps.getD a undef)) : Sem Value).run P w = .ok v w ∧ VD w (p.M M0) d v := by
  cases x with
  | tmp t =>
    simp only [res1, Option.map_eq_some_iff, Option.bind_eq_some_iff] at h
    obtain ⟨d', ⟨a, h1, h2⟩, rfl⟩ := h
    exact ⟨_, rfl, (toD_vd h2 (hr.tm t a h1)).n1⟩
  | cell t ty =>
    simp only [res1] at h
    split at h
    · rename_i k off ht
      split at h
      · rename_i c a e hl
        simp only [Option.map_eq_some_iff] at h
        obtain ⟨d', h1, rfl⟩ := h
        have hlo : aval P s.T s.X s.C 0 (.load ty (.tmp t)) = some (c, a, e) := by
          simp only [aval, opnd, ht, Option.map_some, lend, Option.bind_some]; exact hl
        have hc : c := by
          simp only [loadA] at hl
          · split at hl
            · split at hl
              · simp only [Option.bind_eq_some_iff] at hl
                obtain ⟨ds, _, hl⟩ := hl
                split at hl
                · simp only [val, yes, Option.some.injEq, Prod.mk.injEq] at hl; obtain ⟨rfl, _⟩ := hl; trivial
                · cases hl
              · cases hl
            · simp only [yes, Option.bind_eq_some_iff, Option.some.injEq, Prod.mk.injEq] at hl; obtain ⟨_, _, rfl, _⟩ := hl; trivial
            · cases hl
        obtain ⟨v, h2, h3, _⟩ := sound_load (dst := 0) hr hlo hc
        refine ⟨v, ?_, (toD_vd h1 h3).n1⟩
        have hv := hr.tm t _ ht
        obtain ⟨b, hb, hv⟩ := hv
        have he : act.eval (.tmp t) = act.tmps.getD t undef := rfl
        rw [he, hv] at h2
        simp only [hv, Sem.run_bind]
        simp only [Instr.loadAt, Instr.sureAddr, Sem.run_bind, Sem.run_pure, Result.andThen_ok] at h2
        simpa [asAddr] using h2
      · cases h
    · cases h

theorem resL_sound {act : Act} {s : S} (hr : Rel B M0 p s.C s.T s.X act.tmps w) : ∀ {xs : List ResultVar} {ds : List D}, resL P s xs = some ds →
    ∃ vs : List Value, (xs.mapM fun | .tmp t => Pure.pure (act.tmps.getD t undef) | .cell a t => do loadVar t (← asAddr (act.tmps.getD a undef)) : Sem (List Value)).run P w = .ok vs w ∧ Args w (p.M M0) ds vs
  | [], ds, h => by simp only [resL, Option.some.injEq] at h; subst h; exact ⟨[], rfl, rfl, fun j d v hd => by simp at hd⟩
  | x :: xs, ds, h => by
    simp only [resL] at h
    split at h
    · rename_i d l h1 h2
      injection h with h; subst h
      obtain ⟨v, q1, q2⟩ := res1_sound hr h1
      obtain ⟨vs, q3, q4, q5⟩ := resL_sound hr h2
      refine ⟨v :: vs, ?_, by simp [q4], fun j d' v' hd hv => ?_⟩
      · rw [List.mapM_cons, Sem.run_bind, q1]
        simp only [Result.andThen_ok, Sem.run_bind]
        rw [q3]; rfl
      · cases j with
        | zero => simp at hd hv; subst hd; subst hv; exact q2
        | succ j => simp at hd hv; exact q5 j d' v' hd hv
    · cases h

theorem resD_sound {act : Act} {s : S} {fn : Func} {r : D} (hr : Rel B M0 p s.C s.T s.X act.tmps w) (h : resD P s fn.results = some r) : ∃ v, (results fn act.tmps).run P w = .ok v w ∧ VD w (p.M M0) r v := by
  simp only [resD, Option.map_eq_some_iff] at h
  obtain ⟨l, h1, rfl⟩ := h
  obtain ⟨vs, h2, h3, h4⟩ := resL_sound hr h1
  have hrun : (results fn act.tmps).run P w = .ok (if h : vs.toArray.size = 1 then vs.toArray[0] else .tuple vs.toArray) w := by
    unfold results
    rw [← Array.toArray_toList (xs := fn.results), List.mapM_toArray, Sem.run_bind, Sem.run_map]
    erw [h2]
    rfl
  refine ⟨_, hrun, ?_⟩
  split
  · rename_i d
    have hv : vs.length = 1 := h3
    obtain ⟨v, rfl⟩ := List.length_eq_one_iff.1 hv
    exact h4 0 d v rfl rfl
  · rename_i hne
    have hlen : vs.length ≠ 1 := by
      rw [h3]; intro e
      obtain ⟨d, hd⟩ := List.length_eq_one_iff.1 e
      exact hne d hd
    rw [dif_neg (by simpa using hlen)]
    exact .tup _ _ h3 h4

theorem Con.of {f : FuncId} {fn : Func} {c : Code} {args : List D} {r : D} (hf : P.funcs[f]? = some fn) (hn : (fn.name == "runtime.NumGoroutine") = false) (hb : fn.body = some c)
    (h : AW P c (Post P fn.results r) (start args fn.ntmps)) : Con P f args r := by
  refine ⟨Enters.of hf hn (by rw [hb]; rfl), fun M w vs hM hargs => calls_of_wp hf hb ?_⟩
  have hkeep : ∀ b i, (Pm.mk (fun _ => none) (fun _ => none)).M ⟨M, fun _ => none⟩ b i → M b i := fun b i hm => by
    rcases hm with hm | ⟨k, hm⟩ | ⟨l, h, hm, _⟩
    · exact hm
    · cases hm
    · cases hm
  have h0 : Holds (fun k _ => w.heap.size ≤ k) ⟨M, fun _ => none⟩ w (start args fn.ntmps) { tmps := vs.toArray ++ Array.replicate (fn.ntmps - vs.toArray.size) undef, defers := [] } w := by
    refine ⟨⟨fun _ => none, fun _ => none⟩, ⟨⟨(fun b i h => ⟨by have := hM b i h; omega, hM b i h⟩), (fun k hk _ => hk), (fun _ _ h => by cases h), (fun _ _ h => by cases h), (fun _ _ _ h => by cases h), (fun _ _ _ _ h => by cases h), (fun _ _ _ _ h => by cases h), (fun _ _ _ _ h => by cases h)⟩, ?_, fun t x hx => ?_, fun k ls h => by simp [start, lk] at h⟩, rfl, Away.refl _ _⟩
    · simp [start, hargs.1]
    · simp only [start] at hx
      rw [List.getElem?_append] at hx
      simp only [List.length_map] at hx
      split at hx
      · rename_i hlt
        rw [List.getElem?_map, Option.map_eq_some_iff] at hx
        obtain ⟨d, hd, rfl⟩ := hx
        have hlt' : t < vs.length := by rw [hargs.1]; exact hlt
        have := hargs.2 t d _ hd (List.getElem?_eq_getElem hlt')
        show VD _ _ _ _
        rw [Array.getD_eq_getD_getElem?, Array.getElem?_append_left (by simpa using hlt')]
        simp only [List.getElem?_toArray, List.getElem?_eq_getElem hlt', Option.getD_some]
        exact this.mono fun a u hc hn => ⟨hc, fun hm => hn (hkeep _ _ hm)⟩
      · rw [List.getElem?_replicate] at hx
        split at hx
        · injection hx with hx; subst hx; trivial
        · cases hx
  refine wp_mono (h _ _ _ _ _ h0) fun e a' w' ⟨s', ⟨he, hres⟩, p, hr, hd, hbel⟩ => ?_
  obtain ⟨v, h1, h2⟩ := resD_sound hr hres
  have h3 : VD w' M r v := h2.mono fun a u hc hn => ⟨hc, fun hm => hn (.inl hm)⟩
  rcases he with rfl | rfl
  · exact ⟨hd, v, h1, v, rfl, h3, ⟨hbel.os, hbel.tape, hbel.output, hbel.size, fun k hk => hbel.block k hk (fun _ => by omega)⟩⟩
  · exact ⟨hd, v, h1, v, rfl, h3, ⟨hbel.os, hbel.tape, hbel.output, hbel.size, fun k hk => hbel.block k hk (fun _ => by omega)⟩⟩

end Go.Proofs.Ytidnkaopndmigaa.V
end
section
set_option linter.unusedSimpArgs false
set_option linter.unusedVariables false
/- A statement whose order is open: whatever the order, what is held behind it is the same. -/
namespace Go.Proofs.Ytidnkaopndmigaa.V
open Go.RowKit

variable {P : Program} {B : Nat → Nat → Prop} {M0 : Fr} {p : Pm} {C : List Loc} {T : List A} {X : List (Nat × List A)} {w : World}

/-! What an operation looks at. -/
def SameOn (T T' : List A) (xs : List Operand) : Prop := ∀ x ∈ xs, opnd T x = opnd T' x
theorem SameOn.one {T T' : List A} {xs : List Operand} (h : SameOn T T' xs) {x : Operand} (hx : x ∈ xs) : opnd T x = opnd T' x := h x hx
theorem SameOn.dlf {T T' : List A} {xs : List Operand} (h : SameOn T T' xs) {x : Operand} (hx : x ∈ xs) : dlf T x = dlf T' x := by unfold V.dlf; rw [h x hx]
theorem SameOn.dnd {T T' : List A} {xs : List Operand} (h : SameOn T T' xs) {x : Operand} (hx : x ∈ xs) : dnd T x = dnd T' x := by unfold V.dnd; rw [h.dlf hx]

theorem fillD_same {T T' : List A} {t : TypeId} : ∀ (ps : List (Nat × Operand)) (ls : List D), (∀ x ∈ ps, dlf T x.2 = dlf T' x.2) → fillD P t T ps ls = fillD P t T' ps ls
  | [], ls, h => rfl
  | (f, x) :: rest, ls, h => by
    have ih : ∀ ls, fillD P t T rest ls = fillD P t T' rest ls := fun ls => fillD_same rest ls fun y hy => h y (by simp [hy])
    have hx : dlf T x = dlf T' x := h (f, x) (by simp)
    simp only [fillD, hx, ih]

theorem partsD_same {T T' : List A} : ∀ (ps : List (Nat × Operand)) (i : Nat), (∀ x ∈ ps, dnd T x.2 = dnd T' x.2) → partsD T i ps = partsD T' i ps
  | [], i, h => rfl
  | (j, x) :: rest, i, h => by
    have hx : dnd T x = dnd T' x := h (j, x) (by simp)
    simp only [partsD]
    rw [hx, partsD_same rest (i + 1) fun y hy => h y (by simp [hy])]

theorem argsD_same {T T' : List A} : ∀ (xs : List Operand), (∀ x ∈ xs, dnd T x = dnd T' x) → argsD T xs = argsD T' xs
  | [], h => rfl
  | x :: xs, h => by
    simp only [argsD]
    rw [h x (by simp), argsD_same xs fun y hy => h y (by simp [hy])]

theorem baseA_same {C C' : List Loc} {e : TypeId} {sz : Nat} {a : A} {xs : List D} {use : List Loc} (h : baseA C e sz a = some (xs, use)) (hu : ∀ l ∈ use, l ∉ C') : baseA C' e sz a = some (xs, use) := by
  cases a with
  | nil => exact h
  | bor l e' sz' ys =>
    simp only [baseA] at h ⊢
    split at h
    · cases h
    · rename_i hc
      simp only [not_or] at hc
      simp only [Option.some.injEq, Prod.mk.injEq] at h
      obtain ⟨rfl, rfl⟩ := h
      rw [if_neg (by simp only [not_or]; exact ⟨hu l (by simp), hc.2⟩)]
  | _ => simp [baseA] at h

theorem bnd_same {T T' : List A} {d : Int} {x : Option Operand} (h : ∀ y, x = some y → opnd T y = opnd T' y) : bnd T d x = bnd T' d x := by
  cases x with
  | none => rfl
  | some x => simp only [bnd]; rw [h x rfl]

theorem map_dnd_same {T T' : List A} (xs : List Operand) (h : ∀ x ∈ xs, dnd T x = dnd T' x) : xs.map (dnd T) = xs.map (dnd T') := List.map_congr_left h

theorem rowOf_same {T T' : List A} {x : Operand} (h : opnd T x = opnd T' x) : rowOf T x = rowOf T' x := by unfold rowOf; rw [h]

theorem capsA_same {T T' : List A} : ∀ (xs : List Operand), (∀ x ∈ xs, opnd T x = opnd T' x) → capsA T xs = capsA T' xs
  | [], h => rfl
  | x :: xs, h => by
    simp only [capsA]
    rw [h x (by simp), capsA_same xs fun y hy => h y (by simp [hy])]

theorem aval_same {T T' : List A} {C C' : List Loc} {d : Nat} {o : Op} {c : Prop} {a : A} {e : Eff} (h : aval P T X C d o = some (c, a, e)) (hs : SameOn T T' o.operands.toList) (hu : ∀ l ∈ e.use, l ∉ C') : aval P T' X C' d o = some (c, a, e) := by
  cases o with
  | call cl =>
    obtain ⟨cal, args, ats⟩ := cl
    cases cal with
    | builtin b =>
      have hs' : ∀ x ∈ args.toList, opnd T x = opnd T' x := fun x hx => hs x (by simpa [Op.operands, Call.operands] using hx)
      have hd : ∀ x ∈ args.toList, V.dnd T x = V.dnd T' x := fun x hx => by unfold V.dnd V.dlf; rw [hs' x hx]
      cases b with
      | append =>
        simp only [aval] at h ⊢
        split at h
        · rename_i x y t t' hargs hats
          have hx := hs' x (by rw [hargs]; simp)
          have hy := hd y (by rw [hargs]; simp)
          split at h
          · split at h
            · split at h
              · rename_i xs use ys h1 h2
                split at h
                · rename_i hcond
                  simp only [Option.some.injEq, Prod.mk.injEq] at h
                  obtain ⟨rfl, rfl, rfl⟩ := h
                  simp only [Option.bind_eq_some_iff] at h1
                  obtain ⟨ax, q1, q2⟩ := h1
                  have q4 := baseA_same q2 hu
                  rw [← hx, q1, ← hy, h2]
                  simp only [Option.bind_some, q4]
                  rw [if_pos hcond]
                · cases h
              · cases h
            · cases h
          · cases h
        · cases h
      | len => simp only [aval] at h ⊢; rw [← map_dnd_same _ hd, ← List.map_congr_left (f := rowOf T) (g := rowOf T') fun x hx => rowOf_same (hs' x hx)]; exact h
      | max => simp only [aval] at h ⊢; rw [← map_dnd_same _ hd]; exact h
      | min => simp only [aval] at h ⊢; rw [← map_dnd_same _ hd]; exact h
      | _ => simp [aval] at h
    | value f => simp [aval] at h
    | invoke r m => simp [aval] at h
  | build t ps =>
    have hd : ∀ x ∈ ps.toList, V.dlf T x.2 = V.dlf T' x.2 := fun x hx => hs.dlf (by simp only [Op.operands]; exact List.mem_map.2 ⟨x, hx, rfl⟩)
    simp only [aval] at h ⊢
    rw [← h]
    split
    · split
      · congr 1; funext z; rw [fillD_same _ _ hd]
      · rfl
    · rfl
  | buildSlice t n ps =>
    have hd : ∀ x ∈ ps.toList, V.dnd T x.2 = V.dnd T' x.2 := fun x hx => hs.dnd (by simp only [Op.operands]; exact List.mem_map.2 ⟨x, hx, rfl⟩)
    simp only [aval] at h ⊢
    rw [← partsD_same _ _ hd]; exact h
  | slice t x lo hi mx =>
    cases mx with
    | some m => simp [aval] at h
    | none =>
      have hx := hs.dnd (x := x) (by simp [Op.operands])
      have hw := rowOf_same (hs x (by simp [Op.operands]))
      have hl : ∀ d, bnd T d lo = bnd T' d lo := fun d => bnd_same fun y hy => hs y (by subst hy; simp [Op.operands])
      have hh : ∀ d, bnd T d hi = bnd T' d hi := fun d => bnd_same fun y hy => hs y (by subst hy; simp [Op.operands])
      simp only [aval] at h ⊢
      rw [← hx, ← hw]
      simp only [← hl, ← hh]
      exact h
  | alloc t => exact h
  | move x => have hx := hs x (by simp [Op.operands]); simp only [aval] at h ⊢; rw [← hx]; exact h
  | pick c' x y =>
    have hc := hs.dnd (x := c') (by simp [Op.operands]); have hx := hs x (by simp [Op.operands]); have hy := hs y (by simp [Op.operands])
    simp only [aval] at h ⊢; rw [← hc, ← hx, ← hy]; exact h
  | makeSlice t x y => have hx := hs.dnd (x := x) (by simp [Op.operands]); have hi := hs.dnd (x := y) (by simp [Op.operands]); simp only [aval] at h ⊢; rw [← hx, ← hi]; exact h
  | box t x => have hx := hs.dlf (x := x) (by simp [Op.operands]); simp only [aval] at h ⊢; rw [← hx]; exact h
  | load t x => have hx := hs x (by simp [Op.operands]); simp only [aval] at h ⊢; rw [← hx]; exact h
  | nilCheck x => have hx := hs x (by simp [Op.operands]); simp only [aval] at h ⊢; rw [← hx]; exact h
  | fieldAddr s x f => have hx := hs x (by simp [Op.operands]); simp only [aval] at h ⊢; rw [← hx]; exact h
  | indexAddr t x i => have hx := hs.dnd (x := x) (by simp [Op.operands]); have hi := hs.dnd (x := i) (by simp [Op.operands]); have hw := rowOf_same (hs x (by simp [Op.operands])); simp only [aval] at h ⊢; rw [← hx, ← hi, ← hw]; exact h
  | index t x i => have hx := hs.dnd (x := x) (by simp [Op.operands]); have hi := hs.dnd (x := i) (by simp [Op.operands]); simp only [aval] at h ⊢; rw [← hx, ← hi]; exact h
  | binOp op t x y t' => have hx := hs.dnd (x := x) (by simp [Op.operands]); have hi := hs.dnd (x := y) (by simp [Op.operands]); simp only [aval] at h ⊢; rw [← hx, ← hi]; exact h
  | unOp op t x => have hx := hs.dnd (x := x) (by simp [Op.operands]); simp only [aval] at h ⊢; rw [← hx]; exact h
  | convert s t x => have hx := hs.dnd (x := x) (by simp [Op.operands]); simp only [aval] at h ⊢; rw [← hx]; exact h
  | makeFunc f first caps =>
    simp only [aval] at h ⊢
    rw [← capsA_same caps.toList fun x hx => hs x (by simp [Op.operands] at hx ⊢; exact .inr hx)]; exact h
  | extract x i => have hx := hs.dlf (x := x) (by simp [Op.operands]); simp only [aval] at h ⊢; rw [← hx]; exact h
  | field s x f => have hx := hs.dlf (x := x) (by simp [Op.operands]); simp only [aval] at h ⊢; rw [← hx]; exact h
  | _ => simp [aval] at h

end Go.Proofs.Ytidnkaopndmigaa.V
end
section
set_option linter.unusedSimpArgs false
set_option linter.unusedVariables false
/- A statement whose order is open: the runs. -/
namespace Go.Proofs.Ytidnkaopndmigaa.V
open Go.RowKit

variable {P : Program} {B : Nat → Nat → Prop} {M0 : Fr} {p : Pm} {C : List Loc} {T : List A} {X : List (Nat × List A)} {w : World}

/-! What must come before what. -/
def mask1 (acc : List Nat) : List Edge → Nat
  | [] => 0
  | e :: es => (if Region.binds .any e then 2 ^ e.on ||| acc.getD e.on 0 else 0) ||| mask1 acc es
def masks : List Nat → List Oper → List Nat
  | acc, [] => acc
  | acc, o :: os => masks (acc ++ [mask1 acc o.after.toList]) os

/-- Operations that read and make, ahead of those that assign and store, which come behind all that is ahead of them. -/
def tmpsOf (ops : Array Oper) (o : Oper) : List Tmp :=
  (o.op.operands.toList.filterMap fun | .tmp t => some t | _ => none) ++ (match o.guard with | some (g, _) => ((ops[g]?).bind (·.dst)).toList | none => [])
def early (ops : Array Oper) (ms : List Nat) (i : Nat) (o : Oper) (pre : List (Oper × Nat)) : Bool :=
  o.dst.isSome && pre.all (fun x => (x.2 == i || x.1.dst != o.dst) && (match x.1.dst with | some d => !(tmpsOf ops o).contains d || (decide (x.2 < i) && (ms.getD i 0).testBit x.2) | none => false))
def drawOk (ops : Array Oper) (n : Nat) : Bool :=
  let ms := masks [] ops.toList
  let pre := (ops.toList.take n).zipIdx
  ops.toList.zipIdx.all (fun x => x.1.after.toList.all (fun e => !Region.binds .any e || decide (e.on < x.2)) && (if x.2 < n then early ops ms x.2 x.1 pre else ms.getD x.2 0 == 2 ^ x.2 - 1)) && decide (n ≤ ops.size)

structure St where
  d : Nat
  y : A
  e : Eff

def newX (X : List (Nat × List A)) (d : Nat) (e : Eff) : List (Nat × List A) := match e.new with | some ls => (d, ls) :: X | none => X

def preX (P : Program) (ops : Array Oper) (X0 : List (Nat × List A)) : List Oper → List A → List (Nat × List A) → List Loc → (S → Prop) → Prop
  | [], T, X, C, K => K ⟨T, X, C⟩
  | o :: rest, T, X, C, K =>
    match o.dst with
    | none => False
    | some d =>
      let go := match o.op with
        | .call { callee := .value (.func f), args, .. } => match argsD T args.toList with | some ds => ∃ r, Con P f ds r ∧ preX P ops X0 rest (T.set d (.ofD r)) X C K | none => False
        | op => match aval P T X0 C d op with | some (c, y, e) => c ∧ preX P ops X0 rest (T.set d y) (newX X d e) (e.use ++ C) K | none => False
      match o.guard with
      | none => go
      | some (j, want) => match ((ops[j]?).bind (·.dst)).bind (T[·]?) with
        | some (.d (.bool b)) => if b = want then go else preX P ops X0 rest (T.set d .unk) X C K
        | _ => False

def setUnk (T : List A) : List Oper → List A
  | [] => T
  | o :: os => match o.dst with | some d => setUnk (T.set d .unk) os | none => setUnk T os
def rowsOf (os : List Oper) : List Loc := os.filterMap fun o => if needRow o.op then o.dst.map .t else none
def boxesOf (os : List Oper) : List Nat := os.filterMap fun o => if needBox o.op then o.dst else none

def drawX (P : Program) (ops : Array Oper) (n : Nat) (s : S) (K : S → Prop) : Prop :=
  preX P ops (clX (rowsOf (ops.toList.take n)) (boxesOf (ops.toList.take n)) s.X) (ops.toList.take n)
    (setUnk (clT (rowsOf (ops.toList.take n)) (boxesOf (ops.toList.take n)) 0 s.T) (ops.toList.take n))
    (clX (rowsOf (ops.toList.take n)) (boxesOf (ops.toList.take n)) s.X)
    (s.C.filter fun l => !gone (rowsOf (ops.toList.take n)) (boxesOf (ops.toList.take n)) l)
    fun s' => seqx P ops (ops.toList.drop n) s' K

/-! The text's run, step for step. -/
def setAll (T : List A) (tr : List St) : List A := tr.foldl (fun T st => T.set st.d st.y) T
def newAll (X : List (Nat × List A)) (tr : List St) : List (Nat × List A) := tr.foldl (fun X st => newX X st.d st.e) X
def useAll (C : List Loc) (tr : List St) : List Loc := tr.foldl (fun C st => st.e.use ++ C) C

def Val (P : Program) (X0 : List (Nat × List A)) (T : List A) (C : List Loc) (o : Oper) (st : St) : Prop :=
  (∃ f args ats ds r, o.op = .call ⟨.value (.func f), args, ats⟩ ∧ argsD T args.toList = some ds ∧ Con P f ds r ∧ st.y = .ofD r ∧ st.e = {}) ∨
  (∃ c, aval P T X0 C st.d o.op = some (c, st.y, st.e) ∧ c)
def StepOK (P : Program) (ops : Array Oper) (X0 : List (Nat × List A)) (T : List A) (C : List Loc) (o : Oper) (st : St) : Prop :=
  o.dst = some st.d ∧ match o.guard with
    | none => Val P X0 T C o st
    | some (j, want) => ∃ dj b, (ops[j]?).bind (·.dst) = some dj ∧ T[dj]? = some (.d (.bool b)) ∧ if b = want then Val P X0 T C o st else (st.y = .unk ∧ st.e = {})

theorem preX_trace {ops : Array Oper} {X0 : List (Nat × List A)} {K : S → Prop} : ∀ (os : List Oper) (T : List A) (X : List (Nat × List A)) (C : List Loc), preX P ops X0 os T X C K →
    ∃ tr : List St, tr.length = os.length ∧ (∀ i o st, os[i]? = some o → tr[i]? = some st → StepOK P ops X0 (setAll T (tr.take i)) (useAll C (tr.take i)) o st) ∧ K ⟨setAll T tr, newAll X tr, useAll C tr⟩
  | [], T, X, C, h => ⟨[], rfl, fun i o st h1 => by simp at h1, h⟩
  | o :: rest, T, X, C, h => by
    simp only [preX] at h
    split at h
    · exact h.elim
    · rename_i d hd
      have more : ∀ (y : A) (e : Eff), StepOK P ops X0 T C o ⟨d, y, e⟩ → preX P ops X0 rest (T.set d y) (newX X d e) (e.use ++ C) K →
          ∃ tr : List St, tr.length = (o :: rest).length ∧ (∀ i o' st, (o :: rest)[i]? = some o' → tr[i]? = some st → StepOK P ops X0 (setAll T (tr.take i)) (useAll C (tr.take i)) o' st) ∧ K ⟨setAll T tr, newAll X tr, useAll C tr⟩ := by
        intro y e hs hp
        obtain ⟨tr, h1, h2, h3⟩ := preX_trace rest _ _ _ hp
        refine ⟨⟨d, y, e⟩ :: tr, by simp [h1], fun i o' st ho hst => ?_, h3⟩
        cases i with
        | zero => simp at ho hst; subst ho; subst hst; exact hs
        | succ i => simp at ho hst; exact h2 i o' st ho hst
      have go : ∀ (hv : ∀ y e, Val P X0 T C o ⟨d, y, e⟩ → StepOK P ops X0 T C o ⟨d, y, e⟩),
          (match o.op with
            | .call { callee := .value (.func f), args, .. } => match argsD T args.toList with | some ds => ∃ r, Con P f ds r ∧ preX P ops X0 rest (T.set d (.ofD r)) X C K | none => False
            | op => match aval P T X0 C d op with | some (c, y, e) => c ∧ preX P ops X0 rest (T.set d y) (newX X d e) (e.use ++ C) K | none => False) →
          ∃ tr : List St, tr.length = (o :: rest).length ∧ (∀ i o' st, (o :: rest)[i]? = some o' → tr[i]? = some st → StepOK P ops X0 (setAll T (tr.take i)) (useAll C (tr.take i)) o' st) ∧ K ⟨setAll T tr, newAll X tr, useAll C tr⟩ := by
        intro hv h
        split at h
        · rename_i f args ats ho
          split at h
          · rename_i ds hds
            obtain ⟨r, hc, hp⟩ := h
            exact more (.ofD r) {} (hv _ _ (.inl ⟨f, args, ats, ds, r, ho, hds, hc, rfl, rfl⟩)) hp
          · exact h.elim
        · split at h
          · rename_i c y e ha
            exact more y e (hv _ _ (.inr ⟨c, ha, h.1⟩)) h.2
          · exact h.elim
      split at h
      · rename_i hg
        exact go (fun y e hv => ⟨hd, by rw [hg]; exact hv⟩) h
      · rename_i j want hg
        split at h
        · rename_i b hb
          simp only [Option.bind_eq_some_iff] at hb
          obtain ⟨dj, h1, h2⟩ := hb
          have h1 : (ops[j]?).bind (·.dst) = some dj := by simpa [Option.bind_eq_some_iff] using h1
          split at h
          · rename_i hbw
            exact go (fun y e hv => ⟨hd, by rw [hg]; exact ⟨dj, b, h1, h2, by rw [if_pos hbw]; exact hv⟩⟩) h
          · rename_i hbw
            exact more .unk {} ⟨hd, by rw [hg]; exact ⟨dj, b, h1, h2, by rw [if_neg hbw]; exact ⟨rfl, rfl⟩⟩⟩ h
        · exact h.elim

/-! What a frame holds when a set of the operations has run. -/
def SpecT (T0 : List A) (tr : List St) (L : Nat → Prop) (T : List A) : Prop :=
  T.length = T0.length ∧ (∀ i st, tr[i]? = some st → L i → st.d < T0.length → T[st.d]? = some st.y) ∧ ∀ t, (∀ i st, tr[i]? = some st → L i → st.d ≠ t) → T[t]? = T0[t]?
def SpecX (X0 : List (Nat × List A)) (tr : List St) (L : Nat → Prop) (X : List (Nat × List A)) : Prop :=
  (∀ i st ls, tr[i]? = some st → L i → st.e.new = some ls → lk X st.d = some ls) ∧ ∀ k, (∀ i st, tr[i]? = some st → L i → st.e.new.isSome → st.d ≠ k) → lk X k = lk X0 k
def SpecC (C0 : List Loc) (tr : List St) (L : Nat → Prop) (C : List Loc) : Prop :=
  ∀ l, l ∈ C ↔ l ∈ C0 ∨ ∃ i st, tr[i]? = some st ∧ L i ∧ l ∈ st.e.use
def Apart (tr : List St) : Prop := ∀ (i j : Nat) (a b : St), tr[i]? = some a → tr[j]? = some b → a.d = b.d → i = j

theorem SpecT.step {T0 : List A} {tr : List St} {L L' : Nat → Prop} {T : List A} {i : Nat} {st : St} (ha : Apart tr) (h : SpecT T0 tr L T) (hi : tr[i]? = some st) (hL : ∀ j, L' j ↔ L j ∨ j = i) : SpecT T0 tr L' (T.set st.d st.y) := by
  obtain ⟨h1, h2, h3⟩ := h
  refine ⟨by simp [h1], fun j sj hj hl hlt => ?_, fun t ht => ?_⟩
  · rw [List.getElem?_set]
    split
    · rename_i e
      have := ha _ _ _ _ hi hj e; subst this
      rw [hi] at hj; obtain rfl := Option.some.inj hj
      rw [if_pos (by rw [h1]; exact hlt)]
    · rename_i e
      rcases (hL j).1 hl with hl | rfl
      · exact h2 j sj hj hl hlt
      · rw [hi] at hj; obtain rfl := Option.some.inj hj; exact absurd rfl e
  · rw [List.getElem?_set, if_neg (ht i st hi ((hL i).2 (.inr rfl)))]
    exact h3 t fun j sj hj hl => ht j sj hj ((hL j).2 (.inl hl))

theorem SpecX.step {X0 X : List (Nat × List A)} {tr : List St} {L L' : Nat → Prop} {i : Nat} {st : St} (ha : Apart tr) (h : SpecX X0 tr L X) (hi : tr[i]? = some st) (hL : ∀ j, L' j ↔ L j ∨ j = i) : SpecX X0 tr L' (newX X st.d st.e) := by
  obtain ⟨h2, h3⟩ := h
  refine ⟨fun j sj ls hj hl hn => ?_, fun k hk => ?_⟩
  · unfold newX
    split
    · rename_i ls' hn'
      simp only [lk]
      split
      · rename_i e
        have := ha _ _ _ _ hj hi e; subst this
        rw [hi] at hj; obtain rfl := Option.some.inj hj
        rw [hn] at hn'; exact hn'.symm
      · rename_i e
        rcases (hL j).1 hl with hl | rfl
        · exact h2 j sj ls hj hl hn
        · rw [hi] at hj; obtain rfl := Option.some.inj hj; exact absurd rfl e
    · rename_i hn'
      rcases (hL j).1 hl with hl | rfl
      · exact h2 j sj ls hj hl hn
      · rw [hi] at hj; obtain rfl := Option.some.inj hj; rw [hn] at hn'; cases hn'
  · have h4 : lk X k = lk X0 k := h3 k fun j sj hj hl => hk j sj hj ((hL j).2 (.inl hl))
    unfold newX
    split
    · rename_i ls' hn'
      simp only [lk]
      rw [if_neg (fun e => hk i st hi ((hL i).2 (.inr rfl)) (by rw [hn']; rfl) e.symm)]; exact h4
    · exact h4

theorem SpecC.step {C0 C : List Loc} {tr : List St} {L L' : Nat → Prop} {i : Nat} {st : St} (h : SpecC C0 tr L C) (hi : tr[i]? = some st) (hL : ∀ j, L' j ↔ L j ∨ j = i) : SpecC C0 tr L' (st.e.use ++ C) := by
  intro l
  rw [List.mem_append, h l]
  constructor
  · rintro (h1 | h1 | ⟨j, sj, h1, h2, h3⟩)
    · exact .inr ⟨i, st, hi, (hL i).2 (.inr rfl), h1⟩
    · exact .inl h1
    · exact .inr ⟨j, sj, h1, (hL j).2 (.inl h2), h3⟩
  · rintro (h1 | ⟨j, sj, h1, h2, h3⟩)
    · exact .inr (.inl h1)
    · rcases (hL j).1 h2 with h2 | rfl
      · exact .inr (.inr ⟨j, sj, h1, h2, h3⟩)
      · rw [hi] at h1; obtain rfl := Option.some.inj h1; exact .inl h3

theorem specs_take {T0 : List A} {X0 : List (Nat × List A)} {C0 : List Loc} {tr : List St} (ha : Apart tr) : ∀ n, n ≤ tr.length → SpecT T0 tr (· < n) (setAll T0 (tr.take n)) ∧ SpecX X0 tr (· < n) (newAll X0 (tr.take n)) ∧ SpecC C0 tr (· < n) (useAll C0 (tr.take n))
  | 0, _ => ⟨⟨by simp [setAll], fun i st _ h => absurd h (Nat.not_lt_zero _), fun t _ => by simp [setAll]⟩, ⟨fun i st ls _ h => absurd h (Nat.not_lt_zero _), fun k _ => by simp [newAll]⟩, fun l => by simp [useAll]⟩
  | n + 1, hn => by
    obtain ⟨h1, h2, h3⟩ := specs_take (T0 := T0) (X0 := X0) (C0 := C0) ha n (by omega)
    have hi : tr[n]? = some tr[n] := List.getElem?_eq_getElem (by omega)
    have hL : ∀ j, j < n + 1 ↔ j < n ∨ j = n := fun j => by omega
    have ht : tr.take (n + 1) = tr.take n ++ [tr[n]] := List.take_succ_eq_append_getElem (by omega)
    refine ⟨?_, ?_, ?_⟩
    · rw [ht]; simp only [setAll, List.foldl_append, List.foldl_cons, List.foldl_nil]; exact h1.step ha hi hL
    · rw [ht]; simp only [newAll, List.foldl_append, List.foldl_cons, List.foldl_nil]; exact h2.step ha hi hL
    · rw [ht]; simp only [useAll, List.foldl_append, List.foldl_cons, List.foldl_nil]; exact h3.step hi hL

theorem Rel.congr {tv : Array Value} {C' : List Loc} {X' : List (Nat × List A)} (hr : Rel B M0 p C T X tv w) (hC : ∀ l, l ∈ C → l ∈ C') (hX : ∀ k ls, lk X' k = some ls → lk X k = some ls) : Rel B M0 p C' T X' tv w := by
  have g : Grows w (p.M M0) p C w (p.M M0) p C' := ⟨Keep.refl _ _, fun _ _ h => h, fun _ _ _ h => h, fun l hl hc => hl (hC l hc), fun _ _ c _ _ h => ⟨c, h, rfl⟩⟩
  exact ⟨hr.ok, hr.len, fun t a h => VA.mono g (hr.tm t a h), fun k ls h => by
    rcases hr.bx k ls (hX k ls h) with rfl | ⟨b, c, e, h1, h2, h3, h4⟩
    · exact .inl rfl
    exact .inr ⟨b, c, e, h1, h2, h3, fun j a ha => VA.mono g (h4 j a ha)⟩⟩

end Go.Proofs.Ytidnkaopndmigaa.V
end
section
set_option linter.unusedSimpArgs false
set_option linter.unusedVariables false
/- A statement whose order is open: every order. -/
namespace Go.Proofs.Ytidnkaopndmigaa.V
open Go.RowKit

variable {P : Program} {B : Nat → Nat → Prop} {M0 : Fr} {p : Pm} {C : List Loc} {T : List A} {X : List (Nat × List A)} {w : World}

theorem mask1_bit {acc : List Nat} {j : Nat} : ∀ {es : List Edge}, (mask1 acc es).testBit j = true → ∃ e ∈ es, Region.binds .any e = true ∧ (j = e.on ∨ (acc.getD e.on 0).testBit j = true)
  | [], h => by simp [mask1] at h
  | e :: es, h => by
    simp only [mask1, Nat.testBit_or, Bool.or_eq_true] at h
    rcases h with h | h
    · split at h
      · rename_i hb
        simp only [Nat.testBit_or, Bool.or_eq_true, Nat.testBit_two_pow, decide_eq_true_eq] at h
        exact ⟨e, by simp, hb, h.imp (fun h => h.symm) id⟩
      · simp at h
    · obtain ⟨e', h1, h2⟩ := mask1_bit h
      exact ⟨e', by simp [h1], h2⟩

theorem masks_get : ∀ (os : List Oper) (acc : List Nat), (masks acc os).take acc.length = acc ∧ ∀ i o, os[i]? = some o → (masks acc os)[acc.length + i]? = some (mask1 ((masks acc os).take (acc.length + i)) o.after.toList)
  | [], acc => ⟨by simp [masks], fun i o h => by simp at h⟩
  | o :: os, acc => by
    obtain ⟨h1, h2⟩ := masks_get os (acc ++ [mask1 acc o.after.toList])
    simp only [List.length_append, List.length_singleton] at h1 h2
    have h3 : (masks acc (o :: os)).take acc.length = acc := by
      have := congrArg (List.take acc.length) h1
      rw [List.take_take, Nat.min_eq_left (by omega)] at this
      simpa [masks] using this
    refine ⟨h3, fun i o' ho => ?_⟩
    cases i with
    | zero =>
      simp at ho; subst ho
      rw [Nat.add_zero, h3]
      have := congrArg (fun l => l[acc.length]?) h1
      simp only [List.getElem?_take, if_pos (Nat.lt_succ_self acc.length)] at this
      simpa [masks] using this
    | succ i =>
      simp at ho
      have := h2 i o' ho
      rw [show acc.length + 1 + i = acc.length + (i + 1) from by omega] at this
      exact this

theorem masks_bit {os : List Oper} {i j : Nat} {o : Oper} (ho : os[i]? = some o) (h : ((masks [] os).getD i 0).testBit j = true) : ∃ e ∈ o.after.toList, Region.binds .any e = true ∧ (j = e.on ∨ ((masks [] os).getD e.on 0).testBit j = true) := by
  have h1 := (masks_get os []).2 i o ho
  simp only [List.length_nil, Nat.zero_add] at h1
  rw [List.getD_eq_getElem?_getD, h1, Option.getD_some] at h
  obtain ⟨e, h2, h3, h4⟩ := mask1_bit h
  refine ⟨e, h2, h3, h4.imp id fun h => ?_⟩
  rw [List.getD_eq_getElem?_getD, List.getElem?_take] at h
  split at h
  · rw [List.getD_eq_getElem?_getD]; exact h
  · simp at h

/-- Whatever is listed has all ahead of it listed. -/
def Down (ops : Array Oper) (listed : Array Bool) : Prop := ∀ i j, listed.getD i false = true → ((masks [] ops.toList).getD i 0).testBit j = true → listed.getD j false = true

theorem ready_mask {ops : Array Oper} {listed : Array Bool} {i j : Nat} (hd : Down ops listed) (hr : i ∈ Region.ready .any ops listed) (h : ((masks [] ops.toList).getD i 0).testBit j = true) : listed.getD j false = true := by
  obtain ⟨_, o, ho, hall⟩ := mem_ready.1 hr
  obtain ⟨e, h1, h2, h3⟩ := masks_bit (os := ops.toList) (o := o) (by simpa using ho) h
  have h4 := hall e (by simpa using h1) h2
  rcases h3 with rfl | h3
  · exact h4
  · exact hd _ _ h4 h3

theorem Down.step {ops : Array Oper} {listed : Array Bool} {i : Nat} (hd : Down ops listed) (hr : i ∈ Region.ready .any ops listed) : Down ops (listed.setIfInBounds i true) := by
  intro k j hk hj
  by_cases hki : k = i
  · subst hki; exact getD_set_true (ready_mask hd hr hj)
  · rw [getD_set_ne false (Ne.symm hki)] at hk
    exact getD_set_true (hd k j hk hj)

theorem drawOk_spec {ops : Array Oper} {n : Nat} (h : drawOk ops n = true) : n ≤ ops.size ∧ ∀ i o, ops[i]? = some o → (∀ e ∈ o.after, Region.binds .any e = true → e.on < i) ∧
    (i < n → ∃ d, o.dst = some d ∧ ∀ j oj, j < n → ops[j]? = some oj → (j = i ∨ oj.dst ≠ some d) ∧ ∃ dj, oj.dst = some dj ∧ (dj ∈ tmpsOf ops o → j < i ∧ ((masks [] ops.toList).getD i 0).testBit j = true)) ∧
    (n ≤ i → (masks [] ops.toList).getD i 0 = 2 ^ i - 1) := by
  simp only [drawOk, Bool.and_eq_true, decide_eq_true_eq] at h
  obtain ⟨h, hn⟩ := h
  refine ⟨hn, fun i o ho => ?_⟩
  have hm : (o, i) ∈ ops.toList.zipIdx := by
    rw [List.mem_zipIdx_iff_getElem?]; simpa using ho
  have := List.all_eq_true.1 h _ hm
  simp only [Bool.and_eq_true] at this
  obtain ⟨h1, h2⟩ := this
  refine ⟨fun e he hb => ?_, fun hi => ?_, fun hi => ?_⟩
  · have := List.all_eq_true.1 h1 e (by simpa using he)
    simpa [hb] using this
  · rw [if_pos hi] at h2
    simp only [early, Bool.and_eq_true] at h2
    obtain ⟨h3, h4⟩ := h2
    obtain ⟨d, hd⟩ := Option.isSome_iff_exists.1 h3
    refine ⟨d, hd, fun j oj hj hoj => ?_⟩
    have hmj : (oj, j) ∈ (ops.toList.take n).zipIdx := by
      rw [List.mem_zipIdx_iff_getElem?]
      rw [List.getElem?_take, if_pos hj]; simpa using hoj
    have h5 := List.all_eq_true.1 h4 _ hmj
    simp only [Bool.and_eq_true, Bool.or_eq_true, beq_iff_eq, bne_iff_ne] at h5
    obtain ⟨h6, h7⟩ := h5
    refine ⟨h6.imp id fun h => by rw [← hd]; exact h, ?_⟩
    cases hdj : oj.dst with
    | none => rw [hdj] at h7; cases h7
    | some dj =>
      rw [hdj] at h7
      refine ⟨dj, rfl, fun hmem => ?_⟩
      simp only [Bool.or_eq_true, Bool.not_eq_true', Bool.and_eq_true, decide_eq_true_eq] at h7
      rcases h7 with h7 | h7
      · simp [hmem] at h7
      · exact h7
  · rw [if_neg (by omega)] at h2; simpa using h2

/-! Behind the last that may come in any order: one after the other. -/
theorem any_tail {ops : Array Oper} {n : Nat} {Q : Exit → Act → World → Prop} (hok : drawOk ops n = true) : ∀ (rest : List Oper) (k fuel : Nat) (listed : Array Bool) (a : Act) (w : World), rest = ops.toList.drop k → n ≤ k → k ≤ ops.size → rest.length ≤ fuel → listed.size = ops.size → Down ops listed →
    (∀ j, j < ops.size → (listed.getD j false = true ↔ j < k)) → wpList P ops Q rest a w → wpAny P .any ops Q fuel listed a w
  | rest, k, 0, listed, a, w, hrest, hn, hk, hf, hs, hd, hl, h => by
    have hr0 : rest = [] := List.eq_nil_of_length_eq_zero (by omega)
    have hk' : k = ops.size := by
      have := congrArg List.length hrest; rw [hr0] at this; simp at this; omega
    subst hr0
    refine ⟨?_, h⟩
    apply List.eq_nil_iff_forall_not_mem.2
    intro j hj
    obtain ⟨h1, o, ho, _⟩ := mem_ready.1 hj
    have hlt : j < ops.size := (Array.getElem?_eq_some_iff.1 ho).1
    have h2 := (hl j hlt).2 (by omega)
    rw [Array.getD_eq_getD_getElem?] at h1 h2
    rw [Array.getElem?_eq_getElem (by omega)] at h1 h2
    simp at h1 h2; rw [h1] at h2; cases h2
  | rest, k, fuel + 1, listed, a, w, hrest, hn, hk, hf, hs, hd, hl, h => by
    have only : ∀ j ∈ Region.ready .any ops listed, j = k := by
      intro j hj
      obtain ⟨h1, o, ho, _⟩ := mem_ready.1 hj
      have hlt : j < ops.size := (Array.getElem?_eq_some_iff.1 ho).1
      have hnl : ¬ j < k := fun hjk => by
        have h2 := (hl j hlt).2 hjk
        rw [Array.getD_eq_getD_getElem?] at h1 h2
        rw [Array.getElem?_eq_getElem (by omega)] at h1 h2
        simp at h1 h2; rw [h1] at h2; cases h2
      apply Classical.byContradiction; intro hne
      have hm := ((drawOk_spec hok).2 j o ho).2.2 (by omega)
      have hb : ((masks [] ops.toList).getD j 0).testBit k = true := by rw [hm, Nat.testBit_two_pow_sub_one]; simp; omega
      have := ready_mask hd hj hb
      rw [hl k (by omega)] at this; omega
    refine ⟨fun h0 => ?_, fun i hi => ?_⟩
    · cases hrest' : rest with
      | nil => subst hrest'; exact h
      | cons o os =>
        exfalso
        have ho : ops[k]? = some o := by
          have := congrArg (fun l => l[0]?) hrest
          rw [hrest'] at this; simpa using this.symm
        have hkr : k ∈ Region.ready .any ops listed := by
          refine mem_ready.2 ⟨?_, o, ho, fun e he hb => ?_⟩
          · have hlt : k < ops.size := (Array.getElem?_eq_some_iff.1 ho).1
            have h2 : ¬ listed.getD k false = true := fun h2 => by rw [hl k hlt] at h2; omega
            rw [Array.getD_eq_getD_getElem?] at h2 ⊢
            rw [Array.getElem?_eq_getElem (by omega)] at h2 ⊢
            simpa using h2
          · have := ((drawOk_spec hok).2 k o ho).1 e he hb
            exact (hl _ (by omega)).2 this
        rw [h0] at hkr; cases hkr
    · obtain rfl := only i hi
      obtain ⟨_, o, ho, _⟩ := mem_ready.1 hi
      have hlt : i < ops.size := (Array.getElem?_eq_some_iff.1 ho).1
      have hcons : rest = o :: ops.toList.drop (i + 1) := by
        rw [hrest, List.drop_eq_getElem_cons (by simpa using hlt)]
        congr 1
        have := (Array.getElem?_eq_some_iff.1 ho).2
        simpa using this
      have next : ∀ a w, wpList P ops Q (ops.toList.drop (i + 1)) a w → wpAny P .any ops Q fuel (listed.setIfInBounds i true) a w := fun a w h =>
        any_tail hok _ (i + 1) fuel _ a w rfl (by omega) (by omega) (by rw [hcons] at hf; simp at hf ⊢; omega) (by simp [hs]) (hd.step hi) (fun j hj => by
          by_cases hji : j = i
          · subst hji; simp [hs, hj]
          · rw [getD_set_ne false (Ne.symm hji), hl j hj]; omega) h
      rw [hcons] at h
      unfold wpList at h
      unfold wpOp
      simp only [ho]
      split
      · rename_i hw; rw [if_pos hw] at h
        exact h.imp (fun h => Oper.wp_mono next h) id
      · rename_i hw; rw [if_neg hw] at h
        exact next _ _ h

/-! What operations use up is there. -/
theorem baseA_use {C : List Loc} {e : TypeId} {sz : Nat} {a : A} {xs : List D} {use : List Loc} (h : baseA C e sz a = some (xs, use)) : ∀ l ∈ use, l ∉ C := by
  cases a with
  | nil => simp only [baseA, Option.some.injEq, Prod.mk.injEq] at h; obtain ⟨_, rfl⟩ := h; intro l hl; cases hl
  | bor l' e' sz' ys =>
    simp only [baseA] at h
    split at h
    · cases h
    · rename_i hc
      simp only [not_or] at hc
      simp only [Option.some.injEq, Prod.mk.injEq] at h
      obtain ⟨_, rfl⟩ := h
      intro l hl; simp at hl; subst hl; exact hc.1
  | _ => simp [baseA] at h

/-- Only an append uses up, only a variable's making makes one. -/
theorem aval_eff {d : Nat} {o : Op} {c : Prop} {a : A} {e : Eff} (h : aval P T X C d o = some (c, a, e)) : (∀ l ∈ e.use, l ∉ C) ∧ (e.new.isSome → needBox o = true) := by
  have triv : e = {} → (∀ l ∈ e.use, l ∉ C) ∧ (e.new.isSome → needBox o = true) := fun he => by subst he; exact ⟨fun l hl => by simp at hl, fun hn => by simp at hn⟩
  cases o with
  | alloc t =>
    simp only [aval, Option.bind_eq_some_iff] at h
    obtain ⟨_, _, h⟩ := h
    split at h
    · simp only [Option.some.injEq, Prod.mk.injEq] at h; obtain ⟨_, _, rfl⟩ := h; exact ⟨fun l hl => by simp at hl, fun _ => rfl⟩
    · cases h
  | makeSlice t x y =>
    simp only [aval] at h
    split at h
    · split at h
      · split at h
        · simp only [Option.some.injEq, Prod.mk.injEq] at h; obtain ⟨_, _, rfl⟩ := h; exact ⟨fun l hl => by simp at hl, fun _ => rfl⟩
        · cases h
      · cases h
    · cases h
  | box t x =>
    simp only [aval, Option.bind_eq_some_iff] at h
    obtain ⟨_, _, h⟩ := h
    split at h
    · simp only [Option.some.injEq, Prod.mk.injEq] at h; obtain ⟨_, _, rfl⟩ := h; exact ⟨fun l hl => by simp at hl, fun _ => rfl⟩
    · cases h
  | call cl =>
    obtain ⟨cal, args, ats⟩ := cl
    cases cal with
    | builtin b =>
      cases b with
      | append =>
        simp only [aval] at h
        split at h
        · split at h
          · split at h
            · split at h
              · rename_i h1 _
                split at h
                · simp only [Option.some.injEq, Prod.mk.injEq] at h
                  obtain ⟨_, _, rfl⟩ := h
                  simp only [Option.bind_eq_some_iff] at h1
                  obtain ⟨ax, _, q⟩ := h1
                  exact ⟨baseA_use q, fun hn => by simp at hn⟩
                · cases h
              · cases h
            · cases h
          · cases h
        · cases h
      | len =>
        simp only [aval] at h
        split at h
        · split at h <;> first | (simp only [val, yes, Option.some.injEq, Prod.mk.injEq] at h; exact triv h.2.2.symm) | cases h
        · split at h
          · split at h <;> first | (simp only [val, yes, Option.some.injEq, Prod.mk.injEq] at h; exact triv h.2.2.symm) | cases h
          · split at h <;> first | (simp only [val, yes, Option.some.injEq, Prod.mk.injEq] at h; exact triv h.2.2.symm) | cases h
          · cases h
      | max => simp only [aval] at h; split at h <;> first | (simp only [val, yes, Option.some.injEq, Prod.mk.injEq] at h; exact triv h.2.2.symm) | cases h
      | min => simp only [aval] at h; split at h <;> first | (simp only [val, yes, Option.some.injEq, Prod.mk.injEq] at h; exact triv h.2.2.symm) | cases h
      | _ => simp [aval] at h
    | value f => simp [aval] at h
    | invoke r m => simp [aval] at h
  | move x => simp only [aval, yes, Option.bind_eq_some_iff, Option.some.injEq, Prod.mk.injEq] at h; obtain ⟨_, _, _, _, rfl⟩ := h; exact triv rfl
  | pick c' x y => simp only [aval] at h; split at h <;> first | (simp only [yes, Option.bind_eq_some_iff, Option.some.injEq, Prod.mk.injEq] at h; obtain ⟨_, _, _, _, rfl⟩ := h; exact triv rfl) | cases h
  | load t x =>
    simp only [aval, Option.bind_eq_some_iff] at h
    obtain ⟨ax, _, h⟩ := h
    unfold loadA at h
    split at h
    · split at h
      · split at h
        · simp only [Option.bind_eq_some_iff] at h
          obtain ⟨_, _, h⟩ := h
          split at h
          · simp only [val, yes, Option.some.injEq, Prod.mk.injEq] at h; exact triv h.2.2.symm
          · cases h
        · cases h
      · simp only [yes, Option.bind_eq_some_iff, Option.some.injEq, Prod.mk.injEq] at h; obtain ⟨_, _, _, _, rfl⟩ := h; exact triv rfl
      · cases h
    · split at h
      · simp only [Option.some.injEq, Prod.mk.injEq] at h; exact triv h.2.2.symm
      · split at h
        · simp only [yes, Option.some.injEq, Prod.mk.injEq] at h; exact triv h.2.2.symm
        · cases h
      · cases h
    · cases h
  | build t ps =>
    simp only [aval] at h
    split at h
    · split at h
      · simp only [Option.bind_eq_some_iff] at h
        obtain ⟨_, _, _, _, h⟩ := h
        split at h
        · simp only [val, yes, Option.some.injEq, Prod.mk.injEq] at h; exact triv h.2.2.symm
        · cases h
      · cases h
    · cases h
  | binOp op t x y t' =>
    simp only [aval] at h
    split at h
    · simp only [valIf, Option.bind_eq_some_iff, Option.some.injEq, Prod.mk.injEq] at h; obtain ⟨⟨_, _⟩, _, _, _, rfl⟩ := h; exact triv rfl
    · cases h
  | unOp op t x => simp only [aval, val, yes, Option.bind_eq_some_iff, Option.some.injEq, Prod.mk.injEq] at h; obtain ⟨_, _, _, _, _, _, rfl⟩ := h; exact triv rfl
  | extract x i => simp only [aval] at h; split at h <;> first | (simp only [yes, Option.bind_eq_some_iff, Option.some.injEq, Prod.mk.injEq] at h; obtain ⟨_, _, _, _, rfl⟩ := h; exact triv rfl) | cases h
  | field s x f =>
    simp only [aval] at h
    split at h
    · split at h
      · simp only [valIf, Option.some.injEq, Prod.mk.injEq] at h; exact triv h.2.2.symm
      · simp only [yes, Option.bind_eq_some_iff, Option.some.injEq, Prod.mk.injEq] at h; obtain ⟨_, _, _, _, rfl⟩ := h; exact triv rfl
      · cases h
    · cases h
  | slice t x lo hi mx =>
    cases mx with
    | some m => simp [aval] at h
    | none =>
      simp only [aval] at h
      split at h
      · split at h
        · split at h
          · simp only [Option.some.injEq, Prod.mk.injEq] at h; exact triv h.2.2.symm
          · cases h
        · cases h
      split at h
      · split at h
        · split at h
          · simp only [valIf, Option.some.injEq, Prod.mk.injEq] at h; exact triv h.2.2.symm
          · cases h
        · cases h
      · split at h
        · simp only [valIf, Option.some.injEq, Prod.mk.injEq] at h; exact triv h.2.2.symm
        · cases h
      · cases h
  | makeFunc f first caps =>
    simp only [aval] at h
    split at h
    · split at h
      · simp only [yes, Option.bind_eq_some_iff, Option.some.injEq, Prod.mk.injEq] at h; obtain ⟨_, _, _, _, rfl⟩ := h; exact triv rfl
      · cases h
    · cases h
  | nilCheck x => simp only [aval] at h; split at h <;> first | (simp only [yes, Option.some.injEq, Prod.mk.injEq] at h; exact triv h.2.2.symm) | cases h
  | fieldAddr s x f => simp only [aval] at h; split at h <;> first | (split at h <;> first | (simp only [yes, Option.some.injEq, Prod.mk.injEq] at h; exact triv h.2.2.symm) | cases h) | cases h
  | indexAddr t x i =>
    simp only [aval] at h
    split at h
    · split at h
      · split at h
        · simp only [Option.some.injEq, Prod.mk.injEq] at h; exact triv h.2.2.symm
        · cases h
      · cases h
    · split at h <;> first | (simp only [Option.some.injEq, Prod.mk.injEq] at h; exact triv h.2.2.symm) | cases h
  | index t x i => simp only [aval] at h; split at h <;> first | (simp only [valIf, Option.some.injEq, Prod.mk.injEq] at h; exact triv h.2.2.symm) | cases h
  | convert s t x => simp only [aval] at h; split at h <;> first | (split at h <;> first | (simp only [val, yes, Option.some.injEq, Prod.mk.injEq] at h; exact triv h.2.2.symm) | cases h) | cases h
  | buildSlice t n ps => simp only [aval] at h; split at h <;> first | (split at h <;> first | (simp only [Option.some.injEq, Prod.mk.injEq] at h; exact triv h.2.2.symm) | cases h) | cases h
  | _ => simp [aval] at h

end Go.Proofs.Ytidnkaopndmigaa.V
end
section
set_option linter.unusedSimpArgs false
set_option linter.unusedVariables false
/- A statement whose order is open: the rule. -/
namespace Go.Proofs.Ytidnkaopndmigaa.V
open Go.RowKit

variable {P : Program} {B : Nat → Nat → Prop} {M0 : Fr} {p : Pm} {C : List Loc} {T : List A} {X : List (Nat × List A)} {w : World}

theorem StepOK.use_fresh {ops : Array Oper} {X0 : List (Nat × List A)} {o : Oper} {st : St} (h : StepOK P ops X0 T C o st) : (∀ l ∈ st.e.use, l ∉ C) ∧ (st.e.new.isSome → needBox o.op = true) := by
  have key : Val P X0 T C o st → (∀ l ∈ st.e.use, l ∉ C) ∧ (st.e.new.isSome → needBox o.op = true) := by
    rintro (⟨_, _, _, _, _, _, _, _, _, he⟩ | ⟨c, ha, _⟩)
    · rw [he]; exact ⟨fun l hl => by simp at hl, fun h => by simp at h⟩
    · exact aval_eff ha
  obtain ⟨_, h⟩ := h
  split at h
  · exact key h
  · obtain ⟨_, b, _, _, h⟩ := h
    split at h
    · exact key h
    · rw [h.2]; exact ⟨fun l hl => by simp at hl, fun h => by simp at h⟩

theorem Rel.sub {tv : Array Value} {X' : List (Nat × List A)} (hr : Rel B M0 p C T X tv w) (hX : ∀ k ls, lk X' k = some ls → lk X k = some ls) : Rel B M0 p C T X' tv w := hr.congr (fun _ h => h) hX

theorem yielded_of {act : Act} (hr : Rel B M0 p C T X act.tmps w) {ops : Array Oper} {j dj : Nat} {b : Bool} (h1 : (ops[j]?).bind (·.dst) = some dj) (h2 : T[dj]? = some (.d (.bool b))) : yielded ops act.tmps j = some b := by
  have hv : act.tmps.getD dj undef = .bool b := (hr.tm dj _ h2).bool_inv
  have hlt : dj < act.tmps.size := by rw [← hr.len]; exact (List.getElem?_eq_some_iff.1 h2).1
  unfold yielded
  simp only [h1, Option.bind_some]
  rw [Array.getD_eq_getD_getElem?] at hv
  rw [Array.getElem?_eq_getElem hlt] at hv ⊢
  simp only [Option.getD_some] at hv
  rw [hv]

theorem sameOn_of {T T' : List A} {ops : Array Oper} {o : Oper} (h : ∀ t ∈ tmpsOf ops o, T[t]? = T'[t]?) : SameOn T T' o.op.operands.toList := by
  intro x hx
  cases x with
  | tmp t => simp only [opnd]; rw [h t (by simp only [tmpsOf, List.mem_append]; exact .inl (List.mem_filterMap.2 ⟨_, hx, rfl⟩))]
  | const v => rfl
  | global g => rfl
  | func f => rfl

/-- One operation out of its turn. -/
theorem early_step {ops : Array Oper} {X0 : List (Nat × List A)} {T' : List A} {C' : List Loc} {o : Oper} {st : St} {a : Act} {w0 : World} {next : Act → World → Prop} {Q : Exit → Act → World → Prop} {L : Prop}
    (hs : StepOK P ops X0 T' C' o st) (hr : Rel B M0 p C T X a.tmps w) (hd : a.defers = []) (hb : Away B w0 w) (hX : ∀ k ls, lk X0 k = some ls → lk X k = some ls) (hT : ∀ t ∈ tmpsOf ops o, T'[t]? = T[t]?) (hC : ∀ l ∈ st.e.use, l ∉ C)
    (h1 : needBox o.op = true → free p st.d) (h2 : needRow o.op = true → p.gr (.t st.d) = none)
    (hn : ∀ p' a' w', Rel B M0 p' (st.e.use ++ C) (T.set st.d st.y) (newX X st.d st.e) a'.tmps w' → a'.defers = [] → Away B w0 w' → (∀ k, k ≠ st.d → p.bx k = none → p'.bx k = none) → (∀ l, l ≠ .t st.d → p.gr l = none → p'.gr l = none) → next a' w') :
    if Region.wanted o (yielded ops a.tmps) then o.wp P a w next Q ∨ (o.asks P a w ∧ LetsOut Q) else next (a.put o.dst undef) w := by
  obtain ⟨hdst, hs⟩ := hs
  have val : Val P X0 T' C' o st → o.wp P a w next Q := by
    rintro (⟨f, args, ats, ds, r, ho, hds, hcon, hy, he⟩ | ⟨c, ha, hc⟩)
    · have hso := sameOn_of hT
      have hds' : argsD T args.toList = some ds := by
        rw [← hds]; symm
        refine argsD_same _ fun x hx => hso.dnd ?_
        rw [ho]; simp [Op.operands, Call.operands, hx]
      unfold Oper.wp
      have hrun : (execOp a.eval o).run P w = .ok (.enter f (args.map a.eval)) w := by
        simp only [execOp, ho, Sem.run_bind, resolve]
        show ((Deferred.ofValue (a.eval (.func f)) (args.map a.eval)).run P w).andThen _ = _
        show (Result.ok _ _).andThen _ = _
        simp only [Result.andThen_ok, invoke]
        rw [hcon.enters]
        simp
      rw [hrun, Oper.upon_enter]
      have hM : ∀ b i, p.M M0 b i → b < w.heap.size := by
        intro b i hm
        rcases hm with hm | ⟨k, hm⟩ | ⟨l, hd, h1, h2, _⟩
        · exact (hr.ok.m0 _ _ hm).2
        · obtain ⟨_, _, _, q⟩ := hr.ok.bx _ _ hm; exact heap_lt q
        · obtain ⟨_, _, _, _, q, _⟩ := hr.ok.gr _ _ h1; rw [← h2]; exact heap_lt q
      have hcc := hcon.spec (p.M M0) w (args.toList.map a.eval) hM (argsD_sound hr hds')
      rw [show (args.toList.map a.eval).toArray = args.map a.eval from by rw [← Array.toList_map]] at hcc
      refine hcc.mono fun e w' hh' => ?_
      obtain ⟨v, rfl, hv, hbel⟩ := hh'
      rw [hdst]
      refine hn p _ _ ?_ hd (hb.trans (Away.of_below hbel)) (fun _ _ h => h) (fun _ _ h => h)
      rw [hy, he]
      exact (hr.below hbel).set (VA.ofD hv)
    · have ha' := aval_same ha (sameOn_of hT) hC
      obtain ⟨v, w', p', h3, h4⟩ := aval_sound (hr.sub hX) h1 h2 ha' hc
      unfold Oper.wp
      rw [h3, Oper.upon_value, hdst]
      have hput := hr.put (s := ⟨T, X, C⟩) h4
      exact hn p' _ _ hput hd (hb.trans h4.below) h4.only.1 h4.only.2
  split at hs
  · rename_i hg
    rw [if_pos (by simp [Region.wanted, hg])]
    exact .inl (val hs)
  · rename_i j want hg
    obtain ⟨dj, b, hj, hb', hs⟩ := hs
    have hmem : dj ∈ tmpsOf ops o := by simp [tmpsOf, hg, hj]
    have hy := yielded_of hr hj (by rw [← hT dj hmem]; exact hb')
    have hw : Region.wanted o (yielded ops a.tmps) = (b == want) := by simp [Region.wanted, hg, hy]
    split at hs
    · rename_i hbw
      rw [if_pos (by rw [hw, hbw]; simp)]
      exact .inl (val hs)
    · rename_i hbw
      rw [if_neg (by rw [hw]; simpa using hbw), hdst]
      refine hn p _ _ ?_ hd hb (fun _ _ h => h) (fun _ _ h => h)
      rw [hs.1, hs.2]
      exact hr.set trivial

/-- While some that may come in any order are still to come. -/
structure Mid (P : Program) (ops : Array Oper) (n : Nat) (T0 : List A) (X0 : List (Nat × List A)) (C0 : List Loc) (tr : List St) (B : Nat → Nat → Prop) (M0 : Fr) (w0 : World) (listed : Array Bool) (a : Act) (w : World) : Prop where
  size : listed.size = ops.size
  down : Down ops listed
  rest : ∀ j, n ≤ j → listed.getD j false = false
  rel : ∃ p T X C, Rel B M0 p C T X a.tmps w ∧ SpecT T0 tr (fun j => listed.getD j false = true) T ∧ SpecX X0 tr (fun j => listed.getD j false = true) X ∧ SpecC C0 tr (fun j => listed.getD j false = true) C ∧
    (∀ (i : Nat) (st : St) (o : Oper), tr[i]? = some st → ops[i]? = some o → listed.getD i false = false → (needBox o.op = true → free p st.d) ∧ (needRow o.op = true → p.gr (.t st.d) = none)) ∧ a.defers = [] ∧ Away B w0 w

/-- All of them have run. -/
theorem final_holds {T0 : List A} {X0 : List (Nat × List A)} {C0 : List Loc} {tr : List St} {L : Nat → Prop} {Tf : List A} {Xf : List (Nat × List A)} {Cf : List Loc} {a : Act} {w0 : World} (hr : Rel B M0 p C T X a.tmps w) (hT : SpecT T0 tr L T) (hX : SpecX X0 tr L X) (hC : SpecC C0 tr L C)
    (qT : SpecT T0 tr (· < tr.length) Tf) (qX : SpecX X0 tr (· < tr.length) Xf) (qC : SpecC C0 tr (· < tr.length) Cf) (hl : ∀ (i : Nat) (st : St), tr[i]? = some st → L i ∧ i < tr.length) (hd : a.defers = []) (hb : Away B w0 w) : Holds B M0 w0 ⟨Tf, Xf, Cf⟩ a w := by
  have hTT : T = Tf := by
    apply List.ext_getElem?
    intro t
    by_cases h : ∃ (i : Nat) (st : St), tr[i]? = some st ∧ st.d = t
    · obtain ⟨i, st, hi, rfl⟩ := h
      obtain ⟨l1, l2⟩ := hl i st hi
      by_cases hlt : st.d < T0.length
      · rw [hT.2.1 i st hi l1 hlt, qT.2.1 i st hi l2 hlt]
      · rw [List.getElem?_eq_none (by rw [hT.1]; omega), List.getElem?_eq_none (by rw [qT.1]; omega)]
    · rw [hT.2.2 t fun i st hi _ e => h ⟨i, st, hi, e⟩, qT.2.2 t fun i st hi _ e => h ⟨i, st, hi, e⟩]
  subst hTT
  refine ⟨p, hr.congr (fun l h => ?_) (fun k ls h => ?_), hd, hb⟩
  · rcases (hC l).1 h with h | ⟨i, st, h1, _, h3⟩
    · exact (qC l).2 (.inl h)
    · exact (qC l).2 (.inr ⟨i, st, h1, (hl i st h1).2, h3⟩)
  · by_cases hk : ∃ (i : Nat) (st : St), tr[i]? = some st ∧ st.e.new.isSome ∧ st.d = k
    · obtain ⟨i, st, hi, hnew, rfl⟩ := hk
      obtain ⟨ls', hls⟩ := Option.isSome_iff_exists.1 hnew
      obtain ⟨l1, l2⟩ := hl i st hi
      have h1 := qX.1 i st ls' hi l2 hls
      rw [h] at h1; obtain rfl := Option.some.inj h1
      exact hX.1 i st ls hi l1 hls
    · rw [hX.2 k fun i st hi _ hn e => hk ⟨i, st, hi, hn, e⟩, ← qX.2 k fun i st hi _ hn e => hk ⟨i, st, hi, hn, e⟩]
      exact h

theorem any_head {ops : Array Oper} {n : Nat} {T0 : List A} {X0 : List (Nat × List A)} {C0 : List Loc} {tr : List St} {w0 : World} {Q : Exit → Act → World → Prop} (hok : drawOk ops n = true) (htr : tr.length = n)
    (hstep : ∀ (i : Nat) (o : Oper) (st : St), ops[i]? = some o → tr[i]? = some st → StepOK P ops X0 (setAll T0 (tr.take i)) (useAll C0 (tr.take i)) o st) (hX0 : ∀ (i : Nat) (st : St) (o : Oper), tr[i]? = some st → ops[i]? = some o → needBox o.op = true → lk X0 st.d = none)
    (hfin : ∀ a w, Holds B M0 w0 ⟨setAll T0 tr, newAll X0 tr, useAll C0 tr⟩ a w → wpList P ops Q (ops.toList.drop n) a w) :
    ∀ (fuel : Nat) (U : List Nat) (listed : Array Bool) (a : Act) (w : World), U.length + (ops.size - n) ≤ fuel → (∀ j, j < n → listed.getD j false = false → j ∈ U) → Mid P ops n T0 X0 C0 tr B M0 w0 listed a w → wpAny P .any ops Q fuel listed a w := by
  obtain ⟨hn, hspec⟩ := drawOk_spec hok
  have hap : Apart tr := by
    intro i j x y hi hj e
    have hi' : i < n := by rw [← htr]; exact (List.getElem?_eq_some_iff.1 hi).1
    have hj' : j < n := by rw [← htr]; exact (List.getElem?_eq_some_iff.1 hj).1
    have oi : ops[i]? = some ops[i] := Array.getElem?_eq_getElem (by omega)
    have oj : ops[j]? = some ops[j] := Array.getElem?_eq_getElem (by omega)
    obtain ⟨d, hd, hall⟩ := (hspec i _ oi).2.1 hi'
    have di := (hstep i _ x oi hi).1
    have dj := (hstep j _ y oj hj).1
    rcases (hall j _ hj' oj).1 with h | h
    · exact h.symm
    · exact absurd (by rw [dj, ← e, ← di, hd]) h
  -- all that may come in any order have come
  have tail : ∀ (fuel : Nat) (listed : Array Bool) (a : Act) (w : World), ops.size - n ≤ fuel → (∀ j, j < n → listed.getD j false = true) → Mid P ops n T0 X0 C0 tr B M0 w0 listed a w → wpAny P .any ops Q fuel listed a w := by
    intro fuel listed a w hf hall hm
    obtain ⟨p, T, X, C, hr, hT, hX, hC, _, hd, hb⟩ := hm.rel
    obtain ⟨q1, q2, q3⟩ := specs_take (T0 := T0) (X0 := X0) (C0 := C0) hap tr.length (Nat.le_refl _)
    rw [List.take_of_length_le (Nat.le_refl _)] at q1 q2 q3
    have hl : ∀ (i : Nat) (st : St), tr[i]? = some st → listed.getD i false = true ∧ i < tr.length := fun i st h => by
      have := (List.getElem?_eq_some_iff.1 h).1; exact ⟨hall i (by omega), this⟩
    have hh := final_holds hr hT hX hC q1 q2 q3 hl hd hb
    refine any_tail hok _ n fuel listed a w rfl (Nat.le_refl _) hn (by simp; omega) hm.size hm.down (fun j hj => ⟨fun h => ?_, fun h => hall j h⟩) (hfin a w hh)
    apply Classical.byContradiction; intro hge
    rw [hm.rest j (by omega)] at h; cases h
  intro fuel
  induction fuel with
  | zero =>
    intro U listed a w hU hUl hm
    refine tail 0 listed a w (by omega) (fun j hj => ?_) hm
    cases hb : listed.getD j false with
    | true => rfl
    | false =>
      have h1 := hUl j hj hb
      have hU0 : U = [] := List.eq_nil_of_length_eq_zero (by omega)
      rw [hU0] at h1; cases h1
  | succ fuel ih =>
    intro U listed a w hU hUl hm
    by_cases hall : ∀ j, j < n → listed.getD j false = true
    · exact tail (fuel + 1) listed a w (by omega) hall hm
    · have hex : ∃ j, j < n ∧ listed.getD j false = false := by
        apply Classical.byContradiction; intro hne
        exact hall fun j hj => by
          cases hb : listed.getD j false with
          | true => rfl
          | false => exact absurd ⟨j, hj, hb⟩ hne
      have inb : ∀ j, j < ops.size → listed.getD j true = listed.getD j false := fun j hj => by
        simp only [Array.getD_eq_getD_getElem?]; rw [Array.getElem?_eq_getElem (by rw [hm.size]; exact hj)]; rfl
      have hlow : ∀ i ∈ Region.ready .any ops listed, i < n := by
        intro i hi
        obtain ⟨h1, o, ho, _⟩ := mem_ready.1 hi
        apply Classical.byContradiction; intro hge
        obtain ⟨j, hj, hjl⟩ := hex
        have hmk := (hspec i o ho).2.2 (by omega)
        have hb : ((masks [] ops.toList).getD i 0).testBit j = true := by rw [hmk, Nat.testBit_two_pow_sub_one]; simp; omega
        rw [ready_mask hm.down hi hb] at hjl; cases hjl
      refine ⟨fun h0 => ?_, fun i hi => ?_⟩
      · exfalso
        obtain ⟨j0, hj0⟩ := hex
        obtain ⟨j, ⟨hj, hjl⟩, hmin⟩ := least_ex (p := fun j => j < n ∧ listed.getD j false = false) j0 hj0
        have ho : ops[j]? = some ops[j] := Array.getElem?_eq_getElem (by omega)
        have : j ∈ Region.ready .any ops listed := by
          refine mem_ready.2 ⟨by rw [inb j (by omega)]; exact hjl, _, ho, fun e he hb => ?_⟩
          have hlt := (hspec j _ ho).1 e he hb
          cases hbl : listed.getD e.on false with
          | true => rfl
          | false => have := hmin e.on ⟨by omega, hbl⟩; omega
        rw [h0] at this; cases this
      · have hin := hlow i hi
        obtain ⟨h1, o, ho, _⟩ := mem_ready.1 hi
        have hti : tr[i]? = some tr[i] := List.getElem?_eq_getElem (by omega)
        generalize hst : tr[i]'(by omega) = st at hti
        have hs := hstep i o st ho hti
        obtain ⟨p, T, X, C, hr, hT, hX, hC, hf, hd, hb⟩ := hm.rel
        have hunl : listed.getD i false = false := by rw [← inb i (by omega)]; exact h1
        obtain ⟨s1, s2, s3⟩ := specs_take (T0 := T0) (X0 := X0) (C0 := C0) hap i (by omega)
        have hL : ∀ j, (listed.setIfInBounds i true).getD j false = true ↔ listed.getD j false = true ∨ j = i := by
          intro j
          by_cases hji : j = i
          · subst hji; simp [hm.size]; omega
          · rw [getD_set_ne false (Ne.symm hji)]; simp [hji]
        have tk : ∀ (j : Nat) (sj : St), tr[j]? = some sj → j < i → (tr.take i)[j]? = some sj := fun j sj h hlt => by rw [List.getElem?_take, if_pos hlt]; exact h
        unfold wpOp
        simp only [ho]
        refine early_step (L := True) hs hr hd hb (fun k ls hk => ?_) (fun t ht => ?_) (fun l hl hc => ?_) (fun hnb => (hf i st o hti ho hunl).1 hnb) (fun hnr => (hf i st o hti ho hunl).2 hnr) (fun p' a' w' hr' hd' hb' ho1 ho2 => ?_)
        · rw [hX.2 k fun j sj hj hlj hn e => ?_]
          · exact hk
          · subst e
            have hjn : j < n := by rw [← htr]; exact (List.getElem?_eq_some_iff.1 hj).1
            have oj : ops[j]? = some ops[j] := Array.getElem?_eq_getElem (by omega)
            have := hX0 j sj _ hj oj ((hstep j _ sj oj hj).use_fresh.2 hn)
            rw [hk] at this; cases this
        · -- what it looks at
          by_cases hex' : ∃ (j : Nat) (sj : St), tr[j]? = some sj ∧ sj.d = t
          · obtain ⟨j, sj, hj, rfl⟩ := hex'
            have hjn : j < n := by rw [← htr]; exact (List.getElem?_eq_some_iff.1 hj).1
            have oj : ops[j]? = some ops[j] := Array.getElem?_eq_getElem (by omega)
            obtain ⟨d, hd', hall'⟩ := (hspec i o ho).2.1 hin
            obtain ⟨_, dj, hdj, himp⟩ := hall' j _ hjn oj
            have hdd := (hstep j _ sj oj hj).1
            rw [hdj] at hdd; obtain rfl := Option.some.inj hdd
            obtain ⟨hji, hbit⟩ := himp ht
            have hlj := ready_mask hm.down hi hbit
            by_cases hlt : sj.d < T0.length
            · rw [s1.2.1 j sj hj hji hlt, hT.2.1 j sj hj hlj hlt]
            · rw [List.getElem?_eq_none (by rw [s1.1]; omega), List.getElem?_eq_none (by rw [hT.1]; omega)]
          · rw [s1.2.2 t fun j sj hj _ e => hex' ⟨j, sj, hj, e⟩, hT.2.2 t fun j sj hj _ e => hex' ⟨j, sj, hj, e⟩]
        · -- what it uses up
          have hni := hs.use_fresh.1 l hl
          rcases (hC l).1 hc with h | ⟨j, sj, hj, hlj, hlu⟩
          · exact hni ((s3 l).2 (.inl h))
          · rcases Nat.lt_trichotomy j i with hji | rfl | hji
            · exact hni ((s3 l).2 (.inr ⟨j, sj, hj, hji, hlu⟩))
            · have : listed.getD j false = true := hlj
              rw [hunl] at this; cases this
            · have hjn : j < n := by rw [← htr]; exact (List.getElem?_eq_some_iff.1 hj).1
              have oj : ops[j]? = some ops[j] := Array.getElem?_eq_getElem (by omega)
              obtain ⟨_, _, s3'⟩ := specs_take (T0 := T0) (X0 := X0) (C0 := C0) hap j (by omega)
              exact (hstep j _ sj oj hj).use_fresh.1 l hlu ((s3' l).2 (.inr ⟨i, st, hti, hji, hl⟩))
        · refine ih (U.filter (· != i)) _ a' w' ?_ (fun j hj hjl => ?_) ⟨by simp [hm.size], hm.down.step hi, fun j hj => ?_, p', _, _, _, hr', hT.step hap hti hL, hX.step hap hti hL, hC.step hti hL, fun j sj oj hj hoj hjl => ?_, hd', hb'⟩
          · have : (U.filter (· != i)).length < U.length := by
              rw [List.length_filter_lt_length_iff_exists]
              exact ⟨i, hUl i hin hunl, by simp⟩
            omega
          · have hji : j ≠ i := fun e => by
              rw [e] at hjl
              have := (hL i).2 (.inr rfl); rw [hjl] at this; cases this
            rw [getD_set_ne false (Ne.symm hji)] at hjl
            exact List.mem_filter.2 ⟨hUl j hj hjl, by simpa using hji⟩
          · rw [getD_set_ne false (by omega)]; exact hm.rest j hj
          · have hji : j ≠ i := fun e => by
              rw [e] at hjl
              have := (hL i).2 (.inr rfl); rw [hjl] at this; cases this
            rw [getD_set_ne false (Ne.symm hji)] at hjl
            have hne : sj.d ≠ st.d := fun e => hji (hap j i sj st hj hti e)
            obtain ⟨f1, f2⟩ := hf j sj oj hj hoj hjl
            exact ⟨fun h hlt => ho1 _ hne (f1 h hlt), fun h => ho2 _ (by simpa using hne) (f2 h)⟩

theorem setUnk_rel {tv : Array Value} : ∀ (os : List Oper) {T : List A}, Rel B M0 p C T X tv w → Rel B M0 p C (setUnk T os) X tv w
  | [], T, h => h
  | o :: os, T, h => by
    simp only [setUnk]
    split
    · rename_i d _
      refine setUnk_rel os ⟨h.ok, by simp [h.len], fun t a ht => ?_, h.bx⟩
      rw [List.getElem?_set] at ht
      split at ht
      · split at ht
        · injection ht with ht; subst ht; trivial
        · cases ht
      · exact h.tm t a ht
    · exact setUnk_rel os h

/-- A STATEMENT WHOSE ORDER IS OPEN: the first n of its operations in any order, the rest behind them. -/
theorem AW.draw {id : Nat} {ops : Array Oper} {Q : Exit → S → Prop} {s : S} (n : Nat) (hP : P.follows .mixedOrders = true) (hok : drawOk ops n = true) (h : drawX P ops n s (Q .normal)) : AW P (.region id ops true) Q s := by
  intro B M0 w0 a w hh
  refine wp_region_any hP ?_
  obtain ⟨p, hr, hd, hb⟩ := hh
  obtain ⟨hn, hspec⟩ := drawOk_spec hok
  obtain ⟨tr, htr, hstep, hk⟩ := preX_trace _ _ _ _ h
  have hlen : (ops.toList.take n).length = n := by simp; omega
  have hr1 := setUnk_rel (ops.toList.take n) (hr.clean (rowsOf (ops.toList.take n)) (boxesOf (ops.toList.take n)))
  have hr2 : Rel B M0 (p.clean (rowsOf (ops.toList.take n)) (boxesOf (ops.toList.take n))) _ _ _ a.tmps { w with drawn := w.drawn + 1 } := hr1.below ⟨rfl, rfl, rfl, Nat.le_refl _, fun _ _ => rfl⟩
  have htr' : tr.length = n := by rw [htr, hlen]
  have mem : ∀ (i : Nat) (o : Oper), i < n → ops[i]? = some o → o ∈ ops.toList.take n := fun i o hi ho => List.mem_of_getElem? (i := i) (by rw [List.getElem?_take, if_pos hi]; simpa using ho)
  have hstep' : ∀ (i : Nat) (o : Oper) (st : St), ops[i]? = some o → tr[i]? = some st → StepOK P ops _ _ _ o st := fun i o st ho hst => by
    have hi : i < n := by rw [← htr']; exact (List.getElem?_eq_some_iff.1 hst).1
    exact hstep i o st (by rw [List.getElem?_take, if_pos hi]; simpa using ho) hst
  have hbox : ∀ (i : Nat) (st : St) (o : Oper), tr[i]? = some st → ops[i]? = some o → needBox o.op = true → (boxesOf (ops.toList.take n)).contains st.d = true := fun i st o hst ho hnb => by
    have hi : i < n := by rw [← htr']; exact (List.getElem?_eq_some_iff.1 hst).1
    rw [List.contains_eq_mem, decide_eq_true_eq]
    refine List.mem_filterMap.2 ⟨o, mem i o hi ho, ?_⟩
    rw [if_pos hnb, (hstep' i o st ho hst).1]
  have hrow : ∀ (i : Nat) (st : St) (o : Oper), tr[i]? = some st → ops[i]? = some o → needRow o.op = true → (rowsOf (ops.toList.take n)).contains (.t st.d) = true := fun i st o hst ho hnb => by
    have hi : i < n := by rw [← htr']; exact (List.getElem?_eq_some_iff.1 hst).1
    rw [List.contains_eq_mem, decide_eq_true_eq]
    refine List.mem_filterMap.2 ⟨o, mem i o hi ho, ?_⟩
    rw [if_pos hnb, (hstep' i o st ho hst).1]; rfl
  refine any_head (B := B) (M0 := M0) (w0 := w0) hok htr' hstep' (fun i st o hst ho hnb => clX_none (hbox i st o hst ho hnb) _) (fun a w hh => seqx_sound (fun s a w h1 h2 => ⟨s, h1, h2⟩) _ _ a w hk hh) ops.size (List.range n) _ a _ (by simp; omega) (fun j hj _ => List.mem_range.2 hj) ?_
  refine ⟨by simp, fun i j h => by simp [Array.getElem?_replicate] at h; split at h <;> simp at h, fun j _ => by simp [Array.getElem?_replicate]; split <;> rfl, _, _, _, _, hr2, ?_, ?_, ?_, fun i st o hst ho _ => ⟨fun hnb => ?_, fun hnr => ?_⟩, hd, hb.trans ⟨rfl, rfl, rfl, Nat.le_refl _, fun _ _ _ => rfl, fun _ _ h _ => h⟩⟩
  · exact ⟨rfl, fun i st _ h => by simp [Array.getElem?_replicate] at h; split at h <;> simp at h, fun _ _ => rfl⟩
  · exact ⟨fun i st ls _ h => by simp [Array.getElem?_replicate] at h; split at h <;> simp at h, fun _ _ => rfl⟩
  · intro l
    refine ⟨fun h => .inl h, fun h => ?_⟩
    rcases h with h | ⟨i, st, _, h, _⟩
    · exact h
    · simp [Array.getElem?_replicate] at h; split at h <;> simp at h
  · intro hlt; simp only [Pm.clean]; rw [if_pos ⟨hbox i st o hst ho hnb, hlt⟩]
  · have := hrow i st o hst ho hnr
    simp only [Pm.clean]
    rw [if_pos (by simp only [gone, this, Bool.true_or])]

end Go.Proofs.Ytidnkaopndmigaa.V
end
section
set_option linter.unusedSimpArgs false
set_option linter.unusedVariables false
/- Rules in the shape in which texts are walked. -/
namespace Go.Proofs.Ytidnkaopndmigaa.V
open Go.RowKit

variable {P : Program}

theorem AW.rseq {id : Nat} {l : List Oper} {y : Code} {Q : Exit → S → Prop} {s : S} (h : ∀ K, K = AW P y Q → seqx P l.toArray l s K) : AW P (.seq (.region id l.toArray false) y) Q s :=
  AW.seq (AW.region (h (AW P y Q) rfl))
theorem AW.r {id : Nat} {l : List Oper} {Q : Exit → S → Prop} {s : S} (h : ∀ K, K = Q .normal → seqx P l.toArray l s K) : AW P (.region id l.toArray false) Q s :=
  AW.region (h (Q .normal) rfl)
def drawL (P : Program) (l : List Oper) (n : Nat) (s : S) (K : S → Prop) : Prop := drawX P l.toArray n s K
theorem AW.dseq {id : Nat} {l : List Oper} {y : Code} {Q : Exit → S → Prop} {s : S} (n : Nat) (hP : P.follows .mixedOrders = true) (hok : drawOk l.toArray n = true) (h : ∀ K, K = AW P y Q → drawL P l n s K) : AW P (.seq (.region id l.toArray true) y) Q s :=
  AW.seq (AW.draw n hP hok (h (AW P y Q) rfl))
theorem AW.dr {id : Nat} {l : List Oper} {Q : Exit → S → Prop} {s : S} (n : Nat) (hP : P.follows .mixedOrders = true) (hok : drawOk l.toArray n = true) (h : ∀ K, K = Q .normal → drawL P l n s K) : AW P (.region id l.toArray true) Q s :=
  AW.draw n hP hok (h _ rfl)

/-- What is yielded, if it is, goes on. -/
def ifA {α : Type} (o : Option α) (k : α → Prop) : Prop := match o with | some a => k a | none => False
theorem ifA_some {α : Type} (a : α) (k : α → Prop) : ifA (some a) k = k a := rfl
theorem ifA_none {α : Type} (k : α → Prop) : ifA none k = False := rfl
@[congr] theorem ifA_congr {α : Type} {o o' : Option α} {k : α → Prop} (h : o = o') : ifA o k = ifA o' k := by rw [h]
@[congr] theorem seqx_congr {ops l} {s s' : S} {K : S → Prop} (h : s = s') : seqx P ops l s K = seqx P ops l s' K := by rw [h]
@[congr] theorem stepx_congr {o} {s s' : S} {K : S → Prop} (h : s = s') : stepx P o s K = stepx P o s' K := by rw [h]
@[congr] theorem preX_congr {ops X0 X0' l T T' X X' C C'} {K : S → Prop} (h0 : X0 = X0') (h1 : T = T') (h2 : X = X') (h3 : C = C') : preX P ops X0 l T X C K = preX P ops X0' l T' X' C' K := by rw [h0, h1, h2, h3]
theorem ifA_map {α β : Type} (f : α → β) (o : Option α) (k : β → Prop) : ifA (o.map f) k = ifA o fun a => k (f a) := by cases o <;> rfl
theorem ifA_bind {α β : Type} (f : α → Option β) (o : Option α) (k : β → Prop) : ifA (o.bind f) k = ifA o fun a => ifA (f a) k := by cases o <;> rfl

/-- One of two ways; which is asked first, and alone. -/
def ifW (b want : Bool) (x y : Prop) : Prop := if b = want then x else y
@[congr] theorem ifW_congr {b b' want : Bool} {x y : Prop} (h : b = b') : ifW b want x y = ifW b' want x y := by rw [h]
theorem ifW_tt {x y} : ifW true true x y = x := rfl
theorem ifW_ff {x y} : ifW false false x y = x := rfl
theorem ifW_tf {x y} : ifW true false x y = y := rfl
theorem ifW_ft {x y} : ifW false true x y = y := rfl

/-- What an operation yields goes on. -/
def outk (o : Out) (k : A → Eff → Prop) : Prop := ifA o fun r => r.1 ∧ k r.2.1 r.2.2
def runA (P : Program) (T : List A) (X : List (Nat × List A)) (C : List Loc) (d : Nat) (op : Op) (k : A → Eff → Prop) : Prop := outk (aval P T X C d op) k
@[congr] theorem outk_congr {o o' : Out} {k : A → Eff → Prop} (h : o = o') : outk o k = outk o' k := by rw [h]
@[congr] theorem runA_congr {T T' X X' C C' d op} {k : A → Eff → Prop} (h1 : T = T') (h2 : X = X') (h3 : C = C') : runA P T X C d op k = runA P T' X' C' d op k := by rw [h1, h2, h3]
/-- goes on from a state that is reckoned first -/
def from_ (s : S) (f : List A → List (Nat × List A) → List Loc → Prop) : Prop := f s.T s.X s.C
@[congr] theorem from_congr {s s' : S} {f : List A → List (Nat × List A) → List Loc → Prop} (h : s = s') : from_ s f = from_ s' f := by rw [h]

section
variable {ops : Array Oper} {rest : List Oper} {d : Nat} {t : TypeId} {ps : String} {af : Array Edge} {T : List A} {X X0 : List (Nat × List A)} {C : List Loc} {K : S → Prop} {s : S} {k : A → Eff → Prop}

theorem from_mk {f : List A → List (Nat × List A) → List Loc → Prop} : from_ ⟨T, X, C⟩ f = f T X C := rfl
theorem sq_nil : seqx P ops [] s K = K s := rfl
theorem sq_cons {dst op} : seqx P ops (⟨dst, op, t, ps, af, none⟩ :: rest) s K = stepx P ⟨dst, op, t, ps, af, none⟩ s (fun s' => seqx P ops rest s' K) := rfl

def asBoolA : A → Option Bool
  | .d (.bool b) => some b
  | _ => none
theorem sq_guard {op j want} : seqx P ops (⟨some d, op, t, ps, af, some (j, want)⟩ :: rest) ⟨T, X, C⟩ K =
    ifA (((ops[j]?).bind (·.dst)).bind (T[·]?)) fun a => ifA (asBoolA a) fun b => ifW b want (stepx P ⟨some d, op, t, ps, af, some (j, want)⟩ ⟨T, X, C⟩ (fun s' => seqx P ops rest s' K)) (seqx P ops rest ⟨T.set d .unk, X, C⟩ K) := by
  simp only [seqx]
  cases ((ops[j]?).bind (·.dst)).bind (T[·]?) with
  | none => rfl
  | some a =>
    cases a with
    | d x => cases x <;> rfl
    | _ => rfl

theorem sx_assign {x g} : stepx P ⟨some d, .assign x, t, ps, af, g⟩ s K = ifA (asg s d x) K := by simp only [stepx]; cases asg s d x <;> rfl
theorem sx_store {ty ad x g} : stepx P ⟨none, .store ty ad x, t, ps, af, g⟩ s K = ifA (sto P s ty ad x) K := by simp only [stepx]; cases sto P s ty ad x <;> rfl
@[congr] theorem CallO_congr {s s' : S} {f args dst} {K : S → Prop} (h : s = s') : CallO P s f args dst K = CallO P s' f args dst K := by rw [h]
theorem sx_call {f args ats dst g} : stepx P ⟨dst, .call ⟨.value (.func f), args, ats⟩, t, ps, af, g⟩ s K = ((ifA (argsD s.T args.toList) fun ds => ∃ r, Con P f ds r ∧ K (putO s dst r)) ∨ CallO P s f args.toList dst K) := by simp only [stepx]; cases argsD s.T args.toList <;> rfl

theorem sx_of {op g} (h : stepx P ⟨some d, op, t, ps, af, g⟩ s K = (match aval P (pre op d s).T (pre op d s).X (pre op d s).C d op with | some (c, x, e) => c ∧ K ((pre op d s).put d x e) | none => False)) {s' : S} (hs : pre op d s = s') :
    stepx P ⟨some d, op, t, ps, af, g⟩ s K = from_ s' fun T X C => runA P T X C d op fun a e => K ⟨T.set d a, newX X d e, e.use ++ C⟩ := by
  rw [h, hs]
  simp only [from_, runA, outk]
  cases aval P s'.T s'.X s'.C d op with
  | none => rfl
  | some r => rfl
theorem sx_move {x g} : stepx P ⟨some d, .move x, t, ps, af, g⟩ s K = from_ s fun T X C => runA P T X C d (.move x) fun a e => K ⟨T.set d a, newX X d e, e.use ++ C⟩ := sx_of rfl rfl
theorem sx_pick {c x y g} : stepx P ⟨some d, .pick c x y, t, ps, af, g⟩ s K = from_ s fun T X C => runA P T X C d (.pick c x y) fun a e => K ⟨T.set d a, newX X d e, e.use ++ C⟩ := sx_of rfl rfl
theorem sx_load {ty x g} : stepx P ⟨some d, .load ty x, t, ps, af, g⟩ s K = from_ s fun T X C => runA P T X C d (.load ty x) fun a e => K ⟨T.set d a, newX X d e, e.use ++ C⟩ := sx_of rfl rfl
theorem sx_fieldAddr {sT x f g} : stepx P ⟨some d, .fieldAddr sT x f, t, ps, af, g⟩ s K = from_ s fun T X C => runA P T X C d (.fieldAddr sT x f) fun a e => K ⟨T.set d a, newX X d e, e.use ++ C⟩ := sx_of rfl rfl
theorem sx_nilCheck {x g} : stepx P ⟨some d, .nilCheck x, t, ps, af, g⟩ s K = from_ s fun T X C => runA P T X C d (.nilCheck x) fun a e => K ⟨T.set d a, newX X d e, e.use ++ C⟩ := sx_of rfl rfl
theorem sx_indexAddr {ty x i g} : stepx P ⟨some d, .indexAddr ty x i, t, ps, af, g⟩ s K = from_ s fun T X C => runA P T X C d (.indexAddr ty x i) fun a e => K ⟨T.set d a, newX X d e, e.use ++ C⟩ := sx_of rfl rfl
theorem sx_index {ty x i g} : stepx P ⟨some d, .index ty x i, t, ps, af, g⟩ s K = from_ s fun T X C => runA P T X C d (.index ty x i) fun a e => K ⟨T.set d a, newX X d e, e.use ++ C⟩ := sx_of rfl rfl
def nilA : D → Option (List D) | .sl xs => some xs | _ => none
theorem sx_bin_t {op ty x ty' g} {y : Nat} : stepx P ⟨some d, .binOp op ty x (.tmp y) ty', t, ps, af, g⟩ s K = from_ s fun T X C => runA P T X C d (.binOp op ty x (.tmp y) ty') fun a e => K ⟨T.set d a, newX X d e, e.use ++ C⟩ := sx_of (by cases op <;> rfl) rfl
theorem sx_bin_i {op ty x ty' g} {k0 n0} : stepx P ⟨some d, .binOp op ty x (.const (.int k0 n0)) ty', t, ps, af, g⟩ s K = from_ s fun T X C => runA P T X C d (.binOp op ty x (.const (.int k0 n0)) ty') fun a e => K ⟨T.set d a, newX X d e, e.use ++ C⟩ := sx_of (by cases op <;> rfl) rfl
theorem sx_bin_b {op ty x ty' g} {b0} : stepx P ⟨some d, .binOp op ty x (.const (.bool b0)) ty', t, ps, af, g⟩ s K = from_ s fun T X C => runA P T X C d (.binOp op ty x (.const (.bool b0)) ty') fun a e => K ⟨T.set d a, newX X d e, e.use ++ C⟩ := sx_of (by cases op <;> rfl) rfl
theorem sx_bin_s {op ty x ty' g} {s0} : stepx P ⟨some d, .binOp op ty x (.const (.string s0)) ty', t, ps, af, g⟩ s K = from_ s fun T X C => runA P T X C d (.binOp op ty x (.const (.string s0)) ty') fun a e => K ⟨T.set d a, newX X d e, e.use ++ C⟩ := sx_of (by cases op <;> rfl) rfl
theorem sx_nileq {ty x ty' g} : stepx P ⟨some d, .binOp .eql ty x (.const (.slice none 0 0)) ty', t, ps, af, g⟩ s K = ((V.elemOf P ty).isSome = true ∧ ifA (dnd s.T x) fun a => ifA (nilA a) fun xs => ∀ b : Bool, (b = true → xs = []) → K (s.set d (.d (.bool b)))) := by
  simp only [stepx]
  cases h : (V.elemOf P ty).isSome
  · simp
  · cases dnd s.T x with
    | none => simp [ifA]
    | some a => cases a <;> simp [ifA, nilA]
theorem sx_unOp {op ty x g} : stepx P ⟨some d, .unOp op ty x, t, ps, af, g⟩ s K = from_ s fun T X C => runA P T X C d (.unOp op ty x) fun a e => K ⟨T.set d a, newX X d e, e.use ++ C⟩ := sx_of rfl rfl
theorem sx_convert {sT ty x g} : stepx P ⟨some d, .convert sT ty x, t, ps, af, g⟩ s K = from_ s fun T X C => runA P T X C d (.convert sT ty x) fun a e => K ⟨T.set d a, newX X d e, e.use ++ C⟩ := sx_of rfl rfl
theorem sx_extract {x i g} : stepx P ⟨some d, .extract x i, t, ps, af, g⟩ s K = from_ s fun T X C => runA P T X C d (.extract x i) fun a e => K ⟨T.set d a, newX X d e, e.use ++ C⟩ := sx_of rfl rfl
theorem sx_field {sT x f g} : stepx P ⟨some d, .field sT x f, t, ps, af, g⟩ s K = from_ s fun T X C => runA P T X C d (.field sT x f) fun a e => K ⟨T.set d a, newX X d e, e.use ++ C⟩ := sx_of rfl rfl
theorem sx_build {ty parts g} : stepx P ⟨some d, .build ty parts, t, ps, af, g⟩ s K = from_ s fun T X C => runA P T X C d (.build ty parts) fun a e => K ⟨T.set d a, newX X d e, e.use ++ C⟩ := sx_of rfl rfl
theorem sx_slice {ty x lo hi g} : stepx P ⟨some d, .slice ty x lo hi none, t, ps, af, g⟩ s K = from_ s fun T X C => runA P T X C d (.slice ty x lo hi none) fun a e => K ⟨T.set d a, newX X d e, e.use ++ C⟩ := sx_of rfl rfl
theorem sx_len {args ats g} : stepx P ⟨some d, .call ⟨.builtin .len, args, ats⟩, t, ps, af, g⟩ s K = from_ s fun T X C => runA P T X C d (.call ⟨.builtin .len, args, ats⟩) fun a e => K ⟨T.set d a, newX X d e, e.use ++ C⟩ := sx_of rfl rfl
theorem sx_max {args ats g} : stepx P ⟨some d, .call ⟨.builtin .max, args, ats⟩, t, ps, af, g⟩ s K = from_ s fun T X C => runA P T X C d (.call ⟨.builtin .max, args, ats⟩) fun a e => K ⟨T.set d a, newX X d e, e.use ++ C⟩ := sx_of rfl rfl
theorem sx_min {args ats g} : stepx P ⟨some d, .call ⟨.builtin .min, args, ats⟩, t, ps, af, g⟩ s K = from_ s fun T X C => runA P T X C d (.call ⟨.builtin .min, args, ats⟩) fun a e => K ⟨T.set d a, newX X d e, e.use ++ C⟩ := sx_of rfl rfl
theorem sx_alloc {ty g} : stepx P ⟨some d, .alloc ty, t, ps, af, g⟩ s K = from_ (s.clean [] [d]) fun T X C => runA P T X C d (.alloc ty) fun a e => K ⟨T.set d a, newX X d e, e.use ++ C⟩ := sx_of rfl rfl
theorem sx_make {ty x y g} : stepx P ⟨some d, .makeSlice ty x y, t, ps, af, g⟩ s K = from_ (s.clean [] [d]) fun T X C => runA P T X C d (.makeSlice ty x y) fun a e => K ⟨T.set d a, newX X d e, e.use ++ C⟩ := sx_of rfl rfl
theorem sx_box {ty x g} : stepx P ⟨some d, .box ty x, t, ps, af, g⟩ s K = from_ (s.clean [] [d]) fun T X C => runA P T X C d (.box ty x) fun a e => K ⟨T.set d a, newX X d e, e.use ++ C⟩ := sx_of rfl rfl
theorem sx_buildSlice {ty n parts g} : stepx P ⟨some d, .buildSlice ty n parts, t, ps, af, g⟩ s K = from_ (s.clean [.t d] []) fun T X C => runA P T X C d (.buildSlice ty n parts) fun a e => K ⟨T.set d a, newX X d e, e.use ++ C⟩ := sx_of rfl rfl
def slA : D → Option (List D) | .sl xs => some xs | _ => none
/-- append: to a row of the call's own, to nil where such a row is wanted, or else. -/
def appN (b : Option A) (n q : Prop) : Prop := match b with | some .want => n | _ => q
def appM (a b : Option A) (r : Nat → TypeId → Nat → Nat → Nat → Prop) (n q : Prop) : Prop := match a with | some (.row k e sz o m) => r k e sz o m | some .nil => appN b n q | _ => q
@[congr] theorem appN_congr {b b' : Option A} {n q : Prop} (h : b = b') : appN b n q = appN b' n q := by rw [h]
@[congr] theorem appM_congr {a a' b b' : Option A} {r : Nat → TypeId → Nat → Nat → Nat → Prop} {n q : Prop} (h : a = a') (h2 : b = b') : appM a b r n q = appM a' b' r n q := by rw [h, h2]
def appC (P : Program) (s : S) (y : Operand) (t t' : TypeId) (k : TypeId → Nat → Nat → List D → Prop) : Prop :=
  ifA (V.elemOf P t) fun e => ifA (szOf P e) fun sz => ifA (bytesOf P e) fun by_ => ifA (dnd s.T y) fun b => ifA (slA b) fun ys => ((t == t') = true ∧ (sz == 0) = false ∧ ((zeroOf P e).filter fun l => l.length == sz).isSome = true) ∧ k e sz by_ ys
@[congr] theorem appC_congr {s s' : S} {y t t'} {k : TypeId → Nat → Nat → List D → Prop} (h : s = s') : appC P s y t t' k = appC P s' y t t' k := by rw [h]

theorem appR_eq {x y ty ty'} {Q : Option (Prop × S) → Prop} (hQ : Q none = False) : Q (appR P s d x y ty ty') = (match opnd s.T x with
    | some (.row k e' sz' o n) => appC P s y ty ty' fun e sz by_ ys => ((e' == e) = true ∧ (sz' == sz) = true ∧ (o == 0) = true ∧ Nat.blt k 1000 = true ∧ Nat.blt d 1000 = true) ∧ ifA (lk s.X k) fun ls => Q (some (ls.length = n * sz ∧ (n + ys.length) * by_ ≤ 140737488355328 ∧ n + ys.length ≤ maxLen ∧ ∀ y ∈ ys, y.cells.length = sz, s.app k k d e sz n ls ys))
    | some .nil => (match s.T[d]? with
      | some .want => appC P s y ty ty' fun e sz by_ ys => Nat.blt d 1000 = true ∧ Q (some (ys.length * by_ ≤ 140737488355328 ∧ ys.length ≤ maxLen ∧ ∀ y ∈ ys, y.cells.length = sz, s.app d d d e sz 0 [] ys))
      | _ => False)
    | _ => False) := by
  have hb : ∀ d, (Nat.blt d 1000 = true) = (d < 1000) := fun d => propext ⟨fun h => by simpa using h, fun h => by simpa using h⟩
  unfold appR appC
  have hbq : ∀ (sz : Nat) (l : List A), (decide (l.length = sz + 1)) = (l.length == sz + 1) := fun _ l => rfl
  simp only [hbq, hb]
  cases V.elemOf P ty with
  | none => simp only [ifA]; rw [hQ]; split <;> first | rfl | (split <;> rfl)
  | some e =>
    simp only [ifA_some]
    cases szOf P e with
    | none => simp only [ifA]; rw [hQ]; split <;> first | rfl | (split <;> rfl)
    | some sz =>
      simp only [ifA_some]
      cases sz with
      | zero =>
        simp only []
        rw [hQ]
        split
        · symm; simp only [eq_iff_iff, iff_false]; intro h
          cases h1 : bytesOf P e with
          | none => rw [h1] at h; exact h
          | some by_ =>
            rw [h1] at h; simp only [ifA_some] at h
            cases h2 : dnd s.T y with
            | none => rw [h2] at h; exact h
            | some b => rw [h2] at h; cases b <;> simp [ifA, slA] at h
        · split
          · symm; simp only [eq_iff_iff, iff_false]; intro h
            cases h1 : bytesOf P e with
            | none => rw [h1] at h; exact h
            | some by_ =>
              rw [h1] at h; simp only [ifA_some] at h
              cases h2 : dnd s.T y with
              | none => rw [h2] at h; exact h
              | some b => rw [h2] at h; cases b <;> simp [ifA, slA] at h
          · rfl
        · rfl
      | succ sz =>
        cases bytesOf P e with
        | none => simp only [ifA]; rw [hQ]; split <;> first | rfl | (split <;> rfl)
        | some by_ =>
          simp only [ifA_some]
          cases dnd s.T y with
          | none => simp only [ifA]; rw [hQ]; split <;> first | rfl | (split <;> rfl)
          | some b =>
            simp only [ifA_some]
            cases b with
            | sl ys =>
              simp only [slA, ifA_some]
              by_cases hc : ty = ty' ∧ ((zeroOf P e).filter fun l => l.length == sz + 1).isSome = true
              · rw [if_pos hc]
                simp only [hc.1, hc.2, beq_self_eq_true, true_and, Nat.add_one_ne_zero, beq_iff_eq, beq_eq_false_iff_ne, ne_eq, not_false_eq_true]
                cases hx : opnd s.T x with
                | none => exact hQ
                | some a =>
                  cases a with
                  | row k e' sz' o n =>
                    simp only []
                    by_cases hd : e' = e ∧ sz' = sz + 1 ∧ o = 0 ∧ k < 1000 ∧ d < 1000
                    · rw [if_pos hd]
                      obtain ⟨rfl, rfl, rfl, h4, h5⟩ := hd
                      simp only [h4, h5, true_and]
                      cases lk s.X k with
                      | none => simp only [Option.map_none, ifA]; exact hQ
                      | some ls => rfl
                    · rw [if_neg hd, hQ]
                      symm; simp only [eq_iff_iff, iff_false]; rintro ⟨h, _⟩; exact hd h
                  | nil =>
                    simp only []
                    cases s.T[d]? with
                    | none => exact hQ
                    | some b =>
                      cases b with
                      | want =>
                        simp only []
                        by_cases hd : d < 1000
                        · rw [if_pos hd]; simp only [hd, true_and]
                        · rw [if_neg hd, hQ]; simp [hd]
                      | _ => exact hQ
                  | _ => exact hQ
              · rw [if_neg hc, hQ]
                split
                · symm; simp only [eq_iff_iff, iff_false]; rintro ⟨⟨h1, _, h2⟩, _⟩; exact hc ⟨by simpa using h1, h2⟩
                · split
                  · symm; simp only [eq_iff_iff, iff_false]; rintro ⟨⟨h1, _, h2⟩, _⟩; exact hc ⟨by simpa using h1, h2⟩
                  · rfl
                · rfl
            | _ => simp only [slA, ifA]; rw [hQ]; split <;> first | rfl | (split <;> rfl)


def exR (K : S → Prop) : Option (Prop × S) → Prop
  | some (c, s') => c ∧ K s'
  | none => False
theorem sx_append {x y ty ty' g} : stepx P ⟨some d, .call ⟨.builtin .append, #[x, y], #[ty, ty']⟩, t, ps, af, g⟩ s K = appM (opnd s.T x) (s.T[d]?)
    (fun k e' sz' o n => appC P s y ty ty' fun e sz by_ ys => ((e' == e) = true ∧ (sz' == sz) = true ∧ (o == 0) = true ∧ Nat.blt k 1000 = true ∧ Nat.blt d 1000 = true) ∧ ifA (lk s.X k) fun ls => (ls.length = n * sz ∧ (n + ys.length) * by_ ≤ 140737488355328 ∧ n + ys.length ≤ maxLen ∧ ∀ y ∈ ys, y.cells.length = sz) ∧ K (s.app k k d e sz n ls ys))
    (appC P s y ty ty' fun e sz by_ ys => Nat.blt d 1000 = true ∧ (ys.length * by_ ≤ 140737488355328 ∧ ys.length ≤ maxLen ∧ ∀ y ∈ ys, y.cells.length = sz) ∧ K (s.app d d d e sz 0 [] ys))
    (from_ (s.clean [.t d] []) fun T X C => runA P T X C d (.call ⟨.builtin .append, #[x, y], #[ty, ty']⟩) fun a e => K ⟨T.set d a, newX X d e, e.use ++ C⟩) := by
  have h := appR_eq (P := P) (d := d) (s := s) (x := x) (y := y) (ty := ty) (ty' := ty') (Q := exR K) rfl
  have hel : (match aval P (pre (.call ⟨.builtin .append, #[x, y], #[ty, ty']⟩) d s).T (pre (.call ⟨.builtin .append, #[x, y], #[ty, ty']⟩) d s).X (pre (.call ⟨.builtin .append, #[x, y], #[ty, ty']⟩) d s).C d (.call ⟨.builtin .append, #[x, y], #[ty, ty']⟩) with | some (c, z, e) => c ∧ K ((pre (.call ⟨.builtin .append, #[x, y], #[ty, ty']⟩) d s).put d z e) | none => False) =
      (from_ (s.clean [.t d] []) fun T X C => runA P T X C d (.call ⟨.builtin .append, #[x, y], #[ty, ty']⟩) fun a e => K ⟨T.set d a, newX X d e, e.use ++ C⟩) := by
    rw [show pre (.call ⟨.builtin .append, #[x, y], #[ty, ty']⟩) d s = s.clean [.t d] [] from rfl]
    simp only [from_, runA, outk]
    cases aval P (s.clean [.t d] []).T (s.clean [.t d] []).X (s.clean [.t d] []).C d (.call ⟨.builtin .append, #[x, y], #[ty, ty']⟩) with
    | none => rfl
    | some r => rfl
  rw [← hel]
  show (if rowWay s d x = true then exR K (appR P s d x y ty ty') else _) = _
  rw [h]
  unfold rowWay appM appN
  cases opnd s.T x with
  | none => rfl
  | some a =>
    cases a with
    | row k e sz o n => rfl
    | nil =>
      simp only []
      cases s.T[d]? with
      | none => rfl
      | some b => cases b <;> rfl
    | _ => rfl

/-! The same in a statement whose order is open. -/
theorem px_nil : preX P ops X0 [] T X C K = K ⟨T, X, C⟩ := rfl
theorem px_call {f args ats} : preX P ops X0 (⟨some d, .call ⟨.value (.func f), args, ats⟩, t, ps, af, none⟩ :: rest) T X C K = ifA (argsD T args.toList) fun ds => ∃ r, Con P f ds r ∧ preX P ops X0 rest (T.set d (.ofD r)) X C K := by
  simp only [preX]; cases argsD T args.toList <;> rfl
/-- not a call of a Go function -/
def valOp : Op → Bool
  | .call ⟨.value (.func _), _, _⟩ => false
  | _ => true
theorem px_val_aux {op} : valOp op = true → (match op with
        | .call { callee := .value (.func f), args, .. } => match argsD T args.toList with | some ds => ∃ r, Con P f ds r ∧ preX P ops X0 rest (T.set d (.ofD r)) X C K | none => False
        | op => match aval P T X0 C d op with | some (c, y, e) => c ∧ preX P ops X0 rest (T.set d y) (newX X d e) (e.use ++ C) K | none => False) = runA P T X0 C d op fun a e => preX P ops X0 rest (T.set d a) (newX X d e) (e.use ++ C) K := by
  intro h
  split
  · simp [valOp] at h
  · unfold runA outk
    cases aval P T X0 C d _ with
    | none => rfl
    | some r => rfl
theorem px_val {op} (h : valOp op = true) : preX P ops X0 (⟨some d, op, t, ps, af, none⟩ :: rest) T X C K = runA P T X0 C d op fun a e => preX P ops X0 rest (T.set d a) (newX X d e) (e.use ++ C) K := by
  simp only [preX]
  exact px_val_aux h
theorem px_guard {op j want} : preX P ops X0 (⟨some d, op, t, ps, af, some (j, want)⟩ :: rest) T X C K =
    ifA (((ops[j]?).bind (·.dst)).bind (T[·]?)) fun a => ifA (asBoolA a) fun b => ifW b want (preX P ops X0 (⟨some d, op, t, ps, af, none⟩ :: rest) T X C K) (preX P ops X0 rest (T.set d .unk) X C K) := by
  simp only [preX]
  cases ((ops[j]?).bind (·.dst)).bind (T[·]?) with
  | none => rfl
  | some a =>
    cases a with
    | d x => cases x <;> rfl
    | _ => rfl

theorem outk_some {c a e} : outk (some (c, a, e)) k = (c ∧ k a e) := rfl
theorem outk_none : outk none k = False := rfl
theorem outk_yes {a} : outk (yes a) k = k a {} := by simp [yes, outk, ifA]
theorem outk_val {x} : outk (val x) k = k (.d x) {} := outk_yes
theorem outk_valIf {c x} : outk (valIf c x) k = (c ∧ k (.d x) {}) := rfl
theorem outk_bind {α : Type} {o : Option α} {f : α → Out} : outk (o.bind f) k = ifA o fun a => outk (f a) k := by cases o <;> rfl

theorem ra_move {x} : runA P T X C d (.move x) k = ifA (opnd T x) fun a => k a {} := by
  simp only [runA, aval, outk_bind, outk_yes]
theorem ra_pick {c x y} : runA P T X C d (.pick c x y) k = ifA (dnd T c) fun b => ifA (asBoolA (.d b)) fun b => ifW b true (ifA (opnd T x) fun a => k a {}) (ifA (opnd T y) fun a => k a {}) := by
  simp only [runA, aval]
  cases dnd T c with
  | none => rfl
  | some b =>
    cases b with
    | bool b =>
      cases b
      · simp only [outk_bind, outk_yes, ifA_some, asBoolA, ifW_ft]
      · simp only [outk_bind, outk_yes, ifA_some, asBoolA, ifW_tt]
    | _ => rfl
theorem ra_load {ty x} : runA P T X C d (.load ty x) k = ifA (opnd T x) fun a => outk (loadA P X ty a) k := by
  simp only [runA, aval, outk_bind]
def adrA (a : A) (o : Nat) : Option A :=
  match a with
  | .box k off => some (.box k (off + o))
  | .cell ls => some (.cell (ls.drop o))
  | _ => none
theorem ra_fieldAddr {sT x f} : runA P T X C d (.fieldAddr sT x f) k = ifA (opnd T x) fun a => ifA (fldOf P sT f) fun q => ifA (szOf P q.2) fun n => (n == 0) = false ∧ ifA (adrA a q.1) fun r => k r {} := by
  simp only [runA, aval]
  cases opnd T x with
  | none => rfl
  | some a =>
    cases fldOf P sT f with
    | none => cases a <;> rfl
    | some q =>
      obtain ⟨o, ft⟩ := q
      simp only [ifA_some]
      cases hs : szOf P ft with
      | none => cases a <;> simp [hs, outk, ifA]
      | some n =>
        cases n with
        | zero => cases a <;> simp [hs, outk, ifA]
        | succ n => cases a <;> simp [hs, outk_yes, outk_none, ifA, adrA]
theorem ra_nilCheck {x} : runA P T X C d (.nilCheck x) k = ifA (opnd T x) fun a => ifA (adrA a 0) fun r => k r {} := by
  simp only [runA, aval]
  cases opnd T x with
  | none => rfl
  | some a => cases a <;> simp [outk_yes, outk_none, ifA, adrA]
def nA : D → Option Int | .int _ n => some n | _ => none
def strA : D → Option ByteArray | .str s => some s | _ => none
/-- What an operand is, if it is no row. -/
def pickR (a : Option A) (q : Prop) (r : Nat → TypeId → Nat → Nat → Nat → Prop) : Prop := match a with | some (.row k e sz o n) => r k e sz o n | _ => q
def noRow (P : Program) (T : List A) (x : Operand) (q : Prop) (r : Nat → TypeId → Nat → Nat → Nat → Prop) : Prop := pickR (opnd T x) q r
@[congr] theorem noRow_congr {T T' : List A} {x : Operand} {q : Prop} {r : Nat → TypeId → Nat → Nat → Nat → Prop} (h : T = T') : noRow P T x q r = noRow P T' x q r := by rw [h]
@[congr] theorem pickR_congr {a a' : Option A} {q : Prop} {r : Nat → TypeId → Nat → Nat → Nat → Prop} (h : a = a') : pickR a q r = pickR a' q r := by rw [h]
theorem ra_indexAddr {ty x i} : runA P T X C d (.indexAddr ty x i) k = noRow P T x (ifA (V.elemOf P ty) fun e => ifA (szOf P e) fun sz => ifA (dnd T x) fun a => ifA (slA a) fun xs => ifA (dnd T i) fun b => ifA (nA b) fun n =>
    ((0 ≤ n ∧ n < xs.length) ∧ (xs.getD n.toNat default).cells.length = sz) ∧ k (.cell (xs.getD n.toNat default).cells) {})
    fun q _ sz' o m => ifA (V.elemOf P ty) fun e => ifA (szOf P e) fun sz => ifA (dnd T i) fun b => ifA (nA b) fun n => (sz == sz') = true ∧ (0 ≤ n ∧ n < (m : Int)) ∧ k (.box q (o + n.toNat * sz)) {} := by
  have old : outk (match (V.elemOf P ty).bind (szOf P), dnd T x, dnd T i with
      | some sz, some (.sl xs), some (.int _ n) => some ((0 ≤ n ∧ n < xs.length) ∧ (xs.getD n.toNat default).cells.length = sz, .cell (xs.getD n.toNat default).cells, {})
      | _, _, _ => none) k = ifA (V.elemOf P ty) fun e => ifA (szOf P e) fun sz => ifA (dnd T x) fun a => ifA (slA a) fun xs => ifA (dnd T i) fun b => ifA (nA b) fun n =>
    ((0 ≤ n ∧ n < xs.length) ∧ (xs.getD n.toNat default).cells.length = sz) ∧ k (.cell (xs.getD n.toNat default).cells) {} := by
    cases V.elemOf P ty with
    | none => rfl
    | some e =>
      simp only [Option.bind_some, ifA_some]
      cases szOf P e with
      | none => rfl
      | some sz =>
        cases dnd T x with
        | none => rfl
        | some a =>
          cases dnd T i with
          | none => cases a <;> rfl
          | some b => cases a <;> cases b <;> simp [outk, ifA, slA, nA]
  simp only [runA, aval]
  unfold noRow pickR rowOf
  cases ho : opnd T x with
  | none => exact old
  | some a =>
    cases a with
    | row q e' sz' o m =>
      simp only []
      cases V.elemOf P ty with
      | none => rfl
      | some e =>
        simp only [Option.bind_some, ifA_some]
        cases szOf P e with
        | none => rfl
        | some sz =>
          simp only [ifA_some]
          cases dnd T i with
          | none => rfl
          | some b =>
            cases b with
            | int kd n => by_cases hs : sz = sz' <;> simp [outk, ifA, nA, hs]
            | _ => rfl
    | _ => exact old
theorem ra_index {ty x i} : runA P T X C d (.index ty x i) k = (strOf P ty = true ∧ ifA (dnd T x) fun a => ifA (strA a) fun s => ifA (dnd T i) fun b => ifA (nA b) fun n =>
    (0 ≤ n ∧ n < s.size) ∧ k (.d (.int .u8 ((s.data.getD n.toNat 0).toNat : Int))) {}) := by
  simp only [runA, aval]
  cases strOf P ty with
  | false => simp [outk, ifA]
  | true =>
    cases dnd T x with
    | none => simp [outk, ifA]
    | some a =>
      cases dnd T i with
      | none => cases a <;> simp [outk, ifA, strA]
      | some b => cases a <;> cases b <;> simp [outk, ifA, strA, nA, valIf]
theorem ra_binOp {op ty x y ty'} : runA P T X C d (.binOp op ty x y ty') k = ifA (dnd T x) fun a => ifA (dnd T y) fun b => ifA (binA P op ty a b) fun r => r.1 ∧ k (.d r.2) {} := by
  simp only [runA, aval]
  cases dnd T x with
  | none => rfl
  | some a =>
    cases dnd T y with
    | none => rfl
    | some b => simp only [outk_bind, ifA_some, outk_valIf]
theorem ra_unOp {op ty x} : runA P T X C d (.unOp op ty x) k = ifA (dnd T x) fun a => ifA (unD op a) fun r => k (.d r) {} := by
  simp only [runA, aval, outk_bind, outk_val]
theorem ra_convert {sT ty x} : runA P T X C d (.convert sT ty x) k = ((P.underlying sT).isSome = true ∧ ifA (V.intOf P ty) fun kd => ifA (dnd T x) fun a => ifA (nA a) fun n => k (.d (.int kd (kd.wrap n))) {}) := by
  simp only [runA, aval]
  cases V.intOf P ty with
  | none => simp [outk, ifA]
  | some kd =>
    cases dnd T x with
    | none => simp [outk, ifA]
    | some a => cases hs : (P.underlying sT).isSome <;> cases a <;> simp [outk, ifA, nA, hs, val, yes]
def tupA : D → Option (List D) | .tup xs => some xs | _ => none
def aggA : D → Option (List D) | .agg xs => some xs | _ => none
theorem ra_extract {x i} : runA P T X C d (.extract x i) k = ifA (dlf T x) fun a => ifA (tupA a) fun ls => ifA (ls[i]?) fun y => k (.ofD y) {} := by
  simp only [runA, aval]
  cases dlf T x with
  | none => rfl
  | some a =>
    cases a with
    | tup ls => simp only [outk_bind, outk_yes, ifA_some, tupA]
    | _ => rfl
theorem ra_field {sT x f} : runA P T X C d (.field sT x f) k = ifA (dlf T x) fun a => ifA (aggA a) fun ls => ifA (fldOf P sT f) fun q => ifA (aggOf P q.2) fun ag => if ag = true then ifA (szOf P q.2) fun sz => q.1 + sz ≤ ls.length ∧ k (.d (.agg ((ls.drop q.1).take sz))) {} else ifA (ls[q.1]?) fun y => k (.ofD y) {} := by
  simp only [runA, aval]
  cases dlf T x with
  | none => rfl
  | some a =>
    cases a with
    | agg ls =>
      cases fldOf P sT f with
      | none => rfl
      | some q =>
        obtain ⟨o, ft⟩ := q
        simp only [ifA_some, aggA]
        cases ha : aggOf P ft with
        | none => simp [ha, outk, ifA]
        | some b =>
          cases b
          · simp only [ha, outk_bind, outk_yes, ifA_some, Bool.false_eq_true, if_false]
          · cases hs : szOf P ft <;> simp [ha, hs, outk, ifA, valIf]
    | _ => rfl
/-- the fields of a struct type, where their sizes are known -/
def strk (P : Program) (t : TypeId) : Bool := match P.underlying t with | some (.struct fs) => (fs.toList.mapM (fun f => (szOf P f.type).map fun n => (f.offset, n))).isSome | _ => false
theorem ra_build {ty parts} : runA P T X C d (.build ty parts) k = (strk P ty = true ∧ ifA (zeroD P ty) fun z => ifA (fillD P ty T parts.toList z) fun ls => ls.all D.leaf = true ∧ k (.d (.agg ls)) {}) := by
  simp only [runA, aval, strk]
  cases hu : P.underlying ty with
  | none => simp [outk, ifA]
  | some u =>
    cases u with
    | struct fs =>
      simp only []
      split
      · rename_i h
        simp only [h, true_and, outk_bind]
        cases zeroD P ty with
        | none => rfl
        | some z =>
          simp only [ifA_some]
          cases fillD P ty T parts.toList z with
          | none => rfl
          | some ls => cases hl : ls.all D.leaf <;> simp [outk, ifA, hl, val, yes]
      · rename_i h; simp [h, outk, ifA]
    | _ => simp [outk, ifA]
def lenA (P : Program) (t : TypeId) : D → Option Int
  | .sl xs => if (V.elemOf P t).isSome then some (xs.length : Int) else none
  | .str s => if strOf P t then some (s.size : Int) else none
  | _ => none
theorem ra_len {x ty} : runA P T X C d (.call ⟨.builtin .len, #[x], #[ty]⟩) k = noRow P T x (ifA (dnd T x) fun a => ifA (lenA P ty a) fun n => k (.d (.int .i64 n)) {}) fun _ _ _ _ m => (V.elemOf P ty).isSome = true ∧ k (.d (.int .i64 (m : Int))) {} := by
  simp only [runA, aval, List.map_cons, List.map_nil]
  unfold noRow pickR rowOf
  have old : outk (match [dnd T x], [ty] with
        | [some (.sl xs)], [t] => if (V.elemOf P t).isSome then val (.int .i64 (xs.length : Int)) else none
        | [some (.str s)], [t] => if strOf P t then val (.int .i64 (s.size : Int)) else none
        | _, _ => none) k = ifA (dnd T x) fun a => ifA (lenA P ty a) fun n => k (.d (.int .i64 n)) {} := by
    cases dnd T x with
    | none => rfl
    | some a =>
      cases a with
      | sl xs => cases h : (V.elemOf P ty).isSome <;> simp [outk, ifA, lenA, h, val, yes]
      | str s => cases h : strOf P ty <;> simp [outk, ifA, lenA, h, val, yes]
      | _ => rfl
  cases ho : opnd T x with
  | none => exact old
  | some a =>
    cases a with
    | row q e sz o m => cases h : (V.elemOf P ty).isSome <;> simp [outk, ifA, h, val, yes]
    | _ => exact old
theorem ra_max {x y ats} : runA P T X C d (.call ⟨.builtin .max, #[x, y], ats⟩) k = ifA (dnd T x) fun a => ifA (dnd T y) fun b => ifA (nA b) fun n => match a with | .int kd m => k (.d (.int kd (if n > m then n else m))) {} | _ => False := by
  simp only [runA, aval, List.map_cons, List.map_nil]
  cases dnd T x with
  | none => rfl
  | some a =>
    cases dnd T y with
    | none => cases a <;> rfl
    | some b => cases a <;> cases b <;> simp [outk, ifA, nA, val, yes]
theorem ra_min {x y ats} : runA P T X C d (.call ⟨.builtin .min, #[x, y], ats⟩) k = ifA (dnd T x) fun a => ifA (dnd T y) fun b => ifA (nA b) fun n => match a with | .int kd m => k (.d (.int kd (if n < m then n else m))) {} | _ => False := by
  simp only [runA, aval, List.map_cons, List.map_nil]
  cases dnd T x with
  | none => rfl
  | some a =>
    cases dnd T y with
    | none => cases a <;> rfl
    | some b => cases a <;> cases b <;> simp [outk, ifA, nA, val, yes]
def cutA (P : Program) (t : TypeId) (lo : Option Int) (hi : Int → Option Int) : D → Out
  | .str s => if strOf P t then match lo, hi s.size with
      | some l, some h => valIf (0 ≤ l ∧ l ≤ h ∧ h ≤ s.size) (.str (s.extract l.toNat h.toNat))
      | _, _ => none else none
  | .sl xs => match (V.elemOf P t).bind (szOf P), lo, hi xs.length with
      | some sz, some l, some h => valIf ((0 ≤ l ∧ l ≤ h ∧ h ≤ xs.length) ∧ ∀ x ∈ xs, x.cells.length = sz) (.sl ((xs.take h.toNat).drop l.toNat))
      | _, _, _ => none
  | _ => none
theorem ra_slice {ty x lo hi} : runA P T X C d (.slice ty x lo hi none) k = noRow P T x (ifA (dnd T x) fun a => outk (cutA P ty (bnd T 0 lo) (fun n => bnd T n hi) a) k) fun q e sz' o m =>
    ifA (V.elemOf P ty) fun el => ifA (szOf P el) fun sz => ifA (bnd T 0 lo) fun l => ifA (bnd T m hi) fun h => (sz == sz') = true ∧ ((0 ≤ l ∧ l ≤ h ∧ h ≤ m) ∧ (l = 0 ∨ l < m)) ∧ k (.row q e sz (o + l.toNat * sz) (h.toNat - l.toNat)) {} := by
  have old : outk (match dnd T x with
    | some (.str s) => if strOf P ty then match bnd T 0 lo, bnd T s.size hi with
      | some l, some h => valIf (0 ≤ l ∧ l ≤ h ∧ h ≤ s.size) (.str (s.extract l.toNat h.toNat))
      | _, _ => none else none
    | some (.sl xs) => match (V.elemOf P ty).bind (szOf P), bnd T 0 lo, bnd T xs.length hi with
      | some sz, some l, some h => valIf ((0 ≤ l ∧ l ≤ h ∧ h ≤ xs.length) ∧ ∀ x ∈ xs, x.cells.length = sz) (.sl ((xs.take h.toNat).drop l.toNat))
      | _, _, _ => none
    | _ => none) k = ifA (dnd T x) fun a => outk (cutA P ty (bnd T 0 lo) (fun n => bnd T n hi) a) k := by
    cases dnd T x with
    | none => rfl
    | some a => cases a <;> rfl
  simp only [runA, aval]
  unfold noRow pickR rowOf
  cases ho : opnd T x with
  | none => exact old
  | some a =>
    cases a with
    | row q e sz' o m =>
      simp only []
      cases V.elemOf P ty with
      | none => rfl
      | some el =>
        simp only [Option.bind_some, ifA_some]
        cases szOf P el with
        | none => rfl
        | some sz =>
          simp only [ifA_some]
          cases bnd T 0 lo with
          | none => rfl
          | some l =>
            simp only [ifA_some]
            cases bnd T m hi with
            | none => rfl
            | some h => by_cases hs : sz = sz' <;> simp [outk, ifA, hs]
    | _ => exact old
theorem ra_alloc {ty} : runA P T X C d (.alloc ty) k = (Nat.blt d 1000 = true ∧ ifA (zeroOf P ty) fun ls => k (.box d 0) { new := some ls }) := by
  simp only [runA, aval, outk_bind]
  have hb : (Nat.blt d 1000 = true) = (d < 1000) := propext ⟨fun h => by simpa using h, fun h => by simpa using h⟩
  rw [hb]
  cases zeroOf P ty with
  | none => simp [ifA]
  | some ls => by_cases h : d < 1000 <;> simp [outk, ifA, h]
theorem ra_box {ty x} : runA P T X C d (.box ty x) k = (Nat.blt d 1000 = true ∧ ifA (dlf T x) fun a => a.cells.all D.leaf = true ∧ k (.box d 0) { new := some (a.cells.map .ofD) }) := by
  simp only [runA, aval, outk_bind]
  have hb : (Nat.blt d 1000 = true) = (d < 1000) := propext ⟨fun h => by simpa using h, fun h => by simpa using h⟩
  rw [hb]
  cases dlf T x with
  | none => simp [ifA]
  | some a => simp only [ifA_some]; by_cases hd : d < 1000 <;> cases h : a.cells.all D.leaf <;> simp [outk, ifA, h, hd]
theorem ra_make {ty x y} : runA P T X C d (.makeSlice ty x y) k = (Nat.blt d 1000 = true ∧ ifA (V.elemOf P ty) fun e => ifA (dnd T x) fun a => ifA (nA a) fun n => ifA (dnd T y) fun b => ifA (nA b) fun m => ifA (szOf P e) fun sz => ifA (bytesOf P e) fun by_ => ifA (zeroOf P e) fun zl => (zl.length == sz) = true ∧
    (0 ≤ n ∧ m = n ∧ (by_ : Int) * n ≤ 281474976710656 ∧ n ≤ 9223372036854775807) ∧ k (.row d e sz 0 n.toNat) { new := some (List.replicate n.toNat zl).flatten }) := by
  have hb : (Nat.blt d 1000 = true) = (d < 1000) := propext ⟨fun h => by simpa using h, fun h => by simpa using h⟩
  rw [hb]
  simp only [runA, aval]
  cases V.elemOf P ty with
  | none => simp [outk, ifA]
  | some e =>
    cases dnd T x with
    | none => simp [outk, ifA]
    | some a =>
      cases dnd T y with
      | none => cases a <;> simp [outk, ifA, nA]
      | some b =>
        cases a with
        | int k1 n =>
          cases b with
          | int k2 m =>
            simp only [ifA_some, nA]
            cases szOf P e with
            | none => simp [outk, ifA]
            | some sz =>
              cases bytesOf P e with
              | none => simp [outk, ifA]
              | some by_ =>
                cases zeroOf P e with
                | none => simp [outk, ifA]
                | some zl => by_cases h : d < 1000 <;> by_cases h2 : zl.length = sz <;> simp [outk, ifA, h, h2]
          | _ => simp [outk, ifA, nA]
        | _ => simp [outk, ifA, nA]
theorem ra_buildSlice {ty n parts} : runA P T X C d (.buildSlice ty n parts) k = ifA (V.elemOf P ty) fun e => ifA (szOf P e) fun sz => ifA (partsD T 0 parts.toList) fun xs =>
    ((xs.length == n) = true ∧ xs.all (fun x => x.cells.all D.leaf && x.cells.length == sz) = true ∧ Nat.ble (n * sz) 16777216 = true ∧ (sz == 0) = false ∧ (zeroOf P e).isSome = true) ∧ k (.grow e sz xs) {} := by
  simp only [runA, aval]
  cases he : V.elemOf P ty with
  | none => rfl
  | some e =>
    simp only [Option.bind_some, ifA_some]
    cases szOf P e with
    | none => rfl
    | some sz =>
      cases partsD T 0 parts.toList with
      | none => rfl
      | some xs =>
        simp only [ifA_some]
        have hz : (sz == 0) = false ↔ 0 < sz := by simp; omega
        split
        · rename_i h
          simp only [outk, ifA]
          obtain ⟨g1, g2, g3, g4, g5⟩ := h
          simp only [eq_iff_iff, true_and]
          exact ⟨fun hk => ⟨⟨by simpa using g1, g2, Nat.ble_eq_true_of_le (by omega), hz.2 g4, g5⟩, hk⟩, fun hk => hk.2⟩
        · rename_i h
          simp only [outk, ifA]
          symm; simp only [eq_iff_iff, iff_false]
          rintro ⟨⟨h1, h2, h3, h4, h5⟩, _⟩
          exact h ⟨by simpa using h1, h2, by have := Nat.le_of_ble_eq_true h3; omega, hz.1 h4, h5⟩
theorem ra_append {x y ty ty'} : runA P T X C d (.call ⟨.builtin .append, #[x, y], #[ty, ty']⟩) k = ifA (V.elemOf P ty) fun e => ifA (szOf P e) fun sz => ifA (bytesOf P e) fun by_ => ifA (opnd T x) fun a => ifA (baseA C e sz a) fun q => ifA (dnd T y) fun b => ifA (slA b) fun ys =>
    ((ty == ty') = true ∧ (sz == 0) = false ∧ ((zeroOf P e).filter fun l => l.length == sz).isSome = true) ∧ ((q.1.length + ys.length) * by_ ≤ 140737488355328 ∧ (q.1.length + ys.length) ≤ maxLen ∧ ∀ y ∈ ys, y.cells.length = sz) ∧ k (.grow e sz (q.1 ++ ys)) { use := q.2 } := by
  simp only [runA, aval]
  cases he : V.elemOf P ty with
  | none => rfl
  | some e =>
    simp only [ifA_some]
    cases hs : szOf P e with
    | none => simp [outk, ifA, hs]
    | some sz =>
      cases hb : bytesOf P e with
      | none => cases sz <;> simp [outk, ifA, hs, hb]
      | some by_ =>
        cases sz with
        | zero =>
          simp only [hs, hb, ifA_some]
          show False = _
          symm
          simp only [eq_iff_iff, iff_false]
          intro h
          cases h1 : opnd T x with
          | none => rw [h1] at h; exact h
          | some a =>
            rw [h1] at h; simp only [ifA_some] at h
            cases h2 : baseA C e 0 a with
            | none => rw [h2] at h; exact h
            | some q =>
              rw [h2] at h; simp only [ifA_some] at h
              cases h3 : dnd T y with
              | none => rw [h3] at h; exact h
              | some b =>
                rw [h3] at h; simp only [ifA_some] at h
                cases h4 : slA b with
                | none => rw [h4] at h; exact h
                | some ys => rw [h4] at h; simp [ifA_some] at h
        | succ sz =>
          simp only [hs, hb, ifA_some]
          cases opnd T x with
          | none => rfl
          | some a =>
            simp only [Option.bind_some, ifA_some]
            cases baseA C e (sz + 1) a with
            | none => rfl
            | some q =>
              cases dnd T y with
              | none => rfl
              | some b =>
                cases b with
                | sl ys =>
                  simp only [ifA_some, slA]
                  have hbq : ∀ l : List A, (decide (l.length = sz + 1)) = (l.length == sz + 1) := fun l => rfl
                  split
                  · rename_i h
                    simp only [outk, ifA]
                    have h2 := h.2
                    simp only [hbq] at h2
                    simp only [h.1, h2, beq_self_eq_true, true_and]
                    simp
                  · rename_i h
                    simp only [outk, ifA]
                    symm
                    simp only [eq_iff_iff, iff_false]
                    rintro ⟨⟨h1, _, h2⟩, _⟩
                    exact h ⟨by simpa using h1, by simp only [hbq]; exact h2⟩
                | _ => rfl
end

end Go.Proofs.Ytidnkaopndmigaa.V
end
section
set_option linter.unusedSimpArgs false
set_option linter.unusedVariables false
/- The rewrite rules of a walk. -/
namespace Go.Proofs.Ytidnkaopndmigaa.V
open Go.RowKit

theorem lend_d {l x} : lend l (.d x) = .d x := rfl
theorem lend_nil {l} : lend l .nil = .nil := rfl
theorem lend_grow {l e sz xs} : lend l (.grow e sz xs) = .bor l e sz xs := rfl
theorem lend_bor {l l' e sz xs} : lend l (.bor l' e sz xs) = .bor l' e sz xs := rfl
theorem lend_box {l k o} : lend l (.box k o) = .box k o := rfl
theorem lend_cell {l ls} : lend l (.cell ls) = .cell ls := rfl
theorem lend_unk {l} : lend l .unk = .unk := rfl
theorem toD_d {x} : toD (.d x) = some x := rfl
theorem toD_nil : toD .nil = some .nil := rfl
theorem toD_grow {e sz xs} : toD (.grow e sz xs) = some (.sl xs) := rfl
theorem toD_bor {l e sz xs} : toD (.bor l e sz xs) = some (.sl xs) := rfl
theorem opnd_tmp {T t} : opnd T (.tmp t) = (T[t]?).map (lend (.t t)) := rfl
theorem opnd_int {T k n} : opnd T (.const (.int k n)) = some (.d (.int k n)) := rfl
theorem opnd_bool {T b} : opnd T (.const (.bool b)) = some (.d (.bool b)) := rfl
theorem opnd_str {T s} : opnd T (.const (.string s)) = some (.d (.str s)) := rfl
theorem opnd_nil {T} : opnd T (.const (.slice none 0 0)) = some .nil := rfl
theorem n1_int {k n} : D.n1 (.int k n) = .int k n := rfl
theorem n1_bool {b} : D.n1 (.bool b) = .bool b := rfl
theorem n1_str {s} : D.n1 (.str s) = .str s := rfl
theorem n1_sl {xs} : D.n1 (.sl xs) = .sl xs := rfl
theorem n1_nil : D.n1 .nil = .sl [] := rfl
theorem n1_tup {xs} : D.n1 (.tup xs) = .tup xs := rfl
theorem n1_agg {ls} : D.n1 (.agg ls) = .agg (ls.map D.n0) := rfl
theorem n0_int {k n} : D.n0 (.int k n) = .int k n := rfl
theorem n0_bool {b} : D.n0 (.bool b) = .bool b := rfl
theorem n0_str {s} : D.n0 (.str s) = .str s := rfl
theorem n0_sl {xs} : D.n0 (.sl xs) = .sl xs := rfl
theorem n0_nil : D.n0 .nil = .sl [] := rfl
theorem ofD_int {k n} : A.ofD (.int k n) = .d (.int k n) := rfl
theorem ofD_bool {b} : A.ofD (.bool b) = .d (.bool b) := rfl
theorem ofD_str {s} : A.ofD (.str s) = .d (.str s) := rfl
theorem ofD_sl {xs} : A.ofD (.sl xs) = .d (.sl xs) := rfl
theorem ofD_agg {xs} : A.ofD (.agg xs) = .d (.agg xs) := rfl
theorem ofD_tup {xs} : A.ofD (.tup xs) = .d (.tup xs) := rfl
theorem ofD_nil : A.ofD .nil = .nil := rfl
theorem cells_agg {ls} : D.cells (.agg ls) = ls := rfl
theorem cells_int {k n} : D.cells (.int k n) = [.int k n] := rfl
theorem cells_bool {b} : D.cells (.bool b) = [.bool b] := rfl
theorem cells_str {s} : D.cells (.str s) = [.str s] := rfl
theorem cells_sl {xs} : D.cells (.sl xs) = [.sl xs] := rfl
theorem cells_nil : D.cells .nil = [.nil] := rfl
theorem leaf_int {k n} : D.leaf (.int k n) = true := rfl
theorem leaf_bool {b} : D.leaf (.bool b) = true := rfl
theorem leaf_str {s} : D.leaf (.str s) = true := rfl
theorem leaf_sl {xs} : D.leaf (.sl xs) = true := rfl
theorem leaf_nil : D.leaf .nil = true := rfl
theorem clAt_d {ds ks l x} : clAt ds ks l (.d x) = .d x := rfl
theorem clAt_nil {ds ks l} : clAt ds ks l .nil = .nil := rfl
theorem clAt_cell {ds ks l ls} : clAt ds ks l (.cell ls) = .cell ls := rfl
theorem clAt_unk {ds ks l} : clAt ds ks l .unk = .unk := rfl
theorem clAt_box {ds ks l k o} : clAt ds ks l (.box k o) = if ks.contains k = true then .unk else .box k o := rfl
theorem clAt_grow {ds ks l e sz xs} : clAt ds ks l (.grow e sz xs) = if gone ds ks l = true then .d (.sl xs) else .grow e sz xs := rfl
theorem clAt_bor {ds ks l l' e sz xs} : clAt ds ks l (.bor l' e sz xs) = if gone ds ks l' = true then .d (.sl xs) else .bor l' e sz xs := rfl
theorem clT_nil {ds ks n} : clT ds ks n [] = [] := rfl
theorem clT_cons {ds ks n a T} : clT ds ks n (a :: T) = clAt ds ks (.t n) a :: clT ds ks (n + 1) T := rfl
theorem clL_nil {ds ks k n} : clL ds ks k n [] = [] := rfl
theorem clL_cons {ds ks k n a T} : clL ds ks k n (a :: T) = clAt ds ks (.l k n) a :: clL ds ks k (n + 1) T := rfl
theorem clX_nil {ds ks} : clX ds ks [] = [] := rfl
theorem clX_cons {ds ks k ls X} : clX ds ks ((k, ls) :: X) = if ks.contains k = true then clX ds ks X else (k, clL ds ks k 0 ls) :: clX ds ks X := rfl
theorem clean_mk {T X C ds ks} : S.clean ⟨T, X, C⟩ ds ks = ⟨clT ds ks 0 T, clX ds ks X, C.filter fun l => !gone ds ks l⟩ := rfl
theorem gone_t {ds ks n} : gone ds ks (.t n) = ds.contains (.t n) := by simp [gone]
theorem gone_l {ds ks k j} : gone ds ks (.l k j) = (ds.contains (.l k j) || ks.contains k) := rfl
theorem beq_tt {a b} : (Loc.t a == Loc.t b) = (a == b) := by simp [BEq.beq]
theorem beq_tl {a b c} : (Loc.t a == Loc.l b c) = false := by simp [BEq.beq]
theorem beq_lt {a b c} : (Loc.l b c == Loc.t a) = false := by simp [BEq.beq]
theorem beq_ll {a b c d} : (Loc.l a b == Loc.l c d) = (a == c && b == d) := by simp [BEq.beq]
theorem lk_nil {k} : lk [] k = none := rfl
theorem lk_cons {k k' ls X} : lk ((k', ls) :: X) k = if (k == k') = true then some ls else lk X k := by simp only [lk, beq_iff_eq]
theorem updX_nil {k ls} : updX k ls [] = [] := rfl
theorem updX_cons {k k' ls l' X} : updX k ls ((k', l') :: X) = if (k == k') = true then (k', ls) :: X else (k', l') :: updX k ls X := by simp only [updX, beq_iff_eq]
theorem asg_tmp {s d t} : asg s d (.tmp t) = match s.T[t]? with
    | some (.grow e sz xs) => if s.C.contains (.t t) || t == d then some (s.set d (.d (.sl xs))) else some { (s.clean [.t d] []).set d (.grow e sz xs) with C := .t t :: (s.clean [.t d] []).C }
    | some a => some (s.set d (plainA a))
    | none => none := rfl
theorem asg_const {s d v} : asg s d (.const v) = (aOfV v).map (s.set d) := rfl
theorem set_mk {T X C d x} : S.set ⟨T, X, C⟩ d x = ⟨T.set d x, X, C⟩ := rfl
theorem put_mk {T X C d r} : putO ⟨T, X, C⟩ (some d) r = ⟨T.set d (.ofD r), X, C⟩ := rfl
theorem putO_none {s r} : putO s none r = s := rfl
theorem plain_d {x} : plainA (.d x) = .d x := rfl
theorem plain_nil : plainA .nil = .nil := rfl
theorem plain_bor {l e sz xs} : plainA (.bor l e sz xs) = .d (.sl xs) := rfl
theorem plain_box {k o} : plainA (.box k o) = .box k o := rfl
theorem plain_unk : plainA .unk = .unk := rfl
theorem plain_cell {ls} : plainA (.cell ls) = .cell ls := rfl
theorem load_cell {P X t ls} : loadA P X t (.cell ls) = match aggOf P t, szOf P t with
    | some true, some sz => some (sz ≤ ls.length, .d (.agg (ls.take sz)), {})
    | some false, _ => match ls with | x :: _ => yes (.ofD x) | [] => none
    | _, _ => none := rfl
theorem load_box {P X t k off} : loadA P X t (.box k off) = match lk X k, aggOf P t, szOf P t with
    | some ls, some true, some sz => if off + sz ≤ ls.length then (((ls.drop off).take sz).mapM toD).bind fun ds => if ds.all D.leaf then val (.agg ds) else none else none
    | some ls, some false, _ => (ls[off]?).bind fun a => yes (lend (.l k off) a)
    | _, _, _ => none := rfl
theorem asBool_b {b} : asBoolA (.d (.bool b)) = some b := rfl
theorem adr_box {k off o} : adrA (.box k off) o = some (.box k (off + o)) := rfl
theorem adr_cell {ls o} : adrA (.cell ls) o = some (.cell (ls.drop o)) := rfl
theorem slA_sl {xs} : slA (.sl xs) = some xs := rfl
theorem nA_int {k n} : nA (.int k n) = some n := rfl
theorem strA_str {s} : strA (.str s) = some s := rfl
theorem tupA_tup {s} : tupA (.tup s) = some s := rfl
theorem aggA_agg {s} : aggA (.agg s) = some s := rfl
theorem base_nil {C e sz} : baseA C e sz .nil = some ([], []) := rfl
theorem base_bor {C l e sz e' sz' xs} : baseA C e sz (.bor l e' sz' xs) = if (C.contains l || !(e' == e) || !(sz' == sz)) = true then none else some (xs, [l]) := by
  simp only [baseA, List.contains_eq_mem, Bool.or_eq_true, decide_eq_true_eq, Bool.not_eq_true', beq_eq_false_iff_ne, or_assoc]
theorem argsD_nil {T} : argsD T [] = some [] := rfl
theorem argsD_cons {T x xs} : argsD T (x :: xs) = (dnd T x).bind fun d => (argsD T xs).map fun l => d :: l := by
  simp only [argsD]; cases dnd T x <;> cases argsD T xs <;> rfl
theorem partsD_nil {T i} : partsD T i [] = some [] := rfl
theorem partsD_cons {T i j x xs} : partsD T i ((j, x) :: xs) = if (i == j) = true then (dnd T x).bind fun d => (partsD T (i + 1) xs).map fun l => d :: l else none := by
  simp only [partsD, beq_iff_eq]; split
  · cases dnd T x <;> cases partsD T (i + 1) xs <;> rfl
  · rfl
theorem bnd_none {T d} : bnd T d none = some d := rfl
theorem bnd_some {T d x} : bnd T d (some x) = (opnd T x).bind fun a => match a with | .d (.int _ n) => some n | _ => none := by
  simp only [bnd]; cases opnd T x with
  | none => rfl
  | some a => cases a with
    | d x => cases x <;> rfl
    | _ => rfl
theorem newX_none {X d use} : newX X d ⟨use, none⟩ = X := rfl
theorem newX_some {X d use ls} : newX X d ⟨use, some ls⟩ = (d, ls) :: X := rfl
theorem eff_use {u n} : Eff.use ⟨u, n⟩ = u := rfl
theorem res1_tmp {P s t} : res1 P s (.tmp t) = ((s.T[t]?).bind toD).map D.n1 := rfl
def outD : Out → Option D
  | some (_, a, _) => (toD a).map D.n1
  | none => none
theorem outD_val {x} : outD (val x) = some x.n1 := rfl
theorem outD_yes {a} : outD (yes a) = (toD a).map D.n1 := rfl
theorem outD_bind {α : Type} {o : Option α} {f : α → Out} : outD (o.bind f) = o.bind fun a => outD (f a) := by cases o <;> rfl
theorem res1_cell {P s t ty} : res1 P s (.cell t ty) = match s.T[t]? with
    | some (.box k off) => outD (loadA P s.X ty (.box k off))
    | _ => none := rfl
theorem bin_add {P t k a b} : binA P .add t (.int k a) (.int k b) = some (True, .int k (k.wrap (a + b))) := by simp [binA, binD]
theorem bin_sub {P t k a b} : binA P .sub t (.int k a) (.int k b) = some (True, .int k (k.wrap (a - b))) := by simp [binA, binD]
theorem bin_mul {P t k a b} : binA P .mul t (.int k a) (.int k b) = some (True, .int k (k.wrap (a * b))) := by simp [binA, binD]
theorem bin_quo {P t k a b} : binA P .quo t (.int k a) (.int k b) = some (b ≠ 0, .int k (k.wrap (a.tdiv b))) := by simp [binA, binD]
theorem bin_rem {P t k a b} : binA P .rem t (.int k a) (.int k b) = some (b ≠ 0, .int k (a.tmod b)) := by simp [binA, binD]
theorem bin_eql {P t k a b} : binA P .eql t (.int k a) (.int k b) = some (True, .bool (a == b)) := by simp [binA, binD]
theorem bin_neq {P t k a b} : binA P .neq t (.int k a) (.int k b) = some (True, .bool (!(a == b))) := by simp [binA, binD]; rfl
theorem bin_lss {P t k a b} : binA P .lss t (.int k a) (.int k b) = some (True, .bool (decide (a < b))) := by simp [binA, binD]
theorem bin_leq {P t k a b} : binA P .leq t (.int k a) (.int k b) = some (True, .bool (decide (a ≤ b))) := by simp [binA, binD]
theorem bin_gtr {P t k a b} : binA P .gtr t (.int k a) (.int k b) = some (True, .bool (decide (b < a))) := by simp [binA, binD]
theorem bin_geq {P t k a b} : binA P .geq t (.int k a) (.int k b) = some (True, .bool (decide (b ≤ a))) := by simp [binA, binD]
theorem str_eq (a b : ByteArray) : (a.toList == b.toList) = decide (a = b) := by
  rw [ByteArray.toList_eq, ByteArray.toList_eq, Bool.eq_iff_iff]
  simp only [beq_iff_eq, decide_eq_true_eq]
  constructor
  · intro h; obtain ⟨⟨x⟩⟩ := a; obtain ⟨⟨y⟩⟩ := b; simp at h; subst h; rfl
  · intro h; rw [h]
theorem bin_seql {P t a b} : binA P .eql t (.str a) (.str b) = some (True, .bool (decide (a = b))) := by simp only [binA, binD, str_eq]
theorem bin_sneq {P t a b} : binA P .neq t (.str a) (.str b) = some (True, .bool (!decide (a = b))) := by simp only [binA, binD, str_eq]
theorem bin_sadd {P t a b} : binA P .add t (.str a) (.str b) = some (((a.size + b.size : Nat) : Int) ≤ IntKind.i64.max, .str (a ++ b)) := rfl
theorem bin_beql {P t a b} (h : boolOf P t = true) : binA P .eql t (.bool a) (.bool b) = some (True, .bool (a == b)) := by simp [binA, binD, h]
theorem bin_bneq {P t a b} (h : boolOf P t = true) : binA P .neq t (.bool a) (.bool b) = some (True, .bool (!(a == b))) := by simp [binA, binD, h]
theorem un_not {b} : unD .not (.bool b) = some (.bool !b) := rfl
theorem un_neg {k n} : unD .neg (.int k n) = some (.int k (k.wrap (0 - n))) := rfl
theorem setUnk_nil {T} : setUnk T [] = T := rfl
theorem setUnk_some {T d op t ps af g os} : setUnk T (⟨some d, op, t, ps, af, g⟩ :: os) = setUnk (T.set d .unk) os := rfl
theorem rows_nil : rowsOf [] = [] := rfl
theorem rows_cons {d op t ps af g os} : rowsOf (⟨some d, op, t, ps, af, g⟩ :: os) = if needRow op = true then .t d :: rowsOf os else rowsOf os := by
  simp only [rowsOf, List.filterMap_cons]; cases needRow op <;> rfl
theorem boxes_nil : boxesOf [] = [] := rfl
theorem boxes_cons {d op t ps af g os} : boxesOf (⟨some d, op, t, ps, af, g⟩ :: os) = if needBox op = true then d :: boxesOf os else boxesOf os := by
  simp only [boxesOf, List.filterMap_cons]; cases needBox op <;> rfl
theorem drawL_eq {P l n s K} : drawL P l n s K = from_ ⟨setUnk (clT (rowsOf (l.take n)) (boxesOf (l.take n)) 0 s.T) (l.take n), clX (rowsOf (l.take n)) (boxesOf (l.take n)) s.X, s.C.filter fun q => !gone (rowsOf (l.take n)) (boxesOf (l.take n)) q⟩
    fun T X C => preX P l.toArray X (l.take n) T X C fun s' => seqx P l.toArray (l.drop n) s' K := rfl
theorem draw_mk {P ops n T X C K} : drawX P ops n ⟨T, X, C⟩ K = from_ ⟨setUnk (clT (rowsOf (ops.toList.take n)) (boxesOf (ops.toList.take n)) 0 T) (ops.toList.take n), clX (rowsOf (ops.toList.take n)) (boxesOf (ops.toList.take n)) X, C.filter fun l => !gone (rowsOf (ops.toList.take n)) (boxesOf (ops.toList.take n)) l⟩
    fun T X C => preX P ops X (ops.toList.take n) T X C fun s' => seqx P ops (ops.toList.drop n) s' K := rfl

theorem noRow_eq {P T x q r} : noRow P T x q r = pickR (opnd T x) q r := rfl
theorem pick_none {q r} : pickR none q r = q := rfl
theorem pick_d {q r x} : pickR (some (.d x)) q r = q := rfl
theorem pick_nil {q r} : pickR (some .nil) q r = q := rfl
theorem pick_grow {q r e sz xs} : pickR (some (.grow e sz xs)) q r = q := rfl
theorem pick_bor {q r l e sz xs} : pickR (some (.bor l e sz xs)) q r = q := rfl
theorem pick_unk {q r} : pickR (some .unk) q r = q := rfl
theorem pick_row {q r k e sz o n} : pickR (some (.row k e sz o n)) q r = r k e sz o n := rfl
theorem appM_none {b r n q} : appM none b r n q = q := rfl
theorem appM_d {b r n q x} : appM (some (.d x)) b r n q = q := rfl
theorem appM_nil {b r n q} : appM (some .nil) b r n q = appN b n q := rfl
theorem appM_grow {b r n q e sz xs} : appM (some (.grow e sz xs)) b r n q = q := rfl
theorem appM_bor {b r n q l e sz xs} : appM (some (.bor l e sz xs)) b r n q = q := rfl
theorem appM_unk {b r n q} : appM (some .unk) b r n q = q := rfl
theorem appM_row {b r n q k e sz o m} : appM (some (.row k e sz o m)) b r n q = r k e sz o m := rfl
theorem appN_want {n q} : appN (some .want) n q = n := rfl
theorem appN_unk {n q} : appN (some .unk) n q = q := rfl
theorem appN_d {n q x} : appN (some (.d x)) n q = q := rfl
theorem appN_nil {n q} : appN (some .nil) n q = q := rfl
theorem appN_grow {n q e sz xs} : appN (some (.grow e sz xs)) n q = q := rfl
theorem appN_bor {n q l e sz xs} : appN (some (.bor l e sz xs)) n q = q := rfl
theorem appN_row {n q k e sz o m} : appN (some (.row k e sz o m)) n q = q := rfl
theorem lend_row {l k e sz o n} : lend l (.row k e sz o n) = .row k e sz o n := rfl
theorem lend_want {l} : lend l .want = .want := rfl
theorem toD_row {k e sz o n} : toD (.row k e sz o n) = none := rfl
theorem clAt_row {ds ks l k e sz o n} : clAt ds ks l (.row k e sz o n) = if ks.contains k = true then .unk else .row k e sz o n := rfl
theorem clAt_want {ds ks l} : clAt ds ks l .want = .want := rfl
theorem plain_row {k e sz o n} : plainA (.row k e sz o n) = .row k e sz o n := rfl
theorem blt_eq {a b : Nat} : Nat.blt a b = decide (a < b) := by rw [Bool.eq_iff_iff]; simp
attribute [go_sem] ifW_tt ifW_ff ifW_tf ifW_ft blt_eq decide_eq_true_eq pick_none pick_d pick_nil pick_grow pick_bor pick_unk pick_row appM_none appM_d appM_nil appM_grow appM_bor appM_unk appM_row appN_want appN_unk appN_d appN_nil appN_grow appN_bor appN_row appC noRow_eq lend_row lend_want toD_row clAt_row clAt_want plain_row ifA_some ifA_none ifA_map ifA_bind sq_nil sq_cons sq_guard sx_assign sx_store sx_call outk_some outk_none outk_yes outk_val outk_valIf outk_bind px_nil px_call px_val px_guard valOp ra_move ra_pick ra_load ra_fieldAddr ra_nilCheck ra_indexAddr ra_index ra_binOp ra_unOp ra_convert ra_extract ra_field ra_build ra_len ra_max ra_min cutA ra_slice ra_alloc ra_box ra_make ra_buildSlice ra_append lenA setUnk_nil setUnk_some rows_nil rows_cons boxes_nil boxes_cons drawL_eq needRow needBox sx_move sx_pick sx_load sx_fieldAddr sx_nilCheck sx_indexAddr sx_index sx_bin_t sx_bin_i sx_bin_b sx_bin_s sx_nileq nilA sx_unOp sx_convert sx_extract sx_field sx_build sx_slice sx_len sx_max sx_min from_mk sx_alloc sx_box sx_make sx_buildSlice sx_append
  lend_d lend_nil lend_grow lend_bor lend_box lend_cell lend_unk toD_d toD_nil toD_grow toD_bor opnd_tmp opnd_int opnd_bool opnd_str opnd_nil n1_int n1_bool n1_str n1_sl n1_nil n1_tup n1_agg n0_int n0_bool n0_str n0_sl n0_nil ofD_int ofD_bool ofD_str ofD_sl ofD_agg ofD_tup ofD_nil cells_agg cells_int cells_bool cells_str cells_sl cells_nil leaf_int leaf_bool leaf_str leaf_sl leaf_nil
  clAt_d clAt_nil clAt_cell clAt_unk clAt_box clAt_grow clAt_bor clT_nil clT_cons clL_nil clL_cons clX_nil clX_cons clean_mk gone_t gone_l beq_tt beq_tl beq_lt beq_ll lk_nil lk_cons updX_nil updX_cons asg_tmp asg_const set_mk put_mk putO_none plain_d plain_nil plain_bor plain_box plain_unk plain_cell load_cell load_box asBool_b adr_box adr_cell slA_sl nA_int strA_str tupA_tup aggA_agg base_nil base_bor argsD_nil argsD_cons partsD_nil partsD_cons bnd_none bnd_some newX_none newX_some eff_use
  outD_val outD_yes outD_bind res1_tmp res1_cell bin_add bin_sub bin_mul bin_quo bin_rem bin_eql bin_neq bin_lss bin_leq bin_gtr bin_geq bin_seql bin_sneq bin_sadd bin_beql bin_bneq un_not un_neg
  dlf dnd aOfV resD resL Post seqQ blockQ sto fillD zeroD V.start
  if_true if_false Option.map_some Option.map_none Option.bind_some Option.bind_none Option.filter_some Option.isSome_some List.getElem?_cons_zero List.getElem?_cons_succ List.getElem?_nil List.set_cons_zero List.set_cons_succ List.map_cons List.map_nil List.filter_cons List.filter_nil
  List.contains_cons List.contains_nil Bool.or_false Bool.false_or Bool.or_true Bool.true_or Bool.and_true Bool.true_and Bool.and_false Bool.false_and Bool.not_true Bool.not_false Bool.false_eq_true List.all_cons List.all_nil List.nil_append List.cons_append List.append_nil List.take_succ_cons List.take_zero List.take_nil List.drop_succ_cons List.drop_zero List.drop_nil List.length_cons List.length_nil List.replicate_succ List.replicate_zero
  List.mapM_cons List.mapM_nil Option.pure_def Option.bind_eq_bind true_and and_true beq_self_eq_true Nat.add_zero Nat.zero_add
end Go.Proofs.Ytidnkaopndmigaa.V
end
section
set_option linter.unusedSimpArgs false
set_option linter.unusedVariables false
/- Less is held: at the head of a loop. -/
namespace Go.Proofs.Ytidnkaopndmigaa.V
open Go.RowKit

variable {P : Program} {B : Nat → Nat → Prop} {M0 : Fr} {p : Pm} {C : List Loc} {T : List A} {X : List (Nat × List A)} {w : World}

/-- b is held where a is. -/
def wk1 : A → A → Prop
  | _, .unk => True
  | _, .want => True
  | .nil, .grow _ _ xs => xs = []
  | .nil, .d x => x = .sl []
  | .nil, .row _ _ _ _ n => n = 0
  | .grow e sz xs, .d x => x = .sl xs
  | .grow e sz xs, .grow e' sz' xs' => e' = e ∧ sz' = sz ∧ xs' = xs
  | .d x, .d y => y = x
  | .bor _ _ _ xs, .d x => x = .sl xs
  | a, b => b = a
def wk : List A → List A → Prop
  | [], [] => True
  | a :: T, b :: T' => wk1 a b ∧ wk T T'
  | _, _ => False
def wkX (X : List (Nat × List A)) : List (Nat × List A) → Prop
  | [] => True
  | (k, ls) :: X' => (match lk X k with | some l => wk l ls | none => ls = []) ∧ wkX X X'
def weaker (s s' : S) : Prop := wk s.T s'.T ∧ wkX s.X s'.X ∧ s.C.all (s'.C.contains ·) = true

theorem VA.wk1 {M : Mut} {C' : List Loc} {l : Loc} {a b : A} {v : Value} (hC : ∀ l, l ∈ C → l ∈ C') (h : wk1 a b) (hv : VA w M p C l a v) : VA w M p C' l b v := by
  have same : VA w M p C' l a v := VA.mono (w := w) (M := M) (p := p) (C := C) ⟨Keep.refl _ _, fun _ _ h => h, fun _ _ _ h => h, fun l hl hc => hl (hC l hc), fun _ _ c _ _ h => ⟨c, h, rfl⟩⟩ hv
  cases a with
  | nil =>
    cases b with
    | unk => trivial
    | want => trivial
    | grow e sz xs => simp only [V.wk1] at h; subst h; obtain rfl : v = .slice none 0 0 := hv; exact ⟨.nil 0, fun _ => .inl ⟨rfl, rfl⟩⟩
    | d x => simp only [V.wk1] at h; subst h; obtain rfl : v = .slice none 0 0 := hv; exact .nil 0
    | row k e sz o n => simp only [V.wk1] at h; exact .inl ⟨h, hv⟩
    | nil => exact same
    | bor l' e sz xs => simp [V.wk1] at h
    | box k o => simp [V.wk1] at h
    | cell ls => simp [V.wk1] at h
    | fn g cs => simp [V.wk1] at h
  | grow e sz xs =>
    cases b with
    | unk => trivial
    | want => trivial
    | d x => simp only [V.wk1] at h; subst h; exact hv.1
    | grow e' sz' xs' => simp only [V.wk1] at h; obtain ⟨rfl, rfl, rfl⟩ := h; exact same
    | nil => simp [V.wk1] at h
    | bor l' e sz xs => simp [V.wk1] at h
    | box k o => simp [V.wk1] at h
    | cell ls => simp [V.wk1] at h
    | row k e sz o n => simp [V.wk1] at h
    | fn g cs => simp [V.wk1] at h
  | d x =>
    cases b with
    | unk => trivial
    | want => trivial
    | d y => simp only [V.wk1] at h; subst h; exact same
    | _ => simp [V.wk1] at h
  | unk => cases b <;> first | trivial | simp [V.wk1] at h
  | want => cases b <;> first | trivial | simp [V.wk1] at h
  | bor l' e sz xs =>
    cases b with
    | d x => simp only [V.wk1] at h; subst h; exact hv.1
    | _ => first | trivial | (simp only [V.wk1] at h; first | (rw [h]; exact same) | cases h)
  | box k o => cases b <;> first | trivial | (simp only [V.wk1] at h; first | (rw [h]; exact same) | cases h)
  | cell ls => cases b <;> first | trivial | (simp only [V.wk1] at h; first | (rw [h]; exact same) | cases h)
  | row k e sz o n => cases b <;> first | trivial | (simp only [V.wk1] at h; first | (rw [h]; exact same) | cases h)
  | fn g cs => cases b <;> first | trivial | (simp only [V.wk1] at h; first | (rw [h]; exact same) | cases h)

theorem wk_get : ∀ {T T' : List A}, wk T T' → T'.length = T.length ∧ ∀ (t : Nat) (b : A), T'[t]? = some b → ∃ a, T[t]? = some a ∧ wk1 a b
  | [], [], _ => ⟨rfl, fun t b h => by simp at h⟩
  | a :: T, b :: T', h => by
    obtain ⟨h1, h2⟩ := h
    obtain ⟨h3, h4⟩ := wk_get h2
    refine ⟨by simp [h3], fun t c hc => ?_⟩
    cases t with
    | zero => simp at hc; subst hc; exact ⟨a, rfl, h1⟩
    | succ t => simp at hc; simpa using h4 t c hc
  | [], _ :: _, h => h.elim
  | _ :: _, [], h => h.elim

theorem wkX_get {X : List (Nat × List A)} : ∀ {X' : List (Nat × List A)}, wkX X X' → ∀ k ls, lk X' k = some ls → ls = [] ∨ ∃ l, lk X k = some l ∧ wk l ls
  | [], _, k, ls, h => by simp [lk] at h
  | (k', l') :: X', h, k, ls, hk => by
    obtain ⟨h1, h2⟩ := h
    simp only [lk] at hk
    split at hk
    · rename_i e; subst e
      injection hk with hk; subst hk
      split at h1
      · rename_i l hl; exact .inr ⟨l, hl, h1⟩
      · exact .inl h1
    · exact wkX_get h2 k ls hk

theorem Holds.weaker {w0 : World} {s s' : S} {a : Act} (hw : V.weaker s s') (h : Holds B M0 w0 s a w) : Holds B M0 w0 s' a w := by
  obtain ⟨p, hr, hd, hb⟩ := h
  obtain ⟨h1, h2, h3⟩ := hw
  have hC : ∀ l, l ∈ s.C → l ∈ s'.C := fun l hl => by have := List.all_eq_true.1 h3 l hl; simpa using this
  obtain ⟨h4, h5⟩ := wk_get h1
  refine ⟨p, ⟨hr.ok, by rw [h4]; exact hr.len, fun t b ht => ?_, fun k ls hk => ?_⟩, hd, hb⟩
  · obtain ⟨a', ha, hab⟩ := h5 t b ht
    exact VA.wk1 hC hab (hr.tm t a' ha)
  · rcases wkX_get h2 k ls hk with rfl | ⟨l, hl, hwl⟩
    · exact .inl rfl
    obtain ⟨q5, q6⟩ := wk_get hwl
    rcases hr.bx k l hl with rfl | ⟨b, c, e, q1, q2, q3, q4⟩
    · exact .inl (List.eq_nil_of_length_eq_zero q5)
    refine .inr ⟨b, c, e, q1, q2, by rw [q5]; exact q3, fun j x hx => ?_⟩
    obtain ⟨a', ha, hab⟩ := q6 j x hx
    exact VA.wk1 hC hab (q4 j a' ha)

theorem AW.weaker {c : Code} {Q : Exit → S → Prop} {s s' : S} (hw : V.weaker s s') (h : AW P c Q s') : AW P c Q s :=
  fun B M0 w0 a w hh => h B M0 w0 a w (hh.weaker hw)
theorem Lp.weaker {c : Code} {Q : Exit → S → Prop} {n : Nat} {s s' : S} (hw : V.weaker s s') (h : Lp P c Q n s') : Lp P c Q n s := by
  cases n with
  | zero => exact h.elim
  | succ n => exact AW.weaker hw h
theorem Lp.step {c : Code} {Q : Exit → S → Prop} {n : Nat} {s : S} (h : AW P c (seqQ (Lp P c Q n) Q) s) : Lp P c Q (n + 1) s := h

/-- A loop whose state is told by data: from each state that is not done the round leads to a state of smaller measure, or out. -/
theorem AW.rounds {c : Code} {Q : Exit → S → Prop} {α : Type} (st : α → S) (Inv : α → Prop) (μ : α → Nat)
    (round : ∀ x n, Inv x → (∀ y, Inv y → μ y < μ x → Lp P c Q n (st y)) → AW P c (seqQ (Lp P c Q n) Q) (st x)) {s : S} (x : α) (hx : Inv x) (hs : V.weaker s (st x)) : AW P (.loop c) Q s := by
  have key : ∀ n x, Inv x → μ x < n → Lp P c Q n (st x) := by
    intro n
    induction n with
    | zero => intro x _ h; omega
    | succ n ih =>
      intro x hx hn
      exact round x n hx fun y hy hlt => ih y hy (by omega)
  exact AW.weaker hs (AW.loop (μ x + 1) (key _ x hx (by omega)))

theorem wk_nil : wk [] [] = True := rfl
theorem wk_cons {a b T T'} : wk (a :: T) (b :: T') = (wk1 a b ∧ wk T T') := rfl
theorem wk1_unk {a} : wk1 a .unk = True := by cases a <;> rfl
theorem wk1_d {x y} : wk1 (.d x) (.d y) = (y = x) := rfl
theorem wk1_nil : wk1 .nil .nil = True := by simp [wk1]
theorem wk1_nilgrow {e sz xs} : wk1 .nil (.grow e sz xs) = (xs = []) := rfl
theorem wk1_nild {x} : wk1 .nil (.d x) = (x = .sl []) := rfl
theorem wk1_growd {e sz xs x} : wk1 (.grow e sz xs) (.d x) = (x = .sl xs) := rfl
theorem wk1_grow {e sz xs e' sz' xs'} : wk1 (.grow e sz xs) (.grow e' sz' xs') = (e' = e ∧ sz' = sz ∧ xs' = xs) := rfl
theorem wk1_want {a} : wk1 a .want = True := by cases a <;> rfl
theorem wk1_nilrow {k e sz o n} : wk1 .nil (.row k e sz o n) = (n = 0) := rfl
theorem wk1_row {k e sz o n k' e' sz' o' n'} : wk1 (.row k e sz o n) (.row k' e' sz' o' n') = (k' = k ∧ e' = e ∧ sz' = sz ∧ o' = o ∧ n' = n) := by simp [wk1]
theorem wk1_box {k o k' o'} : wk1 (.box k o) (.box k' o') = (k' = k ∧ o' = o) := by simp [wk1]
theorem wk1_cell {ls ls'} : wk1 (.cell ls) (.cell ls') = (ls' = ls) := by simp [wk1]
theorem wkX_nil {X} : wkX X [] = True := rfl
theorem wkX_cons {X k ls X'} : wkX X ((k, ls) :: X') = ((match lk X k with | some l => wk l ls | none => ls = []) ∧ wkX X X') := rfl
attribute [go_sem] weaker wk_nil wk_cons wk1_unk wk1_want wk1_nilrow wk1_row wk1_d wk1_nil wk1_nilgrow wk1_nild wk1_growd wk1_grow wk1_box wk1_cell wkX_nil wkX_cons
/-! Open order: all up to the first assignment or store in any order. -/
def notW (o : Oper) : Bool := match o.op with | .assign _ => false | .store _ _ _ => false | _ => true
theorem take_tw {α : Type} (q : α → Bool) : ∀ l : List α, l.take (l.takeWhile q).length = l.takeWhile q
  | [] => rfl
  | a :: l => by simp only [List.takeWhile_cons]; split <;> simp [take_tw q l]
theorem drop_tw {α : Type} (q : α → Bool) : ∀ l : List α, l.drop (l.takeWhile q).length = l.dropWhile q
  | [] => rfl
  | a :: l => by simp only [List.takeWhile_cons, List.dropWhile_cons]; split <;> simp [drop_tw q l]
def drawB (P : Program) (l a b : List Oper) (s : S) (K : S → Prop) : Prop := from_ ⟨setUnk (clT (rowsOf a) (boxesOf a) 0 s.T) a, clX (rowsOf a) (boxesOf a) s.X, s.C.filter fun q => !gone (rowsOf a) (boxesOf a) q⟩
    fun T X C => preX P l.toArray X a T X C fun s' => seqx P l.toArray b s' K
def drawA (P : Program) (l : List Oper) (s : S) (K : S → Prop) : Prop := drawB P l (l.takeWhile notW) (l.dropWhile notW) s K
theorem drawA_of {l : List Oper} {s : S} {K : S → Prop} (h : drawA P l s K) : drawL P l (l.takeWhile notW).length s K := by
  rw [drawL_eq, take_tw, drop_tw]; exact h
theorem AW.ds {id : Nat} {l : List Oper} {y : Code} {Q : Exit → S → Prop} {s : S} (hP : P.follows .mixedOrders = true) (hok : drawOk l.toArray (l.takeWhile notW).length = true) (h : ∀ K, K = AW P y Q → drawA P l s K) : AW P (.seq (.region id l.toArray true) y) Q s :=
  AW.dseq _ hP hok fun K hK => drawA_of (h K hK)
theorem AW.d {id : Nat} {l : List Oper} {Q : Exit → S → Prop} {s : S} (hP : P.follows .mixedOrders = true) (hok : drawOk l.toArray (l.takeWhile notW).length = true) (h : ∀ K, K = Q .normal → drawA P l s K) : AW P (.region id l.toArray true) Q s :=
  AW.dr _ hP hok fun K hK => drawA_of (h K hK)
@[congr] theorem drawB_congr {l a a' b b' : List Oper} {s s' : S} {K : S → Prop} (h1 : a = a') (h2 : b = b') (h3 : s = s') : drawB P l a b s K = drawB P l a' b' s' K := by rw [h1, h2, h3]
theorem drawB_mk {l a b : List Oper} {T X C} {K : S → Prop} : drawB P l a b ⟨T, X, C⟩ K = from_ ⟨setUnk (clT (rowsOf a) (boxesOf a) 0 T) a, clX (rowsOf a) (boxesOf a) X, C.filter fun q => !gone (rowsOf a) (boxesOf a) q⟩
    fun T X C => preX P l.toArray X a T X C fun s' => seqx P l.toArray b s' K := rfl
theorem tw_nil {q : Oper → Bool} : [].takeWhile q = [] := rfl
theorem dw_nil {q : Oper → Bool} : [].dropWhile q = [] := rfl
attribute [go_sem] drawA notW drawB_mk List.takeWhile_cons List.dropWhile_cons tw_nil dw_nil

@[congr] theorem AW_congr {c : Code} {Q : Exit → S → Prop} {s s' : S} (h : s = s') : AW P c Q s = AW P c Q s' := by rw [h]
theorem AW.c {c : Operand} {x y : Code} {Q : Exit → S → Prop} {s : S} (h : ifA (dlf s.T c) fun d => ifA (asBoolA (.d d)) fun b => if b = true then AW P x Q s else AW P y Q s) : AW P (.cond c x y) Q s := by
  cases hd : dlf s.T c with
  | none => rw [hd] at h; exact h.elim
  | some d =>
    rw [hd] at h
    cases d with
    | bool b => exact AW.cond hd h
    | _ => exact h.elim

theorem AW.freeze {c : Code} {Q : Exit → S → Prop} {s : S} (k sz : Nat) (xs : List D) {ls : List A} (hk1 : k < 1000) (hk : lk s.X k = some ls) (hx : RowIs sz ls xs) (h : AW P c Q (s.freeze k sz xs)) : AW P c Q s :=
  fun B M0 w0 a w hh => h B M0 w0 a w (hh.freeze hk1 hk hx)

/-! Lists of data, element by element. -/
theorem getD_mid {α : Type} (f : α → D) (a b : List α) (x : α) : ((a ++ x :: b).map f).getD a.length default = f x := by simp [List.getD]
theorem getD_mid' {α : Type} (f : α → D) (a b : List α) (x : α) : (a.map f ++ f x :: b.map f).getD a.length default = f x := by simp [List.getD]
theorem nn0 (n : Nat) : (0 ≤ (n : Int)) = True := by simp
theorem nat_toNat (n : Nat) : ((n : Int)).toNat = n := by simp
theorem lt_mid (n m : Nat) : ((n : Int) < ((n + (m + 1) : Nat) : Int)) = True := by simp; omega
attribute [go_sem] List.getElem?_toArray getD_mid getD_mid' nn0 nat_toNat lt_mid List.length_map List.length_append

end Go.Proofs.Ytidnkaopndmigaa.V
end
section
set_option linter.unusedSimpArgs false
set_option linter.unusedVariables false
/- Contracts of functions that are handed variables, out of their text. -/
namespace Go.Proofs.Ytidnkaopndmigaa.V
open Go.RowKit

variable {P : Program} {B : Nat → Nat → Prop} {M0 : Fr} {p : Pm} {C : List Loc} {T : List A} {X : List (Nat × List A)} {w : World}

def outN (a : A) : A := match plainA a with | .d x => .d x.n1 | b => b
def outO : Out → Option A
  | some (_, a, _) => some (outN a)
  | none => none
def resO1 (P : Program) (s : S) : ResultVar → Option A
  | .tmp t => (s.T[t]?).map outN
  | .cell t ty => match s.T[t]? with
    | some (.box k off) => outO (loadA P s.X ty (.box k off))
    | _ => none
def resO (P : Program) (s : S) : List ResultVar → Option (List A)
  | [] => some []
  | x :: xs => (resO1 P s x).bind fun a => (resO P s xs).map fun l => a :: l
def noL (C : List Loc) : Bool := C.all fun | .t _ => true | .l _ _ => false
def notB : A → Bool | .bor _ _ _ _ => false | _ => true
def noB (Y : List (Nat × List A)) : Prop := ∀ k ls, lk Y k = some ls → ∀ a ∈ ls, notB a = true
def PostO (P : Program) (rs : Array ResultVar) (R : List A) (Y : List (Nat × List A)) (e : Exit) (s : S) : Prop := (e = .normal ∨ e = .ret) ∧ (ifA (resO P s rs.toList) fun l => wk l R) ∧ wkX s.X Y ∧ noL s.C = true ∧ noB Y
def startO (as : List A) (X : List (Nat × List A)) (n : Nat) : S := { T := as ++ List.replicate (n - as.length) .unk, X := X, C := [] }

theorem VA.noC {M : Mut} {l l' : Loc} {a : A} {v : Value} (h : VA w M p C l a v) (hl : l ∉ C) (ha : notB a = true) : VA w M p [] l a v := by
  cases a with
  | grow e sz xs => exact ⟨h.1, fun _ => h.2 hl⟩
  | bor l' e sz xs => cases ha
  | _ => exact h
theorem VA.outN {M : Mut} {C' : List Loc} {l l' : Loc} {a : A} {v : Value} (h : VA w M p C l a v) : VA w M p C' l' (outN a) v := by
  cases a with
  | d x => exact VD.n1 h
  | grow e sz xs => exact VD.n1 h.1
  | bor l' e sz xs => exact VD.n1 h.1
  | _ => exact h

theorem resO1_sound {act : Act} {s : S} (hr : Rel B M0 p s.C s.T s.X act.tmps w) {x : ResultVar} {a : A} (h : resO1 P s x = some a) :
    ∃ v, (match x with | .tmp t => Pure.pure (act.tmps.getD t undef) | .cell a t => do loadVar t (← asAddr (act.tmps.getD a undef)) : Sem Value).run P w = .ok v w ∧ ∀ l, VA w (p.M M0) p [] l a v := by
  cases x with
  | tmp t =>
    simp only [resO1, Option.map_eq_some_iff] at h
    obtain ⟨a', h1, rfl⟩ := h
    exact ⟨_, rfl, fun l => VA.outN (hr.tm t a' h1)⟩
  | cell t ty =>
    simp only [resO1] at h
    split at h
    · rename_i k off ht
      cases hl : loadA P s.X ty (.box k off) with
      | none => rw [hl] at h; cases h
      | some q =>
        obtain ⟨c, a0, e⟩ := q
        rw [hl] at h
        simp only [outO, Option.some.injEq] at h
        subst h
        have hlo : aval P s.T s.X s.C 0 (.load ty (.tmp t)) = some (c, a0, e) := by
          simp only [aval, opnd, ht, Option.map_some, lend, Option.bind_some]; exact hl
        have hc : c := by
          simp only [loadA] at hl
          · split at hl
            · split at hl
              · simp only [Option.bind_eq_some_iff] at hl
                obtain ⟨ds, _, hl⟩ := hl
                split at hl
                · simp only [val, yes, Option.some.injEq, Prod.mk.injEq] at hl; obtain ⟨rfl, _⟩ := hl; trivial
                · cases hl
              · cases hl
            · simp only [yes, Option.bind_eq_some_iff, Option.some.injEq, Prod.mk.injEq] at hl; obtain ⟨_, _, rfl, _⟩ := hl; trivial
            · cases hl
        obtain ⟨v, h2, h3, _⟩ := sound_load (dst := 0) hr hlo hc
        refine ⟨v, ?_, fun l => VA.outN h3⟩
        obtain ⟨b, hb, hv⟩ := hr.tm t _ ht
        have he : act.eval (.tmp t) = act.tmps.getD t undef := rfl
        rw [he, hv] at h2
        simp only [hv, Sem.run_bind]
        simp only [Instr.loadAt, Instr.sureAddr, Sem.run_bind, Sem.run_pure, Result.andThen_ok] at h2
        simpa [asAddr] using h2
    · cases h

theorem resO_sound {act : Act} {s : S} (hr : Rel B M0 p s.C s.T s.X act.tmps w) : ∀ {xs : List ResultVar} {R : List A}, resO P s xs = some R →
    ∃ vs : List Value, (xs.mapM fun | .tmp t => Pure.pure (act.tmps.getD t undef) | .cell a t => do loadVar t (← asAddr (act.tmps.getD a undef)) : Sem (List Value)).run P w = .ok vs w ∧ vs.length = R.length ∧ ∀ (j : Nat) a v, R[j]? = some a → vs[j]? = some v → ∀ l, VA w (p.M M0) p [] l a v
  | [], R, h => by simp only [resO, Option.some.injEq] at h; subst h; exact ⟨[], rfl, rfl, fun j d v hd => by simp at hd⟩
  | x :: xs, R, h => by
    simp only [resO, Option.bind_eq_some_iff, Option.map_eq_some_iff] at h
    obtain ⟨a, h1, l, h2, rfl⟩ := h
    obtain ⟨v, q1, q2⟩ := resO1_sound hr h1
    obtain ⟨vs, q3, q4, q5⟩ := resO_sound hr h2
    refine ⟨v :: vs, ?_, by simp [q4], fun j a' v' hd hv => ?_⟩
    · rw [List.mapM_cons, Sem.run_bind, q1]
      simp only [Result.andThen_ok, Sem.run_bind]
      rw [q3]; rfl
    · cases j with
      | zero => simp at hd hv; subst hd; subst hv; exact q2
      | succ j => simp at hd hv; exact q5 j a' v' hd hv

theorem ConO.of {f : FuncId} {fn : Func} {c : Code} {as R : List A} {X Y : List (Nat × List A)} (hf : P.funcs[f]? = some fn) (hn : (fn.name == "runtime.NumGoroutine") = false) (hb : fn.body = some c)
    (h : AW P c (PostO P fn.results R Y) (startO as X fn.ntmps)) : ConO P f as X R Y := by
  refine ⟨Enters.of hf hn (by rw [hb]; rfl), fun B M0 p vs w hr => calls_of_wp hf hb ?_⟩
  have hlen : as.length = vs.length := by have := hr.len; simpa using this
  have h0 : Holds B M0 w (startO as X fn.ntmps) { tmps := vs.toArray ++ Array.replicate (fn.ntmps - vs.toArray.size) undef, defers := [] } w := by
    refine ⟨p, ⟨hr.ok, by simp [startO, hlen], fun t x hx => ?_, hr.bx⟩, rfl, Away.refl _ _⟩
    simp only [startO] at hx
    rw [List.getElem?_append] at hx
    split at hx
    · rename_i hlt
      have := hr.tm t x hx
      rw [Array.getD_eq_getD_getElem?, Array.getElem?_append_left (by simp; omega)]
      rw [Array.getD_eq_getD_getElem?] at this
      exact this
    · rw [List.getElem?_replicate] at hx
      split at hx
      · injection hx with hx; subst hx; trivial
      · cases hx
  refine wp_mono (h _ _ _ _ _ h0) fun e a' w' ⟨s', ⟨he, hres, hY, hL, hB⟩, p', hr', hd, haway⟩ => ?_
  cases hro : resO P s' fn.results.toList with
  | none => rw [hro] at hres; exact hres.elim
  | some l =>
    rw [hro] at hres
    have hres : wk l R := hres
    obtain ⟨vs', h2, h3, h4⟩ := resO_sound hr' hro
    obtain ⟨g1, g2⟩ := wk_get hres
    have hrun : (results fn a'.tmps).run P w' = .ok (if h : vs'.toArray.size = 1 then vs'.toArray[0] else .tuple vs'.toArray) w' := by
      unfold results
      rw [← Array.toArray_toList (xs := fn.results), List.mapM_toArray, Sem.run_bind, Sem.run_map]
      erw [h2]
      rfl
    have hrel : Rel B M0 p' [] R Y vs'.toArray w' := by
      refine ⟨hr'.ok, by simp [g1, h3], fun t b hb' => ?_, fun k ls hk => ?_⟩
      · obtain ⟨a0, ha0, hab⟩ := g2 t b hb'
        have hlt : t < vs'.length := by rw [h3]; exact (List.getElem?_eq_some_iff.1 ha0).1
        have := h4 t a0 _ ha0 (List.getElem?_eq_getElem hlt) (.t t)
        rw [Array.getD_eq_getD_getElem?, List.getElem?_toArray, List.getElem?_eq_getElem hlt]
        exact VA.wk1 (fun _ h => h) hab this
      · rcases wkX_get hY k ls hk with rfl | ⟨l0, hl0, hw⟩
        · exact .inl rfl
        obtain ⟨q5, q6⟩ := wk_get hw
        rcases hr'.bx k l0 hl0 with rfl | ⟨b, c', e', q1, q2, q3, q4⟩
        · exact .inl (List.eq_nil_of_length_eq_zero q5)
        refine .inr ⟨b, c', e', q1, q2, by rw [q5]; exact q3, fun j x hx => ?_⟩
        obtain ⟨a0, ha0, hab⟩ := q6 j x hx
        have hnl : Loc.l k j ∉ s'.C := fun hm => by have := List.all_eq_true.1 hL _ hm; cases this
        exact VA.noC (l' := .t 0) (VA.wk1 (fun _ h => h) hab (q4 j a0 ha0)) hnl (hB k ls hk x (List.mem_of_getElem? hx))
    have hfin : ∀ v, tupOf v vs' → ∃ v0 vs0 p0, Ending.returned v = .returned v0 ∧ tupOf v0 vs0 ∧ Rel B M0 p0 [] R Y vs0.toArray w' ∧ Away B w w' := fun v ht => ⟨v, vs', p', rfl, ht, hrel, haway⟩
    have htup : tupOf (if h : vs'.toArray.size = 1 then vs'.toArray[0] else .tuple vs'.toArray) vs' := by
      split
      · rename_i h1
        have : vs'.length = 1 := by simpa using h1
        obtain ⟨v, rfl⟩ := List.length_eq_one_iff.1 this
        exact .inl rfl
      · rename_i h1
        exact .inr ⟨by simpa using h1, rfl⟩
    rcases he with rfl | rfl
    · exact ⟨hd, _, hrun, hfin _ htup⟩
    · exact ⟨hd, _, hrun, hfin _ htup⟩

/-- The call of such a function: names (callee's, caller's) of what is handed back anew, and of what is lent. -/
theorem CallO.mk' {s : S} {f : FuncId} {args : List Operand} {dst : Option Tmp} {K : S → Prop} (φ ρ : Ren) {as rs : List A} {Xc Y : List (Nat × List A)} (hcon : ConO P f as Xc rs Y)
    (h : (rok (φ ++ ρ) ∧ rok ρ ∧ rge ρ ∧ rlt φ) ∧ ifA (args.mapM (opnd (s.clean [] (φ.map (·.2))).T)) fun ys => passL ρ ys as ∧ passX ρ (s.clean [] (φ.map (·.2))).C (s.clean [] (φ.map (·.2))).X Xc ∧ putR (s.clean [] (φ.map (·.2))) (φ ++ ρ) Y rs K dst) : CallO P s f args dst K := by
  obtain ⟨h1, h2⟩ := h
  cases hm : args.mapM (opnd (s.clean [] (φ.map (·.2))).T) with
  | none => rw [hm] at h2; exact h2.elim
  | some ys =>
    rw [hm] at h2
    exact ⟨φ, ρ, as, Xc, rs, Y, ys, hcon, h1, hm, h2.1, h2.2.1, h2.2.2⟩

end Go.Proofs.Ytidnkaopndmigaa.V
end
section
set_option linter.unusedSimpArgs false
set_option linter.unusedVariables false
/- A statement whose order is open, its operations may read and store: those that may come in either order do not meet. -/
namespace Go.Proofs.Ytidnkaopndmigaa.V
open Go.RowKit

variable {P : Program} {B : Nat → Nat → Prop} {M0 : Fr} {p : Pm} {C : List Loc} {T : List A} {X : List (Nat × List A)} {w : World}

def splX (k off : Nat) (as : List A) (X : List (Nat × List A)) : List (Nat × List A) :=
  match lk X k with | some ls => updX k (ls.take off ++ as ++ ls.drop (off + as.length)) X | none => X

theorem updX_lk' {k : Nat} {ls : List A} : ∀ {X : List (Nat × List A)} {k' : Nat}, lk (updX k ls X) k' = if k' = k then (lk X k).map fun _ => ls else lk X k'
  | [], k' => by simp [updX, lk]
  | (k0, l0) :: X, k' => by
    simp only [updX]
    by_cases h : k = k0
    · subst h
      rw [if_pos rfl]
      simp only [lk, if_true]
      by_cases h' : k' = k
      · simp [h']
      · simp [h']
    · rw [if_neg h]
      simp only [lk]
      by_cases h' : k' = k0
      · subst h'
        rw [if_pos rfl, if_neg (fun e => h e.symm), if_pos rfl]
      · rw [if_neg h', updX_lk', if_neg h, if_neg h']

theorem splX_lk {k off : Nat} {as : List A} {X : List (Nat × List A)} {k' : Nat} : lk (splX k off as X) k' = if k' = k then (lk X k).map (fun ls => ls.take off ++ as ++ ls.drop (off + as.length)) else lk X k' := by
  unfold splX
  split
  · rename_i ls h; rw [updX_lk', h]; rfl
  · rename_i h
    split
    · rename_i e; subst e; rw [h]; rfl
    · rfl

/-- A store of cells whose values are known. -/
theorem Rel.splice {tv : Array Value} {k b off : Nat} {ls as : List A} {c : Array Value} {e : TypeId} {cs : List Value} (hr : Rel B M0 p C T X tv w) (hk : lk X k = some ls) (hbk : p.bx k = some b) (hb : w.heap[b]? = some (.cells c e (0, 0))) (hlc : ls.length ≤ c.size) (hl : as.length = cs.length) (ho : off + as.length ≤ ls.length)
    (old : ∀ j a, ls[j]? = some a → VA w (p.M M0) p C (.l k j) a (c.getD j undef)) (h : ∀ j a v, as[j]? = some a → cs[j]? = some v → VA w (p.M M0) p C (.l k (off + j)) a v) :
    Rel B M0 p C T (splX k off as X) tv (w.setRow b (c.toList.take off ++ cs ++ c.toList.drop (off + cs.length)).toArray) := by
  unfold splX
  rw [hk]
  refine hr.store hk hbk hb (by simp; omega) (by simp; omega) fun j y hj => ?_
  simp only [Array.getD_eq_getD_getElem?, List.getElem?_toArray]
  have hto : (c.toList.take off).length = off := by simp; omega
  have hlo : (ls.take off).length = off := by simp; omega
  rw [List.append_assoc, List.getElem?_append] at hj ⊢
  rw [hto]; rw [hlo] at hj
  split at hj
  · rename_i hjo
    rw [if_pos hjo]
    rw [List.getElem?_take, if_pos hjo] at hj ⊢
    have := old j y hj
    simpa [Array.getD_eq_getD_getElem?] using this
  · rename_i hjo
    rw [if_neg hjo]
    rw [List.getElem?_append] at hj ⊢
    rw [← hl]
    split at hj
    · rename_i hjd
      rw [if_pos hjd]
      have hlt : j - off < cs.length := by omega
      rw [List.getElem?_eq_getElem hlt]
      have := h (j - off) y _ hj (List.getElem?_eq_getElem hlt)
      rw [show off + (j - off) = j from by omega] at this
      exact this
    · rename_i hjd
      rw [if_neg hjd]
      rw [List.getElem?_drop] at hj ⊢
      rw [show off + as.length + (j - off - as.length) = j from by omega] at hj ⊢
      have := old j y hj
      simpa [Array.getD_eq_getD_getElem?] using this

/-- A store of data: the variable, the place, the cells. -/
def stoP (P : Program) (T : List A) (X : List (Nat × List A)) (t : TypeId) (ad x : Operand) : Option (Nat × Nat × List A) :=
  match opnd T ad with
  | some (.box k off) => match lk X k, aggOf P t, szOf P t with
    | some ls, some true, some sz => match dlf T x with
      | some (.agg ds) => if ds.length = sz ∧ off + sz ≤ ls.length ∧ ds.all D.leaf then some (k, off, ds.map .ofD) else none
      | _ => none
    | some ls, some false, some 1 => match dlf T x with
      | some d => if off < ls.length ∧ d.leaf then some (k, off, [.ofD d]) else none
      | none => none
    | _, _, _ => none
  | _ => none

theorem stoP_sound {act : Act} {t : TypeId} {ad x : Operand} {k off : Nat} {as : List A} (hr : Rel B M0 p C T X act.tmps w) (h : stoP P T X t ad x = some (k, off, as)) :
    ∃ w', (Instr.storeAt t (act.eval ad) (act.eval x)).run P w = .ok () w' ∧ Rel B M0 p C T (splX k off as X) act.tmps w' ∧ Away B w w' := by
  unfold stoP at h
  split at h
  · rename_i k' off' hk
    obtain ⟨b, hb, hv⟩ := opnd_va hr hk (l := .t 0)
    rw [hv]
    split at h
    · rename_i ls sz hlk hag hsz
      obtain ⟨c, e, q2, q3, q4⟩ := hr.bxb hlk hb
      split at h
      · rename_i ds hds
        split at h
        · rename_i hcond
          obtain ⟨hl, ho, hall⟩ := hcond
          simp only [Option.some.injEq, Prod.mk.injEq] at h
          obtain ⟨rfl, rfl, rfl⟩ := h
          obtain ⟨cs, hcs, hcl, hcf, hcv⟩ := (dlf_vd hr hds).agg_inv
          rw [hcs]
          have hcells : (Value.agg cs.toArray).cells.toList = cs := by simp [Value.cells]
          have hrun := run_storeVar_at (P := P) (w := w) (off := off') (e := e) (v := .agg cs.toArray) hsz q2 (by simp [Value.cells]; omega) (by omega) (fun u hu => by
            rw [hcells] at hu
            obtain ⟨j, hj⟩ := List.getElem?_of_mem hu
            have hjl : j < ds.length := by rw [← hcl]; exact (List.getElem?_eq_some_iff.1 hj).1
            exact (hcv j _ u (List.getElem?_eq_getElem hjl) hj).one (hcf j _ (List.getElem?_eq_getElem hjl)))
          rw [hcells, show sz = cs.length from by omega] at hrun
          refine ⟨_, hrun, hr.splice hlk hb q2 q3 (by simp; omega) (by simp; omega) q4 (fun j a v ha hv => ?_), below_setRow (hr.ok.bx _ _ hb).1⟩
          rw [List.getElem?_map, Option.map_eq_some_iff] at ha
          obtain ⟨d, hd, rfl⟩ := ha
          exact VA.ofD (hcv _ _ _ hd hv)
        · cases h
      · cases h
    · rename_i ls hlk hag hsz
      obtain ⟨c, e, q2, q3, q4⟩ := hr.bxb hlk hb
      split at h
      · rename_i d hd
        split at h
        · rename_i hcond
          obtain ⟨ho, hleaf⟩ := hcond
          simp only [Option.some.injEq, Prod.mk.injEq] at h
          obtain ⟨rfl, rfl, rfl⟩ := h
          have hx := dlf_vd hr hd
          have hone := hx.one hleaf
          have hvc : (act.eval x).cells = #[act.eval x] := by
            cases hxv : act.eval x <;> first | rfl | (rw [hxv] at hone; simp [Value.oneCell'] at hone)
          have hrun := run_storeVar_at (P := P) (w := w) (off := off') (e := e) (v := act.eval x) hsz q2 (by rw [hvc]; rfl) (by omega) (fun u hu => by rw [hvc] at hu; simp at hu; subst hu; exact hone)
          rw [hvc] at hrun
          refine ⟨_, hrun, hr.splice (cs := [act.eval x]) hlk hb q2 q3 rfl (by simp; omega) q4 (fun j a v ha hv => ?_), below_setRow (hr.ok.bx _ _ hb).1⟩
          cases j with
          | zero => simp at ha hv; subst ha; subst hv; exact VA.ofD hx
          | succ j => simp at ha
        · cases h
      · cases h
    · cases h
  · cases h

/-! What an operation does to what is held. -/
structure Ac where
  d : Option Nat := none
  y : A := .unk
  e : Eff := {}
  st : Option (Nat × Nat × List A) := none
def Ac.act (ac : Ac) (s : S) : S :=
  { T := match ac.d with | some d => s.T.set d ac.y | none => s.T,
    X := match ac.st with | some (k, off, as) => splX k off as s.X | none => (match ac.d with | some d => newX s.X d ac.e | none => s.X),
    C := ac.e.use ++ s.C }
def Ac.wr (ac : Ac) : List Nat := match ac.st with | some (k, _, _) => [k] | none => if ac.e.new.isSome then ac.d.toList else []
def Ac.upd (ac : Ac) (k : Nat) (old : Option (List A)) : Option (List A) := match ac.st with
  | some (k', off, as) => if k = k' then old.map (fun ls => ls.take off ++ as ++ ls.drop (off + as.length)) else old
  | none => match ac.d, ac.e.new with | some d, some ls => if k = d then some ls else old | _, _ => old
theorem Ac.act_lk (ac : Ac) (s : S) (k : Nat) : lk (ac.act s).X k = ac.upd k (lk s.X k) := by
  simp only [Ac.act, Ac.upd]
  split
  · rename_i k' off as h
    rw [splX_lk]
    by_cases e : k = k' <;> simp [e]
  · unfold newX
    cases ac.d with
    | none => rfl
    | some d => cases ac.e.new with
      | none => rfl
      | some ls => simp only [lk]
theorem Ac.upd_not {ac : Ac} {k : Nat} (h : k ∉ ac.wr) (old : Option (List A)) : ac.upd k old = old := by
  unfold Ac.wr at h
  unfold Ac.upd
  cases hst : ac.st with
  | some q => obtain ⟨k', off, as⟩ := q; rw [hst] at h; simp at h; simp [h]
  | none =>
    rw [hst] at h
    cases hd : ac.d with
    | none => rfl
    | some d => cases hn : ac.e.new with
      | none => rfl
      | some ls => rw [hd, hn] at h; simp at h; simp [h]

def Eqv (s s' : S) : Prop := s.T = s'.T ∧ (∀ k, lk s.X k = lk s'.X k) ∧ ∀ l, l ∈ s.C ↔ l ∈ s'.C
theorem Eqv.rfl {s : S} : Eqv s s := ⟨Eq.refl _, fun _ => Eq.refl _, fun _ => Iff.rfl⟩
theorem Eqv.symm {s s' : S} (h : Eqv s s') : Eqv s' s := ⟨h.1.symm, fun k => (h.2.1 k).symm, fun l => (h.2.2 l).symm⟩
theorem Eqv.trans {a b c : S} (h : Eqv a b) (h' : Eqv b c) : Eqv a c := ⟨h.1.trans h'.1, fun k => (h.2.1 k).trans (h'.2.1 k), fun l => (h.2.2 l).trans (h'.2.2 l)⟩
theorem Eqv.act {s s' : S} (h : Eqv s s') (ac : Ac) : Eqv (ac.act s) (ac.act s') :=
  ⟨by simp only [Ac.act, h.1], fun k => by rw [ac.act_lk, ac.act_lk, h.2.1], fun l => by simp only [Ac.act, List.mem_append, h.2.2]⟩
def Ac.apart (a b : Ac) : Prop := (∀ d, a.d = some d → b.d ≠ some d) ∧ ∀ k ∈ a.wr, k ∉ b.wr
theorem Ac.comm {a b : Ac} (h : a.apart b) (s : S) : Eqv (a.act (b.act s)) (b.act (a.act s)) := by
  refine ⟨?_, fun k => ?_, fun l => ?_⟩
  · simp only [Ac.act]
    cases hb : b.d with
    | none => rfl
    | some d => cases ha : a.d with
      | none => rfl
      | some d' => simp only []; rw [List.set_comm]; intro e; subst e; exact h.1 _ ha hb
  · rw [a.act_lk, b.act_lk, b.act_lk, a.act_lk]
    by_cases ha : k ∈ a.wr
    · rw [Ac.upd_not (h.2 k ha), Ac.upd_not (h.2 k ha)]
    · rw [Ac.upd_not ha, Ac.upd_not ha]
  · simp only [Ac.act, List.mem_append]
    constructor <;> (intro h; rcases h with h | h | h <;> simp [h])

/-! What is held when a set of the operations has run. -/
def runL (L : Nat → Bool) : Nat → List Ac → S → S
  | _, [], s => s
  | i, ac :: acs, s => runL L (i + 1) acs (if L i then ac.act s else s)
theorem runL_eqv {L : Nat → Bool} : ∀ (acs : List Ac) (i : Nat) {s s' : S}, Eqv s s' → Eqv (runL L i acs s) (runL L i acs s')
  | [], _, _, _, h => h
  | ac :: acs, i, s, s', h => by
    simp only [runL]
    refine runL_eqv acs (i + 1) ?_
    split
    · exact h.act ac
    · exact h
theorem runL_congr {L L' : Nat → Bool} : ∀ (acs : List Ac) (i : Nat) (s : S), (∀ j, i ≤ j → j < i + acs.length → L j = L' j) → runL L i acs s = runL L' i acs s
  | [], _, _, _ => rfl
  | ac :: acs, i, s, h => by
    simp only [runL]
    rw [h i (Nat.le_refl _) (by simp)]
    exact runL_congr acs (i + 1) _ fun j h1 h2 => h j (by omega) (by simp at h2 ⊢; omega)
theorem runL_len {L : Nat → Bool} : ∀ (acs : List Ac) (i : Nat) (s : S), (runL L i acs s).T.length = s.T.length
  | [], _, _ => rfl
  | ac :: acs, i, s => by
    simp only [runL]
    rw [runL_len acs]
    split
    · simp only [Ac.act]; split <;> simp
    · rfl
theorem runL_T {L L' : Nat → Bool} {t : Nat} : ∀ (acs : List Ac) (i : Nat) (s s' : S), (∀ j ac, acs[j]? = some ac → L (i + j) ≠ L' (i + j) → ac.d ≠ some t) → s.T[t]? = s'.T[t]? → s.T.length = s'.T.length → (runL L i acs s).T[t]? = (runL L' i acs s').T[t]?
  | [], _, _, _, _, h, _ => h
  | ac :: acs, i, s, s', hd, h, hl => by
    simp only [runL]
    have h0 := hd 0 ac rfl
    rw [Nat.add_zero] at h0
    have put : ∀ (q : S), ac.d ≠ some t → (ac.act q).T[t]? = q.T[t]? := fun q hne => by
      simp only [Ac.act]
      cases he : ac.d with
      | none => rfl
      | some d => simp only []; rw [List.getElem?_set_ne]; intro e; subst e; exact hne he
    have hlen : ∀ (q : S), (ac.act q).T.length = q.T.length := fun q => by simp only [Ac.act]; split <;> simp
    refine runL_T acs (i + 1) _ _ (fun j ac' hj hne => hd (j + 1) ac' hj (by rw [show i + (j + 1) = i + 1 + j from by omega]; exact hne)) ?_ ?_
    · cases hL : L i <;> cases hL' : L' i
      · simpa using h
      · simp only [Bool.false_eq_true, if_false, if_true]; rw [put _ (h0 (by simp [hL, hL'])), h]
      · simp only [Bool.false_eq_true, if_false, if_true]; rw [put _ (h0 (by simp [hL, hL'])), h]
      · simp only [if_true, Ac.act]
        cases ac.d with
        | none => exact h
        | some d => simp only []; rw [List.getElem?_set, List.getElem?_set, h, hl]
    · split <;> split <;> simp [hlen, hl]
theorem runL_X {L L' : Nat → Bool} {k : Nat} : ∀ (acs : List Ac) (i : Nat) (s s' : S), (∀ j ac, acs[j]? = some ac → L (i + j) ≠ L' (i + j) → k ∉ ac.wr) → lk s.X k = lk s'.X k → lk (runL L i acs s).X k = lk (runL L' i acs s').X k
  | [], _, _, _, _, h => h
  | ac :: acs, i, s, s', hd, h => by
    simp only [runL]
    have h0 := hd 0 ac rfl
    rw [Nat.add_zero] at h0
    refine runL_X acs (i + 1) _ _ (fun j ac' hj hne => hd (j + 1) ac' hj (by rw [show i + (j + 1) = i + 1 + j from by omega]; exact hne)) ?_
    cases hL : L i <;> cases hL' : L' i
    · simpa using h
    · simp only [Bool.false_eq_true, if_false, if_true]; rw [ac.act_lk, Ac.upd_not (h0 (by simp [hL, hL'])), h]
    · simp only [Bool.false_eq_true, if_false, if_true]; rw [ac.act_lk, Ac.upd_not (h0 (by simp [hL, hL'])), h]
    · simp only [if_true]; rw [ac.act_lk, ac.act_lk, h]
theorem runL_C {L : Nat → Bool} {l : Loc} : ∀ (acs : List Ac) (i : Nat) (s : S), l ∈ (runL L i acs s).C ↔ l ∈ s.C ∨ ∃ j ac, acs[j]? = some ac ∧ L (i + j) = true ∧ l ∈ ac.e.use
  | [], _, _ => by simp [runL]
  | ac :: acs, i, s => by
    simp only [runL]
    rw [runL_C acs]
    constructor
    · rintro (h | ⟨j, ac', h1, h2, h3⟩)
      · split at h
        · rename_i hL
          simp only [Ac.act, List.mem_append] at h
          rcases h with h | h
          · exact .inr ⟨0, ac, rfl, hL, h⟩
          · exact .inl h
        · exact .inl h
      · exact .inr ⟨j + 1, ac', h1, by rw [show i + (j + 1) = i + 1 + j from by omega]; exact h2, h3⟩
    · rintro (h | ⟨j, ac', h1, h2, h3⟩)
      · refine .inl ?_
        split
        · simp [Ac.act, h]
        · exact h
      · cases j with
        | zero =>
          simp only [List.getElem?_cons_zero, Option.some.injEq] at h1; subst h1
          rw [Nat.add_zero] at h2
          exact .inl (by rw [if_pos h2]; simp [Ac.act, h3])
        | succ j => exact .inr ⟨j, ac', h1, by rw [show i + 1 + j = i + (j + 1) from by omega]; exact h2, h3⟩
theorem runL_push {L : Nat → Bool} {a : Ac} : ∀ (acs : List Ac) (i : Nat) (s : S), (∀ j ac, acs[j]? = some ac → L (i + j) = true → a.apart ac) → Eqv (runL L i acs (a.act s)) (a.act (runL L i acs s))
  | [], _, _, _ => .rfl
  | ac :: acs, i, s, h => by
    simp only [runL]
    have ih := runL_push (L := L) (a := a) acs (i + 1) (if L i then ac.act s else s) (fun j ac' hj hL => h (j + 1) ac' hj (by rw [show i + (j + 1) = i + 1 + j from by omega]; exact hL))
    refine (runL_eqv acs (i + 1) ?_).trans ih
    split
    · rename_i hL; exact (Ac.comm (h 0 ac rfl hL) s).symm
    · exact .rfl
theorem runL_ins {L : Nat → Bool} {a : Ac} : ∀ (acs : List Ac) (i m : Nat) (s : S), acs[m]? = some a → L (i + m) = false → (∀ j ac, acs[j]? = some ac → m < j → L (i + j) = true → a.apart ac) → Eqv (runL (fun j => L j || j == i + m) i acs s) (a.act (runL L i acs s))
  | [], _, _, _, h, _, _ => by simp at h
  | ac :: acs, i, m, s, h, hf, hap => by
    simp only [runL]
    cases m with
    | zero =>
      simp only [List.getElem?_cons_zero, Option.some.injEq] at h; subst h
      rw [Nat.add_zero] at hf
      simp only [Nat.add_zero, beq_self_eq_true, Bool.or_true, if_true, hf]
      rw [runL_congr (L' := L) acs (i + 1) _ fun j h1 _ => by simp; omega]
      exact runL_push acs (i + 1) s fun j ac' hj hL => hap (j + 1) ac' hj (by omega) (by rw [show i + (j + 1) = i + 1 + j from by omega]; exact hL)
    | succ m =>
      have := runL_ins (L := L) (a := a) acs (i + 1) m (if L i then ac.act s else s) h (by rw [show i + 1 + m = i + (m + 1) from by omega]; exact hf) (fun j ac' hj hm hL => hap (j + 1) ac' hj (by omega) (by rw [show i + (j + 1) = i + 1 + j from by omega]; exact hL))
      rw [show i + 1 + m = i + (m + 1) from by omega] at this
      have hi : (i == i + (m + 1)) = false := by simp
      simp only [hi, Bool.or_false]
      exact this

end Go.Proofs.Ytidnkaopndmigaa.V
end
