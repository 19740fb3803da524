/- Texts of ours, put together: R10, R11, R12, R13, R14, R15, R16, R17, R18, R19, RL. -/
import Derived.Test.YtidnkaopndmigaaK2
section
set_option linter.unusedSimpArgs false
set_option linter.unusedVariables false
/- Frames: calls that are handed variables. -/
namespace Go.Proofs.Ytidnkaopndmigaa.V
open Go.RowKit

variable {P : Program} {B : Nat → Nat → Prop} {M0 : Fr} {w w0 : World}

/-- More is known. -/
structure MLe (m m' : Mt) : Prop where
  r : ∀ a b, rto m.1 a = some b → rto m'.1 a = some b
  p : ∀ p r, lkp m.2 p = some r → lkp m'.2 p = some r
theorem MLe.rfl {m : Mt} : MLe m m := ⟨fun _ _ h => h, fun _ _ h => h⟩
theorem MLe.trans {a b c : Mt} (h : MLe a b) (h' : MLe b c) : MLe a c := ⟨fun x y e => h'.r _ _ (h.r _ _ e), fun x y e => h'.p _ _ (h.p _ _ e)⟩
structure MOk (m : Mt) : Prop where
  ok : rok m.1
  ge : rge m.1
theorem addρ_ok {m m' : Mt} {kc k : Nat} (h : addρ m kc k = some m') (hm : MOk m) : MOk m' ∧ MLe m m' ∧ rto m'.1 kc = some k := by
  unfold addρ at h
  split at h
  · rename_i k' hk
    split at h
    · rename_i e; subst e; injection h with h; subst h; exact ⟨hm, .rfl, hk⟩
    · cases h
  · rename_i hk
    split at h
    · rename_i hc
      injection h with h; subst h
      refine ⟨⟨⟨hk, hc.1, hm.ok⟩, ⟨hc.2, hm.ge⟩⟩, ⟨fun a b hab => ?_, fun _ _ h => h⟩, by simp [rto]⟩
      simp only [rto]; rw [if_neg (fun e => by subst e; rw [hk] at hab; cases hab)]; exact hab
    · cases h
theorem addp_ok {m m' : Mt} {p : Nat} {r : Rf} (h : addp m p r = some m') (hm : MOk m) : MOk m' ∧ MLe m m' ∧ lkp m'.2 p = some r := by
  unfold addp at h
  split at h
  · rename_i r' hk
    split at h
    · rename_i e; subst e; injection h with h; subst h; exact ⟨hm, .rfl, hk⟩
    · cases h
  · rename_i hk
    injection h with h; subst h
    refine ⟨⟨hm.ok, hm.ge⟩, ⟨fun _ _ h => h, fun a b hab => ?_⟩, by simp [lkp]⟩
    simp only [lkp]; rw [if_neg (fun e => by subst e; rw [hk] at hab; cases hab)]; exact hab
theorem addCs_ok : ∀ {cs cs' : List (Nat × Nat)} {m m' : Mt}, addCs m cs cs' = some m' → MOk m → MOk m' ∧ MLe m m' ∧ ∀ mF, MLe m' mF → passCs mF.1 cs = some cs'
  | [], [], m, m', h, hm => by simp only [addCs, Option.some.injEq] at h; subst h; exact ⟨hm, .rfl, fun _ _ => rfl⟩
  | (kc, o) :: cs, (k, o') :: cs', m, m', h, hm => by
    simp only [addCs] at h
    split at h
    · rename_i e; subst e
      rw [Option.bind_eq_some_iff] at h
      obtain ⟨m1, h1, h2⟩ := h
      obtain ⟨g1, g2, g3⟩ := addρ_ok h1 hm
      obtain ⟨g4, g5, g6⟩ := addCs_ok h2 g1
      refine ⟨g4, g2.trans g5, fun mF hF => ?_⟩
      simp only [passCs, hF.r _ _ (g5.r _ _ g3), g6 mF hF]
    · cases h
  | [], _ :: _, _, _, h, _ => by simp [addCs] at h
  | _ :: _, [], _, _, h, _ => by simp [addCs] at h

/-- What the callee's variables stand for. -/
def Stands (env : List D) (m : Mt) (ps : List D) : Prop := ∀ p r d, lkp m.2 p = some r → ps[p]? = some d → rf env r = some d

theorem passA_d {ρ : Ren} {y : A} {d d0 : D} (h0 : toD y = some d0) (h1 : d = d0 ∨ d = d0.n1) (hn : toD y = some .nil → y = .nil) : passA ρ y (.ofD d) := by
  have key : (toD y).map D.n1 = some d ∨ toD y = some d := by
    rcases h1 with rfl | rfl
    · exact .inr h0
    · exact .inl (by rw [h0]; rfl)
  cases d with
  | nil =>
    refine hn ?_
    rcases h1 with rfl | h
    · exact h0
    · exfalso; cases d0 <;> cases h
  | _ => exact key
theorem fl_nil {env : List D} {b : SA} {y : A} (hb : fl env b = some y) (h : toD y = some .nil) : y = .nil := by
  cases b with
  | d r =>
    simp only [fl, Option.map_eq_some_iff] at hb
    obtain ⟨d, h1, rfl⟩ := hb
    rw [toD_ofD] at h; injection h with h; subst h; rfl
  | tup is =>
    simp only [fl, Option.map_eq_some_iff] at hb
    obtain ⟨d, h1, rfl⟩ := hb
    simp [toD] at h
  | agg rs => obtain ⟨ds, _, _, rfl⟩ := fl_agg hb; simp [toD] at h
  | grow e sz i => simp only [fl] at hb; split at hb <;> simp at hb; subst hb; simp [toD] at h
  | bor l e sz i => simp only [fl] at hb; split at hb <;> simp at hb; subst hb; simp [toD] at h
  | box k o => simp [fl] at hb; subst hb; simp [toD] at h
  | boxi k ix sz j => simp only [fl, Option.map_eq_some_iff] at hb; obtain ⟨d, h1, rfl⟩ := hb; simp [toD] at h
  | cell i o => simp only [fl, Option.map_eq_some_iff] at hb; obtain ⟨d, h1, rfl⟩ := hb; simp [toD] at h
  | row k e sz m => simp only [fl, Option.map_eq_some_iff] at hb; obtain ⟨d, h1, rfl⟩ := hb; simp [toD] at h
  | fn g cs => simp [fl] at hb; subst hb; simp [toD] at h
  | unk => simp [fl] at hb; subst hb; simp [toD] at h
  | want => simp [fl] at hb; subst hb; simp [toD] at h
theorem passA_conA {ρ : Ren} {C : List Loc} {l : Loc} {y b : A} (h : passA ρ y b) : conA ρ C l y b := by
  cases b with
  | grow => exact h.elim
  | _ => exact h

section
variable {env : List D} {s : SS} {q : S} {n : Nat} {ks : List (List D → Prop)} {R : List D → Prop} {tm : Tm} {a : Act}

theorem passS_ok {b y : SA} {m m' : Mt} {yv : A} (h : passS b y m = some m') (hm : MOk m) (hy : fl env y = some yv) :
    MOk m' ∧ MLe m m' ∧ ∀ mF env' ps av, MLe m' mF → Ext env env' → Stands env' mF ps → fl ps b = some av → passA mF.1 yv av := by
  unfold passS at h
  split at h
  · rename_i kc o k o'
    split at h
    · rename_i e; subst e
      obtain ⟨g1, g2, g3⟩ := addρ_ok h hm
      refine ⟨g1, g2, fun mF env' ps av hF he hs ha => ?_⟩
      simp only [fl, Option.some.injEq] at ha hy; subst ha; subst hy
      simp only [passA, hF.r _ _ g3]
    · cases h
  · rename_i kc p sz j k r sz' j'
    split at h
    · rename_i e; obtain ⟨rfl, rfl⟩ := e
      rw [Option.bind_eq_some_iff] at h
      obtain ⟨m1, h1, h2⟩ := h
      obtain ⟨g1, g2, g3⟩ := addρ_ok h1 hm
      obtain ⟨g4, g5, g6⟩ := addp_ok h2 g1
      refine ⟨g4, g2.trans g5, fun mF env' ps av hF he hs ha => ?_⟩
      simp only [fl, Option.map_eq_some_iff] at ha hy
      obtain ⟨i1, f1, rfl⟩ := ha
      obtain ⟨i2, f2, rfl⟩ := hy
      obtain ⟨k1, f1⟩ := list_int f1
      obtain ⟨k2, f2⟩ := list_int f2
      have := hs p r _ (hF.p _ _ g6) f1
      rw [he.rf f2] at this
      injection this with this; injection this with _ this; subst this
      simp only [passA, hF.r _ _ (g5.r _ _ g3)]
    · cases h
  · rename_i kc e sz p k e' sz' i
    split at h
    · rename_i e; obtain ⟨rfl, rfl⟩ := e
      rw [Option.bind_eq_some_iff] at h
      obtain ⟨m1, h1, h2⟩ := h
      obtain ⟨g1, g2, g3⟩ := addρ_ok h1 hm
      obtain ⟨g4, g5, g6⟩ := addp_ok h2 g1
      refine ⟨g4, g2.trans g5, fun mF env' ps av hF he hs ha => ?_⟩
      obtain ⟨n1, f1, rfl⟩ := SN_val_row ha
      obtain ⟨n2, f2, rfl⟩ := SN_val_row hy
      simp only [SN.val] at f1 f2
      split at f1
      · rename_i xs hx
        split at f2
        · rename_i ys hyy
          have := hs p _ _ (hF.p _ _ g6) hx
          simp only [rf, he.get hyy, Option.some.injEq] at this
          injection this with this; subst this
          injection f1 with f1; injection f2 with f2; subst f1; subst f2
          simp only [passA, hF.r _ _ (g5.r _ _ g3)]
        · cases f2
      · cases f1
    · cases h
  · rename_i g cs g' cs'
    split at h
    · rename_i e; subst e
      obtain ⟨g1, g2, g3⟩ := addCs_ok h hm
      refine ⟨g1, g2, fun mF env' ps av hF he hs ha => ?_⟩
      simp only [fl, Option.some.injEq] at ha hy; subst ha; subst hy
      simp only [passA, g3 mF hF]
    · cases h
  · injection h with h; subst h
    refine ⟨hm, .rfl, fun mF env' ps av hF he hs ha => ?_⟩
    simp only [fl, Option.some.injEq] at ha; subst ha
    trivial
  · cases h

theorem passLS_ok : ∀ {as ys : List SA} {yv : List A} {m : Mt} {K : Mt → Nat → M} {env : List D} {n : Nat} {tm : Tm}, passLS as ys n m K = .ok tm → TW P tm env ks R → env.length = n → MOk m → ys.mapM (fl env) = some yv →
    ∃ env' n' tm' m', K m' n' = .ok tm' ∧ TW P tm' env' ks R ∧ Ext env env' ∧ env'.length = n' ∧ MOk m' ∧ MLe m m' ∧ ∀ mF env'' ps av, MLe m' mF → Ext env' env'' → Stands env'' mF ps → as.mapM (fl ps) = some av → passL mF.1 yv av
  | [], [], yv, m, K, env, n, tm, h, ht, hn, hm, hy => by
    simp at hy; subst hy
    refine ⟨env, n, tm, m, h, ht, .rfl, hn, hm, .rfl, fun mF env'' ps av _ _ _ ha => ?_⟩
    simp at ha; subst ha; trivial
  | b :: as, y :: ys, yv, m, K, env, n, tm, h, ht, hn, hm, hy => by
    simp only [List.mapM_cons, Option.bind_eq_bind, Option.bind_eq_some_iff, Option.pure_def, Option.some.injEq] at hy
    obtain ⟨y1, hy1, yv, hy2, rfl⟩ := hy
    simp only [passLS] at h
    split at h
    · rename_i p
      obtain ⟨r, env1, n1, tm1, d, d0, k1, k2, k3, k4, k5, k6, k7⟩ := rfKA_d h ht hn hy1
      split at k1
      · rename_i m1 hm1
        obtain ⟨g1, g2, g3⟩ := addp_ok hm1 hm
        obtain ⟨env', n', tm', m', f1, f2, f3, f4, f5, f6, f7⟩ := passLS_ok k1 k2 k4 g1 (mapM_congr hy2 fun _ _ _ hx => k3.fl hx)
        refine ⟨env', n', tm', m', f1, f2, k3.trans f3, f4, f5, g2.trans f6, fun mF env'' ps av hF he hs ha => ?_⟩
        simp only [List.mapM_cons, Option.bind_eq_bind, Option.bind_eq_some_iff, Option.pure_def, Option.some.injEq] at ha
        obtain ⟨a1, ha1, av, ha2, rfl⟩ := ha
        refine ⟨?_, f7 mF env'' ps av hF he hs ha2⟩
        simp only [fl, rf, Option.map_eq_some_iff] at ha1
        obtain ⟨dp, hdp, rfl⟩ := ha1
        have := hs p r dp (hF.p _ _ (f6.p _ _ g3)) hdp
        rw [(f3.trans he).rf k5] at this
        injection this with this; subst this
        exact passA_d k6 k7 (fl_nil hy1)
      · cases k1
    · split at h
      · rename_i m1 hm1
        obtain ⟨g1, g2, g3⟩ := passS_ok hm1 hm hy1
        obtain ⟨env', n', tm', m', f1, f2, f3, f4, f5, f6, f7⟩ := passLS_ok h ht hn g1 hy2
        refine ⟨env', n', tm', m', f1, f2, f3, f4, f5, g2.trans f6, fun mF env'' ps av hF he hs ha => ?_⟩
        simp only [List.mapM_cons, Option.bind_eq_bind, Option.bind_eq_some_iff, Option.pure_def, Option.some.injEq] at ha
        obtain ⟨a1, ha1, av, ha2, rfl⟩ := ha
        exact ⟨g3 mF env'' ps a1 (f6.trans hF) (f3.trans he) hs ha1, f7 mF env'' ps av hF he hs ha2⟩
      · cases h
  | [], _ :: _, yv, m, K, env, n, tm, h, _, _, _, _ => by simp [passLS] at h
  | _ :: _, [], yv, m, K, env, n, tm, h, _, _, _, _ => by simp [passLS] at h

theorem conS_ok {C : List Loc} {k j : Nat} {b y : SA} {m m' : Mt} {yv : A} (h : conS C k j b y m = some m') (hm : MOk m) (hy : fl env y = some yv) :
    MOk m' ∧ MLe m m' ∧ ∀ mF env' ps av, MLe m' mF → Ext env env' → Stands env' mF ps → fl ps b = some av → conA mF.1 C (.l k j) yv av := by
  unfold conS at h
  split at h
  · rename_i p
    rw [Option.bind_eq_some_iff] at h
    obtain ⟨r, h1, h2⟩ := h
    obtain ⟨d, d0, g1, g2, g3⟩ := rfA_d h1 hy
    obtain ⟨g4, g5, g6⟩ := addp_ok h2 hm
    refine ⟨g4, g5, fun mF env' ps av hF he hs ha => passA_conA ?_⟩
    simp only [fl, rf, Option.map_eq_some_iff] at ha
    obtain ⟨dp, hdp, rfl⟩ := ha
    have := hs p r dp (hF.p _ _ g6) hdp
    rw [he.rf g1] at this
    injection this with this; subst this
    exact passA_d g2 g3 (fl_nil hy)
  · rename_i c c'
    split at h
    · rename_i e; subst e
      injection h with h; subst h
      refine ⟨hm, .rfl, fun mF env' ps av hF he hs ha => passA_conA ?_⟩
      simp only [fl, rf, Option.map_some, Option.some.injEq] at ha hy
      subst ha
      have hy' := hy
      subst hy
      exact passA_d (d0 := c.d) (toD_ofD _) (.inl rfl) fun h => by rw [toD_ofD] at h; injection h with h; rw [h]; rfl
    · cases h
  · rename_i e sz p e' sz' i
    split at h
    · rename_i hc; obtain ⟨rfl, rfl, hC⟩ := hc
      obtain ⟨g4, g5, g6⟩ := addp_ok h hm
      refine ⟨g4, g5, fun mF env' ps av hF he hs ha => ?_⟩
      simp only [fl] at ha hy
      split at ha
      · rename_i xs hx
        split at hy
        · rename_i ys hyy
          have := hs p _ _ (hF.p _ _ g6) hx
          simp only [rf, he.get hyy, Option.some.injEq] at this
          injection this with this; subst this
          injection ha with ha; injection hy with hy; subst ha; subst hy
          exact .inl ⟨rfl, hC⟩
        · cases hy
      · cases ha
    · cases h
  · rename_i e sz p
    obtain ⟨g4, g5, g6⟩ := addp_ok h hm
    refine ⟨g4, g5, fun mF env' ps av hF he hs ha => ?_⟩
    simp only [fl] at ha
    split at ha
    · rename_i xs hx
      have := hs p _ _ (hF.p _ _ g6) hx
      simp only [rf, Kc.d, Option.some.injEq] at this
      injection this with this; subst this
      injection ha with ha; subst ha
      simp only [fl, rf, Kc.d, Option.map_some, Option.some.injEq] at hy; subst hy
      exact .inr ⟨rfl, rfl⟩
    · cases ha
  · obtain ⟨g1, g2, g3⟩ := passS_ok h hm hy
    exact ⟨g1, g2, fun mF env' ps av hF he hs ha => passA_conA (g3 mF env' ps av hF he hs ha)⟩
theorem conLS_ok {C : List Loc} {k : Nat} : ∀ {as ys : List SA} {yv : List A} {j : Nat} {m m' : Mt}, conLS C k j as ys m = some m' → MOk m → ys.mapM (fl env) = some yv →
    MOk m' ∧ MLe m m' ∧ ∀ mF env' ps av, MLe m' mF → Ext env env' → Stands env' mF ps → as.mapM (fl ps) = some av → conL mF.1 C k j yv av
  | [], [], yv, j, m, m', h, hm, hy => by
    simp only [conLS, Option.some.injEq] at h; subst h
    simp at hy; subst hy
    refine ⟨hm, .rfl, fun mF env'' ps av _ _ _ ha => ?_⟩
    simp at ha; subst ha; trivial
  | b :: as, y :: ys, yv, j, m, m', h, hm, hy => by
    simp only [List.mapM_cons, Option.bind_eq_bind, Option.bind_eq_some_iff, Option.pure_def, Option.some.injEq] at hy
    obtain ⟨y1, hy1, yv, hy2, rfl⟩ := hy
    simp only [conLS, Option.bind_eq_some_iff] at h
    obtain ⟨m1, h1, h2⟩ := h
    obtain ⟨g1, g2, g3⟩ := conS_ok h1 hm hy1
    obtain ⟨f1, f2, f3⟩ := conLS_ok h2 g1 hy2
    refine ⟨f1, g2.trans f2, fun mF env'' ps av hF he hs ha => ?_⟩
    simp only [List.mapM_cons, Option.bind_eq_bind, Option.bind_eq_some_iff, Option.pure_def, Option.some.injEq] at ha
    obtain ⟨a1, ha1, av, ha2, rfl⟩ := ha
    exact ⟨g3 mF env'' ps a1 (f2.trans hF) he hs ha1, f3 mF env'' ps av hF he hs ha2⟩
  | [], _ :: _, yv, j, m, m', h, _, _ => by simp [conLS] at h
  | _ :: _, [], yv, j, m, m', h, _, _ => by simp [conLS] at h

theorem conL_refl {ρ : Ren} {C : List Loc} {k : Nat} : ∀ (l : List D) {j : Nat}, conL ρ C k j (l.map .ofD) (l.map .ofD)
  | [], _ => trivial
  | d :: l, j => ⟨passA_conA (passA_d (toD_ofD d) (.inl rfl) fun h => by rw [toD_ofD] at h; injection h with h; rw [h]; rfl), conL_refl l⟩
theorem passXS_ok (hat : At env s q) : ∀ {X : List (Nat × XC)} {m m' : Mt}, passXS s X m = some m' → MOk m →
    MOk m' ∧ MLe m m' ∧ ∀ mF env' ps Xv, MLe m' mF → Ext env env' → Stands env' mF ps → flX ps X = some Xv → passX mF.1 q.C q.X Xv
  | [], m, m', h, hm => by
    simp only [passXS, Option.some.injEq] at h; subst h
    refine ⟨hm, .rfl, fun mF env' ps Xv _ _ _ hX => ?_⟩
    simp only [flX, Option.some.injEq] at hX; subst hX; trivial
  | (kc, c) :: X, m, m', h, hm => by
    simp only [passXS] at h
    split at h
    · rename_i k hk
      split at h
      · rename_i lc l hl
        rw [Option.bind_eq_some_iff] at h
        obtain ⟨m1, h1, h2⟩ := h
        obtain ⟨ls, hlk, hls⟩ := hat.lk hl
        obtain ⟨hm', hok⟩ := flC_cs_inv hls
        obtain ⟨g1, g2, g3⟩ := conLS_ok h1 hm hm'
        obtain ⟨f1, f2, f3⟩ := passXS_ok hat h2 g1
        refine ⟨f1, g2.trans f2, fun mF env' ps Xv hF he hs hX => ?_⟩
        simp only [flX] at hX
        split at hX
        · rename_i lv Xv' e1 e2
          injection hX with hX; subst hX
          refine ⟨?_, f3 mF env' ps _ hF he hs e2⟩
          simp only [hF.r _ _ (f2.r _ _ (g2.r _ _ hk)), hlk]
          have := g3 mF env' ps _ (f2.trans hF) he hs (flC_cs_inv e1).1
          rw [hat.C]; exact this
        · cases hX
      · rename_i p sz i sz' hl
        split at h
        · rename_i e; subst e
          rw [Option.bind_eq_some_iff] at h
          obtain ⟨m1, h1, h2⟩ := h
          obtain ⟨ls, hlk, hls⟩ := hat.lk hl
          obtain ⟨xs, hxs, hu, rfl⟩ := flC_row_inv hls
          obtain ⟨g1, g2, g3⟩ := addp_ok h1 hm
          obtain ⟨f1, f2, f3⟩ := passXS_ok hat h2 g1
          refine ⟨f1, g2.trans f2, fun mF env' ps Xv hF he hs hX => ?_⟩
          simp only [flX] at hX
          split at hX
          · rename_i lv Xv' e1 e2
            injection hX with hX; subst hX
            refine ⟨?_, f3 mF env' ps _ hF he hs e2⟩
            simp only [hF.r _ _ (f2.r _ _ (g2.r _ _ hk)), hlk]
            obtain ⟨xs', hxs', hu', rfl⟩ := flC_row_inv e1
            have := hs p _ _ (hF.p _ _ (f2.p _ _ g3)) hxs'
            simp only [rf, he.get hxs, Option.some.injEq] at this
            injection this with this; subst this
            exact conL_refl _
          · cases hX
        · cases h
      · cases h
    · cases h

/-! What the callee leaves. -/
theorem rf_sh {qs : List D} (hn : env.length = n) {r : Rf} {d : D} (h : rf qs r = some d) : rf (env ++ qs) (shR n r) = some d := by
  cases r with
  | v i => simp only [rf, shR] at h ⊢; rw [List.getElem?_append_right (by omega), show n + i - env.length = i from by omega]; exact h
  | k c => exact h
theorem get_sh {qs : List D} (hn : env.length = n) {i : Nat} {d : D} (h : qs[i]? = some d) : (env ++ qs)[n + i]? = some d := rf_sh (r := .v i) hn h
theorem mapM_map {α β γ : Type} {f : α → Option β} {g : γ → Option β} {t : α → γ} : ∀ {l : List α} {m : List β}, l.mapM f = some m → (∀ x ∈ l, ∀ y, f x = some y → g (t x) = some y) → (l.map t).mapM g = some m
  | [], m, h, _ => by simpa using h
  | x :: l, m, h, hg => by
    simp only [List.map_cons, List.mapM_cons, Option.bind_eq_bind, Option.bind_eq_some_iff, Option.pure_def, Option.some.injEq] at h ⊢
    obtain ⟨y, h1, ys, h2, rfl⟩ := h
    exact ⟨y, hg x (by simp) y h1, ys, mapM_map h2 (fun z hz => hg z (by simp [hz])), rfl⟩
theorem mapM_map2 {α β γ δ : Type} {f : α → Option β} {g : γ → Option δ} {t : α → γ} {u : β → δ} : ∀ {l : List α} {m : List β}, l.mapM f = some m → (∀ x y, f x = some y → g (t x) = some (u y)) → (l.map t).mapM g = some (m.map u)
  | [], m, h, _ => by simp at h; subst h; simp
  | x :: l, m, h, hg => by
    simp only [List.map_cons, List.mapM_cons, Option.bind_eq_bind, Option.bind_eq_some_iff, Option.pure_def, Option.some.injEq] at h ⊢
    obtain ⟨y, h1, ys, h2, rfl⟩ := h
    exact ⟨u y, hg x y h1, ys.map u, mapM_map2 h2 hg, rfl⟩
theorem fl_ren {σ : Ren} {qs : List D} (hn : env.length = n) {b : SA} {x : A} (h : fl qs b = some x) : fl (env ++ qs) (renS σ n b) = some (renA σ x) := by
  cases b with
  | d r =>
    simp only [fl, Option.map_eq_some_iff] at h
    obtain ⟨d, h1, rfl⟩ := h
    simp only [renS, fl, rf_sh hn h1, Option.map_some]
    cases d <;> rfl
  | tup is =>
    simp only [fl, Option.map_eq_some_iff] at h
    obtain ⟨ds, h1, rfl⟩ := h
    simp only [renS, fl, mapM_map h1 (fun i _ d hd => get_sh hn hd), Option.map_some]; rfl
  | agg rs =>
    obtain ⟨ds, h1, h2, rfl⟩ := fl_agg h
    simp only [renS, fl, mapM_map h1 (fun i _ d hd => rf_sh hn hd), Option.bind_some, h2, if_true]; rfl
  | grow e sz i =>
    simp only [fl] at h; split at h
    · rename_i xs hi; injection h with h; subst h; simp only [renS, fl, get_sh hn hi]; rfl
    · cases h
  | bor l e sz i =>
    simp only [fl] at h; split at h
    · rename_i xs hi; injection h with h; subst h; simp only [renS, fl, rf, get_sh hn hi]; rfl
    · cases h
  | box k o =>
    simp only [fl, Option.some.injEq] at h; subst h
    simp only [renS, renA]; cases rto σ k <;> rfl
  | boxi k ix sz j =>
    simp only [fl, Option.map_eq_some_iff] at h
    obtain ⟨i, h1, rfl⟩ := h
    obtain ⟨kk, h1⟩ := list_int h1
    simp only [renS, renA]
    cases rto σ k with
    | none => rfl
    | some k' => simp only [fl, rf_sh hn h1, int?, Option.map_some]
  | cell i o =>
    simp only [fl, Option.map_eq_some_iff] at h
    obtain ⟨i, h1, rfl⟩ := h
    rfl
  | row k e sz m =>
    obtain ⟨i, h1, rfl⟩ := SN_val_row h
    simp only [renS, renA]
    cases rto σ k with
    | none => rfl
    | some k' =>
      have : (shN n m).val (env ++ qs) = some i := by
        cases m with
        | c m => exact h1
        | e r =>
          simp only [SN.val, shN] at h1 ⊢
          split at h1
          · rename_i kk nn hr; rw [rf_sh hn hr]; exact h1
          · cases h1
        | l i' =>
          simp only [SN.val, shN] at h1 ⊢
          split at h1
          · rename_i xs hx; rw [get_sh hn hx]; exact h1
          · cases h1
      simp only [fl, this, Option.map_some]
  | fn g cs =>
    simp only [fl, Option.some.injEq] at h; subst h
    simp only [renS, renA]; cases passCs σ cs <;> rfl
  | unk => simp only [fl, Option.some.injEq] at h; subst h; rfl
  | want => simp only [fl, Option.some.injEq] at h; subst h; rfl
theorem fl_out {σ : Ren} {qs : List D} (hn : env.length = n) {b : SA} {x : A} (h : fl qs b = some x) : fl (env ++ qs) (outS σ n b) = some (outA σ x) := by
  have h1 := fl_ren (σ := σ) hn h
  unfold outS outA
  split
  · rename_i e sz i hr
    rw [hr] at h1
    simp only [fl] at h1
    split at h1
    · rename_i xs hx
      injection h1 with h1
      rw [← h1]
      simp only [fl, rf, hx]; rfl
    · cases h1
  · rename_i hne
    rw [h1]
    split
    · rename_i e sz xs hr
      exfalso
      rw [hr] at h1
      revert h1
      cases hs : renS σ n b with
      | grow e' sz' i' => exact absurd hs (hne _ _ _)
      | d r => simp only [fl, Option.map_eq_some_iff]; rintro ⟨d, _, h⟩; cases d <;> cases h
      | tup is => simp [fl]
      | agg rs => intro h; obtain ⟨_, _, _, h⟩ := fl_agg h; cases h
      | bor l e sz i => simp only [fl]; split <;> simp
      | box => simp [fl]
      | boxi => simp [fl]
      | cell => simp [fl]
      | row => simp [fl]
      | fn => simp [fl]
      | unk => simp [fl]
      | want => simp [fl]
    · rfl
theorem fl_af {σ : Ren} {b : SA} {x : A} (h : fl env b = some x) : fl env (afS σ b) = some (afA σ x) := by
  cases b with
  | bor l e sz i =>
    simp only [fl] at h
    split at h
    · rename_i xs hi
      injection h with h; subst h
      cases l with
      | t j => simp only [afS, afA, fl, hi]
      | l k j =>
        simp only [afS, afA]
        by_cases hc : (rof σ k).isSome = true
        · have hc' : rofs σ k = true := hc
          rw [if_pos hc', if_pos hc]; simp only [fl, rf, hi]; rfl
        · have hc' : ¬ rofs σ k = true := hc
          rw [if_neg hc', if_neg hc]; simp only [fl, hi]
    · cases h
  | d r =>
    rw [show afS σ (.d r) = .d r from rfl, h]
    simp only [fl, Option.map_eq_some_iff] at h
    obtain ⟨d, _, rfl⟩ := h
    cases d <;> rfl
  | tup is =>
    rw [show afS σ (.tup is) = .tup is from rfl, h]
    simp only [fl, Option.map_eq_some_iff] at h
    obtain ⟨d, _, rfl⟩ := h; rfl
  | agg rs =>
    rw [show afS σ (.agg rs) = .agg rs from rfl, h]
    obtain ⟨ds, _, _, rfl⟩ := fl_agg h; rfl
  | grow e sz i =>
    rw [show afS σ (.grow e sz i) = .grow e sz i from rfl, h]
    simp only [fl] at h; split at h
    · injection h with h; subst h; rfl
    · cases h
  | box k o => simp only [fl, Option.some.injEq] at h; subst h; rfl
  | boxi k ix sz j =>
    rw [show afS σ (.boxi k ix sz j) = .boxi k ix sz j from rfl, h]
    simp only [fl, Option.map_eq_some_iff] at h
    obtain ⟨i, h1, rfl⟩ := h; rfl
  | cell i o =>
    rw [show afS σ (.cell i o) = .cell i o from rfl, h]
    simp only [fl, Option.map_eq_some_iff] at h
    obtain ⟨i, h1, rfl⟩ := h; rfl
  | row k e sz m =>
    rw [show afS σ (.row k e sz m) = .row k e sz m from rfl, h]
    obtain ⟨i, h1, rfl⟩ := SN_val_row h; rfl
  | fn g cs => simp only [fl, Option.some.injEq] at h; subst h; rfl
  | unk => simp only [fl, Option.some.injEq] at h; subst h; rfl
  | want => simp only [fl, Option.some.injEq] at h; subst h; rfl
theorem af_ofD {σ : Ren} (l : List D) : (l.map A.ofD).map (afA σ) = l.map .ofD := by
  rw [List.map_map]; apply List.map_congr_left; intro d _; cases d <;> rfl
theorem cellOk_af {σ : Ren} {m : List A} (h : m.all cellOk = true) : (m.map (afA σ)).all cellOk = true := by
  rw [List.all_eq_true] at h ⊢
  intro x hx
  obtain ⟨y, hy, rfl⟩ := List.mem_map.1 hx
  have := h y hy
  unfold afA
  split
  · split
    · rfl
    · exact this
  · exact this
theorem cellOk_ren {σ : Ren} {m : List A} (h : m.all cellOk = true) : (m.map (renA σ)).all cellOk = true := by
  rw [List.all_eq_true] at h ⊢
  intro x hx
  obtain ⟨y, hy, rfl⟩ := List.mem_map.1 hx
  have := h y hy
  unfold renA
  split
  · split <;> rfl
  · split <;> rfl
  · rfl
  · rfl
  · split <;> rfl
  · exact this
theorem flX_af {σ : Ren} : ∀ {X : List (Nat × XC)} {X' : List (Nat × List A)}, flX env X = some X' → flX env (afSX σ X) = some (afX σ X')
  | [], X', h => by simp only [flX, Option.some.injEq] at h; subst h; rfl
  | (k, c) :: X, X', h => by
    simp only [flX] at h
    split at h
    · rename_i ls Y h1 h2
      injection h with h; subst h
      simp only [afSX, afX]
      by_cases hc : (rof σ k).isSome = true
      · have hc' : rofs σ k = true := hc
        rw [if_pos hc', if_pos hc]; exact flX_af h2
      · have hc' : ¬ rofs σ k = true := hc
        rw [if_neg hc', if_neg hc]
        simp only [flX, flX_af h2]
        cases c with
        | cs l => obtain ⟨g1, g2⟩ := flC_cs_inv h1; simp only [flC_cs (mapM_map2 g1 fun _ _ h => fl_af (σ := σ) h) (cellOk_af g2)]
        | row i sz => obtain ⟨xs, g1, g2, rfl⟩ := flC_row_inv h1; simp only [af_ofD, h1]
    · cases h
theorem ren_ofD {σ : Ren} (l : List D) : (l.map A.ofD).map (renA σ) = l.map .ofD := by
  rw [List.map_map]; apply List.map_congr_left; intro d _; cases d <;> rfl
theorem flX_newY {σ : Ren} {qs : List D} (hn : env.length = n) {R : List (Nat × XC)} {R' : List (Nat × List A)} (hR : flX (env ++ qs) R = some R') : ∀ {Y : List (Nat × XC)} {Y' : List (Nat × List A)}, flX qs Y = some Y' → flX (env ++ qs) (newSY σ n R Y) = some (newY σ R' Y')
  | [], Y', h => by simp only [flX, Option.some.injEq] at h; subst h; exact hR
  | (k, c) :: Y, Y', h => by
    simp only [flX] at h
    split at h
    · rename_i ls Y' h1 h2
      injection h with h; subst h
      simp only [newSY, newY]
      have hrec := flX_newY (σ := σ) hn hR h2
      split
      · rename_i k' hk
        rw [hk]
        simp only [flX, hrec]
        cases c with
        | cs l => obtain ⟨g1, g2⟩ := flC_cs_inv h1; simp only [flC_cs (mapM_map2 g1 fun _ _ h => fl_ren (σ := σ) hn h) (cellOk_ren g2)]
        | row i sz => obtain ⟨xs, g1, g2, rfl⟩ := flC_row_inv h1; simp only [ren_ofD, flC_row (get_sh hn g1) g2]
      · rename_i hk
        rw [hk]; exact hrec
    · cases h
theorem At.back {σ : Ren} {qs : List D} (hat : At env s q) (hn : env.length = n) {Y : List (Nat × XC)} {Y' : List (Nat × List A)} (hY : flX qs Y = some Y') : At (env ++ qs) (s.back σ n Y) (q.back σ Y') := by
  have h' := (show Ext env (env ++ qs) from ⟨qs, rfl⟩).at hat
  refine ⟨mapM_map2 h'.T fun _ _ h => fl_af h, flX_newY hn (flX_af h'.X) hY, ?_⟩
  simp only [SS.back, S.back, hat.C]
theorem plainD_ok {qs : List D} (hn : env.length = n) : ∀ {rs : List SA} {rv : List A} {is : List Nat}, plainD n rs = some is → rs.mapM (fl qs) = some rv → ∃ ds, rv.mapM toD = some ds ∧ is.mapM ((env ++ qs)[·]?) = some ds
  | [], rv, is, h, hr => by simp only [plainD, Option.some.injEq] at h; subst h; simp at hr; subst hr; exact ⟨[], by simp, by simp⟩
  | b :: rs, rv, is, h, hr => by
    simp only [List.mapM_cons, Option.bind_eq_bind, Option.bind_eq_some_iff, Option.pure_def, Option.some.injEq] at hr
    obtain ⟨x, hx, rv, hr, rfl⟩ := hr
    have key : ∀ i, (∃ d, qs[i]? = some d ∧ toD x = some d) → (plainD n rs).map (fun l => (n + i) :: l) = some is → ∃ ds, (x :: rv).mapM toD = some ds ∧ is.mapM ((env ++ qs)[·]?) = some ds := by
      rintro i ⟨d, h1, h2⟩ h
      rw [Option.map_eq_some_iff] at h
      obtain ⟨is, h3, rfl⟩ := h
      obtain ⟨ds, g1, g2⟩ := plainD_ok hn h3 hr
      exact ⟨d :: ds, by simp only [List.mapM_cons, h2, g1, Option.bind_eq_bind, Option.bind_some, Option.pure_def], by simp only [List.mapM_cons, get_sh hn h1, g2, Option.bind_eq_bind, Option.bind_some, Option.pure_def]⟩
    unfold plainD at h
    split at h
    · rename_i e; cases e
    · rename_i i as e
      injection e with e1 e2; subst e1; subst e2
      simp only [fl, rf, Option.map_eq_some_iff] at hx
      obtain ⟨d, h1, rfl⟩ := hx
      exact key i ⟨d, h1, toD_ofD d⟩ h
    · rename_i e' sz i as e
      injection e with e1 e2; subst e1; subst e2
      simp only [fl] at hx
      split at hx
      · rename_i xs hi; injection hx with hx; subst hx; exact key i ⟨_, hi, rfl⟩ h
      · cases hx
    · cases h
theorem resO_ok {σ : Ren} {qs : List D} (hn : env.length = n) {rs : List SA} {rv : List A} {r : SA} (h : resO1S σ n rs = some r) (hr : rs.mapM (fl qs) = some rv) : ∃ x, resA σ rv = some x ∧ fl (env ++ qs) r = some x := by
  unfold resO1S at h
  split at h
  · rename_i b
    injection h with h; subst h
    simp only [List.mapM_cons, List.mapM_nil, Option.bind_eq_bind, Option.bind_eq_some_iff, Option.pure_def, Option.some.injEq] at hr
    obtain ⟨x, hx, _, rfl, rfl⟩ := hr
    exact ⟨_, rfl, fl_out hn hx⟩
  · rename_i hne
    rw [Option.map_eq_some_iff] at h
    obtain ⟨is, h1, rfl⟩ := h
    obtain ⟨ds, g1, g2⟩ := plainD_ok hn h1 hr
    have hl := (mapM_get hr).1
    refine ⟨.d (.tup ds), ?_, by simp only [fl, g2, Option.map_some]⟩
    unfold resA
    split
    · rename_i x
      exfalso
      match rs, hl, hne with
      | [b], _, hne => exact hne b rfl
    · rw [g1]; rfl

theorem rokB_ok : ∀ {ρ : Ren}, rokB ρ = true → rok ρ
  | [], _ => trivial
  | (a, b) :: ρ, h => by
    simp only [rokB, Bool.and_eq_true, Option.isNone_iff_eq_none] at h
    exact ⟨h.1.1, h.1.2, rokB_ok h.2⟩

theorem relen_ok {σ : Ren} {ps : List (Nat × Rf)} {ln : List (Nat × Nat)} {pd qs : List D} (hn : env.length = n) (hst : Stands env ([], ps) pd) (hln : LnOk ln pd qs) : ∀ (Y : List (Nat × XC)) {T : List SA} {m : List A}, T.mapM (fl (env ++ qs)) = some m → (relen σ ps n ln Y T).mapM (fl (env ++ qs)) = some m
  | [], T, m, h => h
  | (kc, .cs l) :: Y, T, m, h => by simp only [relen]; exact relen_ok hn hst hln Y h
  | (kc, .row j sz) :: Y, T, m, h => by
    simp only [relen]
    refine relen_ok hn hst hln Y ?_
    split
    · rename_i k j' p hk hf
      split
      · rename_i i hi
        have hmem := List.mem_of_find?_eq_some hf
        have hj := List.find?_some hf
        simp only [beq_iff_eq] at hj
        subst hj
        obtain ⟨l, mm, h1, h2, h3⟩ := hln _ hmem
        have := hst p (.v i) _ hi h1
        exact rowN_ok ((show Ext env (env ++ qs) from ⟨qs, rfl⟩).get this) (get_sh hn h2) h3 h
      · exact h
    · exact h

theorem callO_ok {g : Sg} {φ : Ren} {ys : List SA} {yv : List A} {d : Option Nat} {K : SS → Nat → M} (hat : At env s q) (h : callO g φ ys d s n K = .ok tm) (ht : TW P tm env ks R) (hn : env.length = n) (hy : ys.mapM (fl env) = some yv) :
    ∃ ρ as Xc rs Y env' n' tm' s' q', ConO P g.f as Xc rs Y ∧ rok (φ ++ ρ) ∧ rok ρ ∧ rge ρ ∧ passL ρ yv as ∧ passX ρ q.C q.X Xc ∧ K s' n' = .ok tm' ∧ TW P tm' env' ks R ∧ Ext env env' ∧ env'.length = n' ∧ At env' s' q' ∧
      (match (generalizing := false) d with | some d => ∃ x, resA (φ ++ ρ) rs = some x ∧ q' = (q.back (φ ++ ρ) Y).set d x | none => q' = q.back (φ ++ ρ) Y) := by
  unfold callO at h
  obtain ⟨env1, n1, tm1, m1, k1, k2, k3, k4, k5, k6, k7⟩ := passLS_ok h ht hn ⟨trivial, trivial⟩ hy
  have hat1 := k3.at hat
  split at k1
  · rename_i ρ ps hm
    obtain ⟨g1, g2, g3⟩ := passXS_ok hat1 hm k5
    split at k1
    · rename_i rs hrs
      split at k1
      · rename_i hrok
        have fin : ∀ {k : Tm}, TW P (.callO g rs k) env1 ks R → ∃ (psd qs : List D) (as : List A) (Xc : List (Nat × List A)) (rsv : List A) (Y : List (Nat × List A)), TW P k (env1 ++ qs) ks R ∧ qs.length = g.nr ∧ (LnOk g.ln psd qs ∧ Stands env1 (ρ, ps) psd) ∧ g.rs.mapM (fl qs) = some rsv ∧ flX qs g.Y = some Y ∧ ConO P g.f as Xc rsv Y ∧ passL ρ yv as ∧ passX ρ q.C q.X Xc ∧ psd.length = g.np := by
          rintro k ⟨psd, qs, e1, ⟨e2, e3, e10, as, X, rsv, Y, e4, e5, e6, e7, e8⟩, e9⟩
          have hst : Stands env1 (ρ, ps) psd := by
            intro p r dd h1 h2
            have hlt : p < g.np := by rw [← e2]; exact (List.getElem?_eq_some_iff.1 h2).1
            obtain ⟨r', h3, h4⟩ := (mapM_get hrs).2 p p (by rw [List.getElem?_range hlt])
            rw [h1] at h4; injection h4 with h4; subst h4
            obtain ⟨d', h5, h6⟩ := (mapM_get e1).2 p r h3
            rw [h2] at h5; injection h5 with h5; subst h5
            exact h6
          exact ⟨psd, qs, as, X, rsv, Y, e9, e3, ⟨e10, hst⟩, e6, e7, e8, k7 _ _ _ _ g2 .rfl hst e4, g3 _ _ _ _ .rfl .rfl hst e5, e2⟩
        split at k1
        · rename_i d
          split at k1
          · rename_i r hr
            split at k1
            · rename_i k hk
              injection k1 with k1; subst k1
              obtain ⟨psd, qs, as, Xc, rsv, Y, f1, f2, ⟨f9, f10⟩, f3, f4, f5, f6, f7, f8⟩ := fin k2
              have hatb := At.back (σ := φ ++ ρ) hat1 k4 f4
              have hatb : At (env1 ++ qs) { (s.back (φ ++ ρ) n1 g.Y) with T := relen (φ ++ ρ) ps n1 g.ln g.Y (s.back (φ ++ ρ) n1 g.Y).T } (q.back (φ ++ ρ) Y) := ⟨relen_ok k4 f10 f9 g.Y hatb.T, hatb.X, hatb.C⟩
              obtain ⟨x, hx1, hx2⟩ := resO_ok (env := env1) k4 hr f3
              exact ⟨ρ, as, Xc, rsv, Y, env1 ++ qs, n1 + g.nr, k, _, _, f5, rokB_ok hrok, g1.ok, g1.ge, f6, f7, hk, f1, k3.trans ⟨qs, rfl⟩, by simp [k4, f2], hatb.set hx2, x, hx1, rfl⟩
            · cases k1
          · cases k1
        · split at k1
          · rename_i k hk
            injection k1 with k1; subst k1
            obtain ⟨psd, qs, as, Xc, rsv, Y, f1, f2, ⟨f9, f10⟩, f3, f4, f5, f6, f7, f8⟩ := fin k2
            have hatb := At.back (σ := φ ++ ρ) hat1 k4 f4
            have hatb : At (env1 ++ qs) { (s.back (φ ++ ρ) n1 g.Y) with T := relen (φ ++ ρ) ps n1 g.ln g.Y (s.back (φ ++ ρ) n1 g.Y).T } (q.back (φ ++ ρ) Y) := ⟨relen_ok k4 f10 f9 g.Y hatb.T, hatb.X, hatb.C⟩
            exact ⟨ρ, as, Xc, rsv, Y, env1 ++ qs, n1 + g.nr, k, _, _, f5, rokB_ok hrok, g1.ok, g1.ge, f6, f7, hk, f1, k3.trans ⟨qs, rfl⟩, by simp [k4, f2], hatb, rfl⟩
          · cases k1
      · cases k1
    · cases k1
  · cases k1
end
end Go.Proofs.Ytidnkaopndmigaa.V
end
section
set_option linter.unusedSimpArgs false
set_option linter.unusedVariables false
/- Frames: one operation, and one after the other. -/
namespace Go.Proofs.Ytidnkaopndmigaa.V
open Go.RowKit

variable {P : Program} {B : Nat → Nat → Prop} {M0 : Fr} {w w0 : World}
section
variable {env : List D} {s : SS} {q : S} {n dk : Nat} {ks : List (List D → Prop)} {R : List D → Prop} {tm : Tm} {a : Act}

/-- What is left to be shown behind an operation. -/
abbrev Next (P : Program) (B : Nat → Nat → Prop) (M0 : Fr) (w0 : World) (K : Kt) (dk : Nat) (env : List D) (ks : List (List D → Prop)) (R : List D → Prop) (next : Act → World → Prop) : Prop :=
  ∀ s' n' tm' env' q' a' w', K s' n' dk = .ok tm' → TW P tm' env' ks R → Ext env env' → env'.length = n' → At env' s' q' → Holds B M0 w0 q' a' w' → next a' w'

theorem value_wp {o : Oper} {d : Nat} {c : Prop} {x : A} {e : Eff} {next : Act → World → Prop} {Q : Exit → Act → World → Prop} (hd : o.dst = some d) (hh : Holds B M0 w0 q a w)
    (ha : aval P (pre o.op d q).T (pre o.op d q).X (pre o.op d q).C d o.op = some (c, x, e)) (hc : c) (hn : ∀ a' w', Holds B M0 w0 ((pre o.op d q).put d x e) a' w' → next a' w') : o.wp P a w next Q := by
  obtain ⟨p, hr, hdf, hb, h1, h2⟩ := pre_ok o.op d hh
  obtain ⟨v, w', p', h3, h4⟩ := aval_sound hr h1 h2 ha hc
  unfold Oper.wp
  rw [h3, Oper.upon_value, hd]
  exact hn _ _ ⟨p', hr.put h4, hdf, hb.trans h4.below⟩

theorem At.pre (hat : At env s q) (op : Op) (d : Nat) : At env (preS op d s) (V.pre op d q) := by
  unfold preS V.pre
  split
  · exact hat.clean [] [d]
  · split
    · exact hat.clean [.t d] []
    · exact hat

theorem At.putU (hat : At env s q) {d : Nat} {b : SA} {y : A} {us : List Loc} (h : fl env b = some y) : At env { (s.set d b) with C := us ++ s.C } (q.put d y { use := us }) := by
  have := hat.set (d := d) h
  exact ⟨this.T, hat.X, by simp only [S.put, hat.C]⟩
theorem At.putN (hat : At env s q) {d : Nat} {b : SA} {xc : XC} {y : A} {ls : List A} (h : fl env b = some y) (hx : flC env xc = some ls) : At env { (s.set d b) with X := (d, xc) :: s.X } (q.put d y { new := some ls }) := by
  have := hat.set (d := d) h
  exact ⟨this.T, by simp only [S.put, flX, hx, hat.X], by simp only [S.put, List.nil_append]; exact hat.C⟩

theorem valS_wp {c : Cx} {o : Oper} {d : Nat} {K : Kt} {next : Act → World → Prop} {Q : Exit → Act → World → Prop} (hc : c.P = P) (hd : o.dst = some d) (hat : At env s q) (hh : Holds B M0 w0 q a w)
    (h : (valS c d o.op (preS o.op d s) (preS o.op d s).X n fun b n => K { ((preS o.op d s).set d b) with C := useS o.op (preS o.op d s) ++ (preS o.op d s).C } n dk) = .ok tm) (ht : TW P tm env ks R) (hn : env.length = n)
    (hnext : Next P B M0 w0 K dk env ks R next) : o.wp P a w next Q := by
  have hatp := hat.pre o.op d
  obtain ⟨b, env', n', tm', y, cd, k1, k2, k3, k4, k5, k6, k7⟩ := valS_ok hc hatp hatp.X h ht hn
  exact value_wp hd hh k6 k7 fun a' w' hh' => hnext _ _ _ _ _ _ _ k1 k2 k3 k4 ((k3.at hatp).putU k5) hh'

theorem opAs_ok (hat : At env s q) : ∀ {xs : List Operand} {ys : List SA}, xs.mapM (opA s) = some ys → ∃ yv, xs.mapM (opnd q.T) = some yv ∧ ys.mapM (fl env) = some yv
  | [], ys, h => by simp at h; subst h; exact ⟨[], by simp, by simp⟩
  | x :: xs, ys, h => by
    simp only [List.mapM_cons, Option.bind_eq_bind, Option.bind_eq_some_iff, Option.pure_def, Option.some.injEq] at h
    obtain ⟨y, h1, ys, h2, rfl⟩ := h
    obtain ⟨yv, g1, g2⟩ := opAs_ok hat h2
    obtain ⟨y', g3, g4⟩ := hat.opA h1
    exact ⟨y' :: yv, by simp only [List.mapM_cons, g3, g1, Option.bind_eq_bind, Option.bind_some, Option.pure_def], by simp only [List.mapM_cons, g4, g2, Option.bind_eq_bind, Option.bind_some, Option.pure_def]⟩
theorem args_va {p : Pm} {C : List Loc} {T : List A} {X : List (Nat × List A)} {act : Act} (hr : Rel B M0 p C T X act.tmps w) : ∀ {xs : List Operand} {ys : List A}, xs.mapM (opnd T) = some ys → xs.length = ys.length ∧ ∀ (i : Nat) y v, ys[i]? = some y → (xs.map act.eval)[i]? = some v → VA w (p.M M0) p C (.t 0) y v
  | [], ys, h => by simp at h; subst h; exact ⟨rfl, fun i y v h => by simp at h⟩
  | x :: xs, ys, h => by
    simp only [List.mapM_cons, Option.bind_eq_bind, Option.bind_eq_some_iff, Option.pure_def, Option.some.injEq] at h
    obtain ⟨y, hy, ys', hys', rfl⟩ := h
    obtain ⟨h1, h2⟩ := args_va hr hys'
    refine ⟨by simp [h1], fun i z v hz hv => ?_⟩
    cases i with
    | zero => simp at hz hv; subst hz; subst hv; exact opnd_va hr hy
    | succ i => simp at hz hv; exact h2 i z v hz (by simpa using hv)
theorem capsS_fl : ∀ (cs : List (Nat × Nat)), (capsS cs).mapM (fl env) = some (cs.map fun x => .box x.1 x.2)
  | [] => by simp [capsS]
  | x :: cs => by
    have := capsS_fl cs
    simp only [capsS, List.map_cons, List.mapM_cons, fl, Option.bind_eq_bind, Option.bind_some, Option.pure_def] at this ⊢
    rw [this]; rfl
theorem freshS_lt {rs : List SA} {d : Option Nat} {φ : Ren} (h : freshS rs d = some φ) : rlt φ := by
  unfold freshS at h
  split at h
  · split at h
    · split at h
      · rename_i hd; injection h with h; subst h; exact ⟨hd, trivial⟩
      · cases h
    · injection h with h; subst h; trivial
  · split at h
    · split at h
      · rename_i hd; injection h with h; subst h; exact ⟨hd, trivial⟩
      · cases h
    · injection h with h; subst h; trivial
  · injection h with h; subst h; trivial
theorem sgOf_f : ∀ {gs : List Sg} {f : FuncId} {ys : List SA} {g : Sg}, sgOf gs f ys = some g → g.f = f
  | [], _, _, _, h => by simp [sgOf] at h
  | g :: gs, f, ys, g', h => by
    simp only [sgOf] at h
    split at h
    · rename_i hc; injection h with h; subst h; exact hc.1
    · exact sgOf_f h

theorem invS_wp {c : Cx} {o : Oper} {x : Operand} {args : Array Operand} {ats : Array TypeId} {f : FuncId} {cs : List (Nat × Nat)} {K : SS → Nat → M} {next : Act → World → Prop} {Q : Exit → Act → World → Prop} (ho : o.op = .call ⟨.value x, args, ats⟩) (hat : At env s q) (hh : Holds B M0 w0 q a w)
    (hx : opA s x = some (.fn f cs)) (h : invS c f x cs args.toList o.dst s n K = .ok tm) (ht : TW P tm env ks R) (hn : env.length = n)
    (hnext : Next P B M0 w0 (fun s n _ => K s n) dk env ks R next) : o.wp P a w next Q := by
  obtain ⟨yx, hx1, hx2⟩ := hat.opA hx
  simp only [fl, Option.some.injEq] at hx2; subst hx2
  unfold invS at h
  split at h
  · rename_i ys0 hys0
    split at h
    · rename_i g hg
      have hgf := sgOf_f hg
      split at h
      · rename_i φ hφ
        split at h
        · rename_i ys g' cs' hys hxc
          have hatc := hat.clean [] (φ.map (·.2))
          obtain ⟨yv, hyv1, hyv2⟩ := opAs_ok hatc hys
          obtain ⟨yc, hc1, hc2⟩ := hatc.opA hxc
          simp only [fl, Option.some.injEq] at hc2; subst hc2
          obtain ⟨ρ, as, Xc, rs, Y, env', n', tm', s', q', k1, k2, k3, k4, k5, k6, k7, k8, k9, k10, k11, k12⟩ := callO_ok hatc h ht hn (mapM_app hyv2 (capsS_fl cs'))
          rw [hgf] at k1
          obtain ⟨vs, hrun, hvl, hvs⟩ := enter_run ho hx1 hh k1.enters
          unfold Oper.wp
          rw [hrun, Oper.upon_enter]
          have hcall := conO_callV (vs := args.toList.map a.eval ++ vs) hh k1 k2 k3 (rge_get k4) (rlt_get (freshS_lt hφ)) (ys := yv ++ cs'.map fun x => .box x.1 x.2) (fun p hr => by
            obtain ⟨e1, e2⟩ := args_va hr hyv1
            obtain ⟨e3, e4⟩ := hvs p _ _ _ _ _ hr hc1
            have hlen : (args.toList.map a.eval).length = yv.length := by rw [List.length_map]; exact e1
            refine ⟨by rw [List.length_append, List.length_append, hlen, e3, List.length_map], fun i y v hy hv => ?_⟩
            rw [List.getElem?_append] at hy hv
            rw [hlen] at hv
            split at hy
            · rename_i hlt; rw [if_pos hlt] at hv; exact e2 i y v hy hv
            · rename_i hlt
              rw [if_neg hlt] at hv
              rw [List.getElem?_map, Option.map_eq_some_iff] at hy
              obtain ⟨⟨k, o⟩, hk, rfl⟩ := hy
              obtain ⟨b, hb1, hb2⟩ := e4 _ k o hk
              rw [hb2] at hv; injection hv with hv; subst hv
              exact ⟨b, hb1, rfl⟩) k5 k6
          refine hcall.mono fun e w' hh' => ?_
          obtain ⟨v, rfl, h1, h2⟩ := hh'
          cases hd : o.dst with
          | none =>
            rw [hd] at k12
            simp only at k12
            subst k12
            exact hnext _ _ _ _ _ _ _ k7 k8 k9 k10 k11 h2
          | some d =>
            rw [hd] at k12
            obtain ⟨x, hx1, rfl⟩ := k12
            exact hnext _ _ _ _ _ _ _ k7 k8 k9 k10 k11 (h1 d x hx1)
        · cases h
      · cases h
    · split at h
      · rename_i hcs
        have hcs' : cs = [] := by simpa using hcs
        subst hcs'
        obtain ⟨q1, hat1, hh1⟩ := frzL_ok args.toList hat hh
        obtain ⟨ds, qs, env', n', b, tm', k1, k2, k3, k4, k5, k6, k7⟩ := callS_ok hat1 h ht hn
        obtain ⟨vs, hrun, hvl, _⟩ := enter_run ho hx1 hh k2.enters
        have hvs0 : vs = [] := List.eq_nil_of_length_eq_zero hvl
        subst hvs0
        rw [List.append_nil] at hrun
        unfold Oper.wp
        rw [hrun, Oper.upon_enter]
        obtain ⟨p, hr, hdf, hb⟩ := hh1
        have hM : ∀ b i, p.M M0 b i → b < w.heap.size := fun b i hm => M_lt hr.ok hm
        have hcc := k2.spec (p.M M0) w (args.toList.map a.eval) hM (argsD_sound hr k1)
        refine hcc.mono fun e w' hh' => ?_
        obtain ⟨v, rfl, hv, hbel⟩ := hh'
        have hr' := hr.below hbel
        cases hd : o.dst with
        | none => rw [hd] at k3; exact hnext _ _ _ _ _ _ _ k3 k4 k5 k6 (k5.at hat1) ⟨p, hr', hdf, hb.trans (Away.of_below hbel)⟩
        | some d =>
          rw [hd] at k3
          exact hnext _ _ _ _ _ _ _ k3 k4 k5 k6 ((k5.at hat1).set k7) ⟨p, hr'.set (VA.ofD hv), hdf, hb.trans (Away.of_below hbel)⟩
      · cases h
  · cases h

theorem stepS_ok {c : Cx} {o : Oper} {K : Kt} {next : Act → World → Prop} {Q : Exit → Act → World → Prop} (hc : c.P = P) (hat0 : At env s q) (hh0 : Holds B M0 w0 q a w) (h : stepS c o s n dk K = .ok tm) (ht : TW P tm env ks R) (hn : env.length = n)
    (hnext : Next P B M0 w0 K dk env ks R next) : o.wp P a w next Q := by
  unfold stepS at h
  obtain ⟨q1, hat, hh⟩ := frzL_ok (frzOps o.op) hat0 hh0
  generalize frzL s (frzOps o.op) = s1 at h hat
  simp only [] at h
  split at h
  · rename_i x d ho hd
    split at h
    · rename_i s' hs
      obtain ⟨q', hq', hat'⟩ := asgS_ok hat hs
      unfold Oper.wp
      simp only [execOp, ho, Sem.run_pure, Oper.upon_value, hd]
      exact hnext _ _ _ _ _ _ _ h ht .rfl hn hat' (asg_sound hh hq')
    · cases h
  · rename_i t ad x ho hd
    obtain ⟨s', env', n', tm', q', w', k1, k2, k3, k4, k5, k6, k7⟩ := stoS_ok hc hat hh h ht hn
    unfold Oper.wp
    simp only [execOp, ho, Sem.run_bind, k6, Result.andThen_ok, Sem.run_pure, Oper.upon_skip, hd]
    exact hnext _ _ _ _ _ _ _ k1 k2 k3 k4 k5 k7
  · rename_i x args ats ho
    split at h
    · rename_i f cs hx
      exact invS_wp (dk := dk) (K := fun s n => K s n dk) ho hat hh hx h ht hn fun s' n' tm' env' q' a' w' h1 => hnext s' n' tm' env' q' a' w' h1
    · cases h
  · rename_i args ats d ho hd
    split at h
    · rename_i x y t t' hx hts
      split at h
      · obtain ⟨s', env', n', tm', q', v, w', k1, k2, k3, k4, k5, k6, k7⟩ := appG_ok (ty := o.type) hc hat hh h ht hn
        obtain ⟨args⟩ := args
        obtain ⟨ats⟩ := ats
        simp only at hx hts
        subst hx; subst hts
        obtain ⟨g1, g2⟩ := call_builtin (P := P) (ρ := a.eval) (b := .append) ho rfl
        unfold Oper.wp
        have hrun : (execOp a.eval o).run P w = .ok (.value v) w' := by
          rw [g1, g2 w]
          simp only [builtin]
          exact run_v (by simpa using k6)
        rw [hrun, Oper.upon_value, hd]
        exact hnext _ _ _ _ _ _ _ k1 k2 k3 k4 k5 k7
      · exact valS_wp hc hd hat hh h ht hn hnext
    · cases h
  · rename_i t x ty d ho hd
    split at h
    · rename_i hel
      split at h
      · rename_i r hr0
        obtain ⟨dd, hr1, hr2⟩ := opR_ok hat hr0
        split at h
        · rename_i k hk
          injection h with h; subst h
          obtain ⟨xs, e1, e2⟩ := ht
          rw [hr1] at e1
          have hxs := n1_list e1
          rw [hxs] at hr2
          have hst : stepx P o q1 fun q' => ∃ s' n' tm' env', K s' n' dk = .ok tm' ∧ TW P tm' env' ks R ∧ Ext env env' ∧ env'.length = n' ∧ At env' s' q' := by
            unfold stepx
            rw [ho, hd]
            simp only []
            rw [if_pos (by rw [← hc]; exact hel), hr2]
            intro b hb
            exact ⟨_, _, _, _, hk, e2 b hb, .one, by simp [hn], ((Ext.one).at hat).set (by simp [fl, rf, ← hn, A.ofD])⟩
          exact stepx_sound hst hh fun q' a' w' ⟨s', n', tm', env', k1, k2, k3, k4, k5⟩ hh' => hnext _ _ _ _ _ _ _ k1 k2 k3 k4 k5 hh'
        · cases h
      · cases h
    · cases h
  · rename_i d hd _ _ _ _
    split at h
    · have hatp := hat.pre o.op d
      obtain ⟨b, xc, env', n', tm', y, ls, cd, k1, k2, k3, k4, k5, k6, k7, k8⟩ := newS_ok (Y := (pre o.op d q1).X) hc hatp h ht hn
      exact value_wp hd hh k7 k8 fun a' w' hh' => hnext _ _ _ _ _ _ _ k1 k2 k3 k4 ((k3.at hatp).putN k5 k6) hh'
    · exact valS_wp hc hd hat hh h ht hn hnext
  · cases h

/-! Guards. -/
theorem At.same (hat : At env s q) {dj : Nat} {y : A} {b : SA} (hj : q.T[dj]? = some y) (hb : fl env b = some y) : At env (s.set dj b) q := by
  have := hat.set (d := dj) hb
  have e : q.set dj y = q := by
    obtain ⟨T, X, C⟩ := q
    simp only [S.set]
    congr 1
    obtain ⟨hlt, h⟩ := List.getElem?_eq_some_iff.1 hj
    rw [← h]; exact List.set_getElem_self hlt
  rw [e] at this; exact this

theorem guardS_ok {ops : Array Oper} {o : Oper} {go skip : SS → M} (hat : At env s q) (h : guardS ops o.guard s go skip = .ok tm) (ht : TW P tm env ks R) :
    ∃ s' tm', At env s' q ∧ TW P tm' env ks R ∧ ((go s' = .ok tm' ∧ (o.guard = none ∨ ∃ j want dj, o.guard = some (j, want) ∧ (ops[j]?).bind (·.dst) = some dj ∧ q.T[dj]? = some (.d (.bool want)))) ∨
      (skip s' = .ok tm' ∧ ∃ j want dj, o.guard = some (j, want) ∧ (ops[j]?).bind (·.dst) = some dj ∧ ((∃ b, q.T[dj]? = some (.d (.bool b)) ∧ b ≠ want) ∨ q.T[dj]? = some und))) := by
  unfold guardS at h
  split at h
  · rename_i hg; exact ⟨s, tm, hat, ht, .inl ⟨h, .inl hg⟩⟩
  · rename_i j want hg
    split at h
    · rename_i dj hdj
      split at h
      · rename_i b hb
        obtain ⟨y, h1, h2⟩ := hat.get hb
        simp only [fl, rf, Kc.d, Option.map_some, Option.some.injEq] at h2; subst h2
        split at h
        · rename_i e; subst e; exact ⟨s, tm, hat, ht, .inl ⟨h, .inr ⟨_, _, _, hg, hdj, h1⟩⟩⟩
        · rename_i e; exact ⟨s, tm, hat, ht, .inr ⟨h, _, _, _, hg, hdj, .inl ⟨b, h1, e⟩⟩⟩
      · rename_i hb
        obtain ⟨y, h1, h2⟩ := hat.get hb
        simp [fl] at h2; subst h2
        exact ⟨s, tm, hat, ht, .inr ⟨h, _, _, _, hg, hdj, .inr h1⟩⟩
      · rename_i i hb
        obtain ⟨y, h1, h2⟩ := hat.get hb
        unfold iteK at h
        split at h
        · rename_i ta tb ha hb
          injection h with h; subst h
          obtain ⟨t, e1, e2, e3⟩ := ht
          simp only [fl, rf, e1, Option.map_some, Option.some.injEq] at h2; subst h2
          have hat' : At env (s.set dj (.d (.k (.bool t)))) q := hat.same h1 rfl
          have pick : ∀ (t : Bool) (tm : Tm) (_ : q.T[dj]? = some (.d (.bool t))), At env (s.set dj (.d (.k (.bool t)))) q → TW P tm env ks R → (if t = want then go (s.set dj (.d (.k (.bool t)))) else skip (s.set dj (.d (.k (.bool t))))) = .ok tm → ∃ s' tm', At env s' q ∧ TW P tm' env ks R ∧ ((go s' = .ok tm' ∧ (o.guard = none ∨ ∃ j want dj, o.guard = some (j, want) ∧ (ops[j]?).bind (·.dst) = some dj ∧ q.T[dj]? = some (.d (.bool want)))) ∨
      (skip s' = .ok tm' ∧ ∃ j want dj, o.guard = some (j, want) ∧ (ops[j]?).bind (·.dst) = some dj ∧ ((∃ b, q.T[dj]? = some (.d (.bool b)) ∧ b ≠ want) ∨ q.T[dj]? = some und))) := by
            intro t tm hq hat' ht' h
            by_cases e : t = want
            · rw [if_pos e] at h; subst e; exact ⟨_, tm, hat', ht', .inl ⟨h, .inr ⟨_, _, _, hg, hdj, hq⟩⟩⟩
            · rw [if_neg e] at h; exact ⟨_, tm, hat', ht', .inr ⟨h, _, _, _, hg, hdj, .inl ⟨t, hq, e⟩⟩⟩
          cases t with
          | true => exact pick true _ h1 hat' (e2 rfl) ha
          | false => exact pick false _ h1 hat' (e3 rfl) hb
        · cases h
        · cases h
      · cases h
    · cases h

theorem seqS_ok {c : Cx} {ops : Array Oper} {K : Kt} {Q : Exit → Act → World → Prop} (hc : c.P = P) : ∀ (l : List Oper) {env : List D} {s : SS} {q : S} {n : Nat} {tm : Tm} {a : Act} {w : World}, At env s q → Holds B M0 w0 q a w → seqS c ops l s n dk K = .ok tm → TW P tm env ks R → env.length = n →
    Next P B M0 w0 K dk env ks R (Q .normal) → wpList P ops Q l a w
  | [], env, s, q, n, tm, a, w, hat, hh, h, ht, hn, hnext => hnext _ _ _ _ _ _ _ h ht .rfl hn hat hh
  | o :: rest, env, s, q, n, tm, a, w, hat, hh, h, ht, hn, hnext => by
    simp only [seqS] at h
    obtain ⟨s', tm', hat', ht', h⟩ := guardS_ok hat h ht
    rcases h with ⟨h, hg⟩ | ⟨h, j, want, dj, hg, hdj, hv⟩
    · unfold wpList
      have hw : Region.wanted o (yielded ops a.tmps) = true := by
        rcases hg with hg | ⟨j, want, dj, hg, hdj, hv⟩
        · simp [Region.wanted, hg]
        · obtain ⟨p, hr, _, _⟩ := hh
          simp [Region.wanted, hg, yielded_of hr hdj hv]
      rw [if_pos hw]
      exact .inl (stepS_ok (K := fun s n dk => seqS c ops rest s n dk K) hc hat' hh h ht' hn fun s1 n1 tm1 env1 q1 a1 w1 k1 k2 k3 k4 k5 k6 =>
        seqS_ok hc rest k5 k6 k1 k2 k4 fun s2 n2 tm2 env2 q2 a2 w2 g1 g2 g3 => hnext s2 n2 tm2 env2 q2 a2 w2 g1 g2 (k3.trans g3))
    · have hw : ¬ Region.wanted o (yielded ops a.tmps) = true := by
        obtain ⟨p, hr, _, _⟩ := hh
        rcases hv with ⟨b, hv, hne⟩ | hv
        · simp [Region.wanted, hg, yielded_of hr hdj hv, hne]
        · simp [Region.wanted, hg, yielded_und hr hdj hv]
      unfold wpList
      rw [if_neg hw]
      obtain ⟨p, hr, hdf, hb⟩ := hh
      cases hd : o.dst with
      | none =>
        rw [hd] at h
        exact seqS_ok hc rest hat' ⟨p, hr, hdf, hb⟩ h ht' hn hnext
      | some d =>
        rw [hd] at h
        exact seqS_ok hc rest (hat'.set (d := d) (a := .tup []) (x := und) (by simp [fl, und])) ⟨p, hr.set va_und, hdf, hb⟩ h ht' hn hnext

end
end Go.Proofs.Ytidnkaopndmigaa.V
end
section
set_option linter.unusedSimpArgs false
set_option linter.unusedVariables false
/- Frames: a statement whose order is open. -/
namespace Go.Proofs.Ytidnkaopndmigaa.V
open Go.RowKit

variable {P : Program} {B : Nat → Nat → Prop} {M0 : Fr} {w w0 : World}

theorem masks_len : ∀ (os : List Oper) (acc : List Nat), (masks acc os).length = acc.length + os.length
  | [], acc => rfl
  | o :: os, acc => by simp only [masks, masks_len os, List.length_append, List.length_cons, List.length_nil]; omega

def fwd (acs : List Ac) (s : S) : S := acs.foldl (fun s ac => ac.act s) s
theorem runL_fwd {j : Nat} : ∀ (acs : List Ac) (i : Nat) (s : S), runL (fun k => decide (k < j)) i acs s = fwd (acs.take (j - i)) s
  | [], i, s => by simp [runL, fwd]
  | ac :: acs, i, s => by
    simp only [runL]
    rw [runL_fwd acs (i + 1)]
    by_cases h : i < j
    · rw [show j - i = (j - (i + 1)) + 1 from by omega]
      simp [h, fwd]
    · rw [show j - i = 0 from by omega, show j - (i + 1) = 0 from by omega]
      simp [h, fwd]
theorem runL_all : ∀ (acs : List Ac) (i : Nat) (s : S), runL (fun _ => true) i acs s = fwd acs s
  | [], i, s => rfl
  | ac :: acs, i, s => by simp only [runL, runL_all acs, if_true]; rfl

section
variable {env : List D} {s : SS} {q : S} {n dk : Nat} {ks : List (List D → Prop)} {R : List D → Prop} {tm : Tm} {a : Act}

theorem fl_plain {b : SA} {y : A} (h2 : fl env b = some y) : fl env (plainS b) = some (plainA y) := by
  cases b with
  | d r => have h3 := h2; simp only [fl, Option.map_eq_some_iff] at h3; obtain ⟨dd, _, rfl⟩ := h3; simp only [plainS]; rw [h2]; cases dd <;> rfl
  | tup is => have h3 := h2; simp only [fl, Option.map_eq_some_iff] at h3; obtain ⟨dd, _, rfl⟩ := h3; exact h2
  | agg rs => obtain ⟨ds, _, _, rfl⟩ := fl_agg h2; exact h2
  | grow e sz i =>
    simp only [fl] at h2
    split at h2
    · rename_i xs hxs; injection h2 with h2; subst h2; simp only [plainS, fl, rf, hxs, Option.map_some]; rfl
    · cases h2
  | bor l e sz i =>
    simp only [fl] at h2
    split at h2
    · rename_i xs hxs; injection h2 with h2; subst h2; simp only [plainS, fl, rf, hxs, Option.map_some]; rfl
    · cases h2
  | box k o => have h3 := h2; simp only [fl, Option.some.injEq] at h3; subst h3; exact h2
  | boxi k ix sz j => have h3 := h2; simp only [fl, Option.map_eq_some_iff] at h3; obtain ⟨dd, _, rfl⟩ := h3; exact h2
  | cell i o => have h3 := h2; simp only [fl, Option.map_eq_some_iff] at h3; obtain ⟨dd, _, rfl⟩ := h3; exact h2
  | row k e sz n => have h3 := h2; simp only [fl, Option.map_eq_some_iff] at h3; obtain ⟨dd, _, rfl⟩ := h3; exact h2
  | fn g cs => have h3 := h2; simp only [fl, Option.some.injEq] at h3; subst h3; exact h2
  | unk => have h3 := h2; simp only [fl, Option.some.injEq] at h3; subst h3; exact h2
  | want => have h3 := h2; simp only [fl, Option.some.injEq] at h3; subst h3; exact h2

theorem act_put {d : Nat} {y : A} {e : Eff} : Ac.act ⟨some d, y, e, none⟩ q = q.put d y e := by
  simp only [Ac.act, S.put, newX]
  cases e.new <;> rfl
theorem wr_use {d : Option Nat} {y : A} {us : List Loc} : Ac.wr ⟨d, y, { use := us }, none⟩ = [] := rfl

theorem pre1_ok {c : Cx} {o : Oper} {K : SS → Nat → M} (hc : c.P = P) (hat : At env s q) (h : pre1 c o s n K = .ok tm) (ht : TW P tm env ks R) (hn : env.length = n) :
    ∃ ac s' env' n' tm', AVal P q o ac ∧ K s' n' = .ok tm' ∧ TW P tm' env' ks R ∧ Ext env env' ∧ env'.length = n' ∧ At env' s' (ac.act q) ∧ ∀ k ∈ ac.wr, k ∈ wrS o s := by
  have valCase : ∀ (d : Nat), o.dst = some d → (valS c d o.op s s.X n fun b n => K { (s.set d b) with C := useS o.op s ++ s.C } n) = .ok tm → ∃ ac s' env' n' tm', AVal P q o ac ∧ K s' n' = .ok tm' ∧ TW P tm' env' ks R ∧ Ext env env' ∧ env'.length = n' ∧ At env' s' (ac.act q) ∧ ∀ k ∈ ac.wr, k ∈ wrS o s := by
    intro d hd h
    obtain ⟨b, env', n', tm', y, cd, k1, k2, k3, k4, k5, k6, k7⟩ := valS_ok hc hat hat.X h ht hn
    refine ⟨⟨some d, y, { use := useS o.op s }, none⟩, _, env', n', tm', .inr (.inr (.inr ⟨cd, d, y, _, hd, k6, k7, rfl⟩)), k1, k2, k3, k4, ?_, fun k hk => ?_⟩
    · rw [act_put]; exact (k3.at hat).putU k5
    · rw [wr_use] at hk; cases hk
  unfold pre1 at h
  split at h
  · rename_i f args ats d ho hd
    obtain ⟨ds, qs, env', n', b, tm', k1, k2, k3, k4, k5, k6, k7⟩ := callS_ok hat h ht hn
    refine ⟨⟨some d, .ofD (tupD qs), {}, none⟩, _, env', n', tm', .inr (.inr (.inl ⟨f, args, ats, ds, _, d, ho, hd, k1, k2, rfl⟩)), k3, k4, k5, k6, ?_, fun k hk => ?_⟩
    · rw [act_put]; exact (k5.at hat).putU (us := []) k7
    · cases hk
  · rename_i args ats d ho hd
    split at h
    · exact valCase d hd h
    · cases h
  · rename_i x d ho hd
    split at h
    · rename_i b hb
      obtain ⟨y, h1, h2⟩ := hat.opA hb
      refine ⟨⟨some d, plainA y, {}, none⟩, _, env, n, tm, .inl ⟨x, d, y, ho, hd, h1, rfl⟩, h, ht, .rfl, hn, ?_, fun k hk => ?_⟩
      · rw [act_put]; exact hat.putU (us := []) (fl_plain h2)
      · cases hk
    · cases h
  · rename_i t ad x ho hd
    split at h
    · rename_i k off ag sz had hag hsz
      obtain ⟨ya, h1, h2⟩ := hat.opA had
      simp only [fl, Option.some.injEq] at h2; subst h2
      split at h
      · rename_i l hl
        obtain ⟨ls, hlk, hls⟩ := hat.lk hl
        obtain ⟨hm, hok⟩ := flC_cs_inv hls
        have hlen := (mapM_get hm).1
        split at h
        · rename_i hcond
          obtain ⟨hof, hag1⟩ := hcond
          rw [hc] at h hag hsz
          obtain ⟨rs, env1, n1, tm1, ds, d, k1, k2, k3, k4, k5, k6, k7, k8, k9, k10, k11⟩ := cellsK_ok hat h ht hn
          rw [hsz] at k9; injection k9 with k9; subst k9
          have hp : stoP P q.T q.X t ad x = some (k, off, ds.map .ofD) := by
            simp only [stoP, h1, hlk, hag, hsz]
            rcases k11 with ⟨g1, rfl⟩ | ⟨g1, rfl⟩
            · rw [hag] at g1; injection g1 with g1; subst g1
              simp only [k6]
              rw [if_pos ⟨by trivial, by omega, k8⟩]
            · rw [hag] at g1; injection g1 with g1; subst g1
              simp only [k6]
              simp only [List.all_cons, List.all_nil, Bool.and_true] at k8
              simp only [List.length_cons, List.length_nil] at hof
              simp only [List.length_cons, List.length_nil]
              rw [if_pos ⟨by omega, k8⟩]; rfl
          have hat1 := k3.at hat
          refine ⟨⟨none, .unk, {}, some (k, off, ds.map .ofD)⟩, _, env1, n1, tm1, .inr (.inl ⟨t, ad, x, k, off, _, _, ho, hd, hp, wk_refl' _, rfl⟩), k1, k2, k3, k4, ⟨hat1.T, ?_, by simp only [Ac.act, List.nil_append]; exact hat.C⟩, fun k' hk' => ?_⟩
          · simp only [Ac.act]
            unfold splX
            rw [hlk]
            simp only [List.length_map]
            have hm1 := mapM_congr hm fun _ _ _ hx => k3.fl hx
            refine flX_upd (flC_cs (mapM_app (mapM_app (mapM_take hm1 off) (map_d_fl k5)) (mapM_drop hm1 _)) ?_) hat1.X
            simp only [List.all_append, all_take hok, all_drop hok, cellOk_ofD k8, Bool.and_self]
          · simp only [Ac.wr, List.mem_singleton] at hk'
            subst hk'
            simp [wrS, ho, had]
        · cases h
      · cases h
    · rename_i k ix sz' j ag sz had hag hsz
      split at h
      · rename_i i sz'' hl
        obtain ⟨as0, as1, off, s', env', n', tm', g1, g2, g3, g4, g5, g6, g7⟩ := stoI_ok hc hat had hag hsz hl h ht hn
        refine ⟨⟨none, .unk, {}, some (k, off, as1)⟩, s', env', n', tm', .inr (.inl ⟨t, ad, x, k, off, as0, as1, ho, hd, g1, g2, rfl⟩), g3, g4, g5, g6, ?_, fun k' hk' => ?_⟩
        · exact ⟨g7.T, g7.X, by simp only [Ac.act, List.nil_append]; exact g7.C⟩
        · simp only [Ac.wr, List.mem_singleton] at hk'
          subst hk'
          simp [wrS, ho, had]
      · cases h
    · cases h
  · rename_i d hd _ _ _
    split at h
    · rename_i hnb
      obtain ⟨b, xc, env', n', tm', y, ls, cd, k1, k2, k3, k4, k5, k6, k7, k8⟩ := newS_ok (Y := q.X) hc hat h ht hn
      refine ⟨⟨some d, y, { new := some ls }, none⟩, _, env', n', tm', .inr (.inr (.inr ⟨cd, d, y, _, hd, k7, k8, rfl⟩)), k1, k2, k3, k4, ?_, fun k hk => ?_⟩
      · rw [act_put]; exact (k3.at hat).putN k5 k6
      · simp only [Ac.wr, Option.isSome_some, if_true, Option.toList_some, List.mem_singleton] at hk
        subst hk
        unfold wrS
        split
        · rename_i ho; rw [ho] at hnb; simp [needBox] at hnb
        · rw [if_pos hnb, hd]; simp
    · exact valCase d hd h
  · cases h

theorem opA_box (hat : At env s q) {x : Operand} {k off : Nat} (h : opnd q.T x = some (.box k off)) : (∃ o, opA s x = some (.box k o)) ∨ ∃ ix sz j, opA s x = some (.boxi k ix sz j) := by
  cases x with
  | tmp t =>
    simp only [opnd, Option.map_eq_some_iff] at h
    obtain ⟨y, h1, h2⟩ := h
    have hlt : t < s.T.length := by rw [← hat.len]; exact (List.getElem?_eq_some_iff.1 h1).1
    obtain ⟨y', h3, h4⟩ := hat.get (List.getElem?_eq_getElem hlt)
    rw [h1] at h3; injection h3 with h3; subst h3
    have hyb : y = .box k off := by cases y <;> simp [lend] at h2 <;> simp [h2]
    subst hyb
    simp only [opA, List.getElem?_eq_getElem hlt, Option.map_some, Option.some.injEq]
    cases hs : s.T[t] with
    | box k' o => rw [hs] at h4; simp only [fl, Option.some.injEq, A.box.injEq] at h4; obtain ⟨rfl, rfl⟩ := h4; exact .inl ⟨_, rfl⟩
    | boxi k' ix sz j => rw [hs] at h4; simp only [fl, Option.map_eq_some_iff, A.box.injEq] at h4; obtain ⟨_, _, rfl, _⟩ := h4; exact .inr ⟨_, _, _, rfl⟩
    | d r => rw [hs] at h4; simp only [fl, Option.map_eq_some_iff] at h4; obtain ⟨dd, _, h4⟩ := h4; cases dd <;> cases h4
    | tup is => rw [hs] at h4; simp only [fl, Option.map_eq_some_iff] at h4; obtain ⟨dd, _, h4⟩ := h4; cases h4
    | agg rs => rw [hs] at h4; obtain ⟨_, _, _, h4⟩ := fl_agg h4; cases h4
    | grow e sz i => rw [hs] at h4; simp only [fl] at h4; split at h4 <;> cases h4
    | bor l e sz i => rw [hs] at h4; simp only [fl] at h4; split at h4 <;> cases h4
    | cell i o => rw [hs] at h4; simp only [fl, Option.map_eq_some_iff] at h4; obtain ⟨dd, _, h4⟩ := h4; cases h4
    | row k e sz n => rw [hs] at h4; simp only [fl, Option.map_eq_some_iff] at h4; obtain ⟨dd, _, h4⟩ := h4; cases h4
    | fn g cs => rw [hs] at h4; cases h4
    | unk => rw [hs] at h4; cases h4
    | want => rw [hs] at h4; cases h4
  | const v =>
    exfalso
    simp only [opnd] at h
    revert h
    cases v <;> simp [aOfV]
    all_goals (repeat' split) <;> simp
  | global g => simp [opnd] at h
  | func f => simp [opnd] at h
theorem rd_ok (hat : At env s q) {o : Oper} {k : Nat} (h : k ∈ rdA q.T o.op) : k ∈ rdS o s := by
  unfold rdA at h
  split at h
  · rename_i t x ho
    split at h
    · rename_i k' off hx
      simp only [List.mem_singleton] at h; subst h
      unfold rdS
      rw [ho]
      rcases opA_box hat hx with ⟨_, e⟩ | ⟨_, _, _, e⟩ <;> simp [e]
    · cases h
  · rename_i t x y ho
    split at h
    · rename_i k' off hx
      simp only [List.mem_singleton] at h; subst h
      unfold rdS
      rw [ho]
      rcases opA_box hat hx with ⟨_, e⟩ | ⟨_, _, _, e⟩ <;> simp [e]
    · cases h
  · cases h

/-- What is known of the operations so far. -/
def Facts (P : Program) (ops : Array Oper) (acs : List Ac) (fp : Fp) (s0 : S) : Prop :=
  ∀ (j : Nat) o ac f, ops[j]? = some o → acs[j]? = some ac → fp[j]? = some f → AOK P ops (fwd (acs.take j) s0) o ac ∧ (∀ k ∈ rdA (fwd (acs.take j) s0).T o.op, k ∈ f.1) ∧ ∀ k ∈ ac.wr, k ∈ f.2
theorem Facts.snoc {ops : Array Oper} {acs : List Ac} {fp : Fp} {s0 : S} {o : Oper} {ac : Ac} {f : List Nat × List Nat} (h : Facts P ops acs fp s0) (hl : acs.length = fp.length) (ho : ops[acs.length]? = some o)
    (h1 : AOK P ops (fwd acs s0) o ac) (h2 : ∀ k ∈ rdA (fwd acs s0).T o.op, k ∈ f.1) (h3 : ∀ k ∈ ac.wr, k ∈ f.2) : Facts P ops (acs ++ [ac]) (fp ++ [f]) s0 := by
  intro j o' ac' f' hj ha hf
  by_cases hlt : j < acs.length
  · rw [List.getElem?_append_left hlt] at ha
    rw [List.getElem?_append_left (by omega)] at hf
    rw [List.take_append_of_le_length (by omega)]
    exact h j o' ac' f' hj ha hf
  · have hje : j = acs.length := by
      have := (List.getElem?_eq_some_iff.1 ha).1
      simp at this; omega
    subst hje
    rw [ho] at hj; injection hj with hj; subst hj
    rw [List.getElem?_append_right (Nat.le_refl _)] at ha
    rw [List.getElem?_append_right (by omega)] at hf
    simp at ha; subst ha
    simp [← hl] at hf; subst hf
    rw [List.take_append_of_le_length (Nat.le_refl _), List.take_length]
    exact ⟨h1, h2, h3⟩

theorem preD_ok {c : Cx} {ops : Array Oper} {s0 : S} {K : SS → Nat → Fp → M} (hc : c.P = P) : ∀ (rest : List Oper) {env : List D} {s : SS} {n : Nat} {tm : Tm} {acs : List Ac} {fp : Fp}, (∀ j o, rest[j]? = some o → ops[acs.length + j]? = some o) → acs.length = fp.length → At env s (fwd acs s0) → preD c ops rest s n fp K = .ok tm → TW P tm env ks R → env.length = n → Facts P ops acs fp s0 →
    ∃ acs' fp' env' s' n' tm', acs'.length = acs.length + rest.length ∧ acs'.length = fp'.length ∧ K s' n' fp' = .ok tm' ∧ TW P tm' env' ks R ∧ Ext env env' ∧ env'.length = n' ∧ At env' s' (fwd acs' s0) ∧ Facts P ops acs' fp' s0
  | [], env, s, n, tm, acs, fp, _, hl, hat, h, ht, hn, hf => ⟨acs, fp, env, s, n, tm, rfl, hl, h, ht, .rfl, hn, hat, hf⟩
  | o :: rest, env, s, n, tm, acs, fp, ho, hl, hat, h, ht, hn, hf => by
    simp only [preD] at h
    have ho0 : ops[acs.length]? = some o := by simpa using ho 0 o rfl
    have ho1 : ∀ j o', rest[j]? = some o' → ops[acs.length + 1 + j]? = some o' := fun j o' hj => by
      have := ho (j + 1) o' (by simpa using hj)
      rw [show acs.length + 1 + j = acs.length + (j + 1) from by omega]; exact this
    have fwd1 : ∀ ac, fwd (acs ++ [ac]) s0 = ac.act (fwd acs s0) := fun ac => by simp [fwd]
    obtain ⟨s', tm', hat', ht', h⟩ := guardS_ok hat h ht
    rcases h with ⟨h, hg⟩ | ⟨h, j, want, dj, hg, hdj, hv⟩
    · obtain ⟨ac, s1, env1, n1, tm1, k1, k2, k3, k4, k5, k6, k7⟩ := pre1_ok hc hat' h ht' hn
      have haok : AOK P ops (fwd acs s0) o ac := by
        unfold AOK
        rcases hg with hg | ⟨j, want, dj, hg, hdj, hv⟩
        · rw [hg]; exact k1
        · rw [hg]; exact ⟨dj, hdj, .inl ⟨want, hv, .inl ⟨rfl, k1⟩⟩⟩
      obtain ⟨acs', fp', env', s'', n', tm'', g1, g2, g3, g4, g5, g6, g7, g8⟩ := preD_ok (acs := acs ++ [ac]) (fp := fp ++ [(rdS o s', wrS o s')]) hc rest (by simpa using ho1) (by simp [hl]) (by rw [fwd1]; exact k6) k2 k3 k5 (hf.snoc hl ho0 haok (fun k hk => rd_ok hat' hk) k7)
      exact ⟨acs', fp', env', s'', n', tm'', by simp at g1 ⊢; omega, g2, g3, g4, k4.trans g5, g6, g7, g8⟩
    · have haok : AOK P ops (fwd acs s0) o ⟨o.dst, und, {}, none⟩ := by
        unfold AOK
        rw [hg]
        refine ⟨dj, hdj, ?_⟩
        rcases hv with ⟨b, hb, hne⟩ | hv
        · exact .inl ⟨b, hb, .inr ⟨hne, rfl⟩⟩
        · exact .inr ⟨hv, rfl⟩
      have hat1 : At env (putS s' o.dst (.tup [])) (fwd (acs ++ [⟨o.dst, und, {}, none⟩]) s0) := by
        rw [fwd1]
        cases hd : o.dst with
        | none => exact ⟨hat'.T, hat'.X, by simp only [Ac.act, List.nil_append]; exact hat'.C⟩
        | some d => rw [act_put]; exact hat'.putU (us := []) (b := .tup []) (by simp [fl, und])
      obtain ⟨acs', fp', env', s'', n', tm'', g1, g2, g3, g4, g5, g6, g7, g8⟩ := preD_ok (acs := acs ++ [⟨o.dst, und, {}, none⟩]) (fp := fp ++ [(rdS o s', [])]) hc rest (by simpa using ho1) (by simp [hl]) hat1 h ht' hn (hf.snoc hl ho0 haok (fun k hk => rd_ok hat' hk) (fun k hk => by cases o.dst <;> cases hk))
      exact ⟨acs', fp', env', s'', n', tm'', by simp at g1 ⊢; omega, g2, g3, g4, g5, g6, g7, g8⟩

theorem zip_mem {ops : Array Oper} {fps : Fp} {i : Nat} {o : Oper} {f : List Nat × List Nat} (ho : ops[i]? = some o) (hf : fps[i]? = some f) : ((o, f), i) ∈ (ops.toList.zip fps).zipIdx := by
  rw [List.mem_zipIdx_iff_getElem?, List.getElem?_zip_eq_some]
  exact ⟨by simpa using ho, hf⟩
theorem openOk_ok {ops : Array Oper} {acs : List Ac} {fp : Fp} {s0 : S} (h : openOk ops fp = true) (hl : acs.length = fp.length) (hf : Facts P ops acs fp s0) : Open P ops acs s0 := by
  unfold openOk at h
  simp only [Bool.and_eq_true, List.all_eq_true, Bool.or_eq_true, Bool.not_eq_true', decide_eq_true_eq, decide_eq_false_iff_not, beq_iff_eq, bne_iff_ne] at h
  obtain ⟨⟨⟨⟨h1, h2⟩, h3⟩, h4⟩, h5⟩ := h
  have hst : ∀ i, stAt acs s0 i = fwd (acs.take i) s0 := fun i => by unfold stAt; rw [runL_fwd]; rfl
  have hfp : ∀ i (ac : Ac), acs[i]? = some ac → ∃ f, fp[i]? = some f := fun i ac hi => ⟨_, List.getElem?_eq_getElem (by rw [← hl]; exact (List.getElem?_eq_some_iff.1 hi).1)⟩
  refine ⟨fun i o ho e he hb => ?_, fun i hi hlt => ?_, by omega, fun i o ac ho ha => ?_, fun i j oi oj ai aj hij hoi hoj hai haj => ?_, fun i j oi oj hne hi hj hoi hoj hnb d hd hd' => ?_⟩
  · have := h1 (o, i) (by rw [List.mem_zipIdx_iff_getElem?]; simpa using ho) e (by simpa using he)
    rcases this with h | h
    · rw [hb] at h; cases h
    · exact h
  · have hml : i < (masks [] ops.toList).length := by rw [masks_len]; simpa using hlt
    have := h4 ((masks [] ops.toList)[i], i) (by
      refine List.mem_of_getElem? (i := i - fp.length) ?_
      rw [List.getElem?_drop, show fp.length + (i - fp.length) = i from by omega, List.getElem?_zipIdx, List.getElem?_eq_getElem hml]; simp)
    rw [List.getD_eq_getElem?_getD, List.getElem?_eq_getElem hml]; exact this
  · obtain ⟨f, hff⟩ := hfp i ac ha
    rw [hst]; exact (hf i o ac f ho ha hff).1
  · obtain ⟨fi, hfi⟩ := hfp i ai hai
    obtain ⟨fj, hfj⟩ := hfp j aj haj
    obtain ⟨a1, a2, a3⟩ := hf i oi ai fi hoi hai hfi
    obtain ⟨b1, b2, b3⟩ := hf j oj aj fj hoj haj hfj
    rcases h2 _ (zip_mem hoi hfi) _ (zip_mem hoj hfj) with (h | h) | h
    · exact absurd hij h
    · exact .inl h
    · refine .inr ?_
      unfold apart at h
      simp only [Bool.and_eq_true, List.all_eq_true, Bool.not_eq_true', List.contains_eq_mem, decide_eq_false_iff_not] at h
      obtain ⟨⟨⟨g1, g2⟩, g3⟩, g4⟩ := h
      rw [hst, hst]
      refine ⟨fun d hd => ?_, fun d hd => ?_, fun k hk => ?_, fun k hk hk' => ?_⟩
      · rw [a1.dst] at hd
        rw [hd] at g1
        simp only [Bool.and_eq_true, Bool.not_eq_true', List.contains_eq_mem, decide_eq_false_iff_not, bne_iff_ne] at g1
        exact ⟨g1.1, by rw [b1.dst]; exact g1.2⟩
      · rw [b1.dst] at hd
        rw [hd] at g2
        simpa using g2
      · have := g3 k (a3 k hk)
        exact ⟨fun hc => this.1 (b2 k hc), fun hc => this.2 (b3 k hc)⟩
      · exact g4 k (b3 k hk) (a2 k hk')
  · obtain ⟨fi, hfi⟩ : ∃ f, fp[i]? = some f := ⟨_, List.getElem?_eq_getElem (by omega)⟩
    obtain ⟨fj, hfj⟩ : ∃ f, fp[j]? = some f := ⟨_, List.getElem?_eq_getElem (by omega)⟩
    rcases h3 _ (zip_mem hoi hfi) _ (zip_mem hoj hfj) with ((h | h) | h) | h
    · exact hne h
    · simp only [Bool.or_eq_false_iff] at h
      rcases hnb with h' | h'
      · rw [h.1] at h'; cases h'
      · rw [h.2] at h'; cases h'
    · exact h (by rw [hd, hd'])
    · rw [hd] at h; cases h

theorem openN_le (ops : List Oper) : openN ops ≤ ops.length := by
  unfold openN
  refine Nat.le_trans (List.dropWhile_suffix _).length_le ?_
  rw [List.length_reverse, List.length_zipIdx, masks_len]; simp

theorem drawS_ok {c : Cx} {ops : Array Oper} {id : Nat} {K : Kt} {Q : Exit → Act → World → Prop} (hP : P.follows .mixedOrders = true) (hc : c.P = P) (hat0 : At env s q) (hh0 : Holds B M0 w0 q a w) (h : drawS c ops.toList s n dk K = .ok tm) (ht : TW P tm env ks R) (hn : env.length = n)
    (hnext : Next P B M0 w0 K dk env ks R (Q .normal)) : (Code.region id ops true).wp P Q a w := by
  unfold drawS at h
  simp only [Array.toArray_toList] at h
  obtain ⟨q1, hat, hh⟩ := frzL_ok ((ops.toList.take (openN ops.toList)).flatMap fun o => frzOps o.op) hat0 hh0
  generalize frzL s ((ops.toList.take (openN ops.toList)).flatMap fun o => frzOps o.op) = s1 at h hat
  have hlen : (ops.toList.take (openN ops.toList)).length = openN ops.toList := by rw [List.length_take, Nat.min_eq_left (openN_le _)]
  have hatc := hat.clean (rowsOf (ops.toList.take (openN ops.toList))) (boxesOf (ops.toList.take (openN ops.toList)))
  obtain ⟨acs, fp, env', s', n', tm', g1, g2, g3, g4, g5, g6, g7, g8⟩ := preD_ok (acs := []) (fp := []) (s0 := q1.clean (rowsOf (ops.toList.take (openN ops.toList))) (boxesOf (ops.toList.take (openN ops.toList)))) hc (ops.toList.take (openN ops.toList)) (ops := ops) (fun j o hj => by
    rw [List.getElem?_take] at hj
    split at hj
    · simpa using hj
    · cases hj) rfl hatc h ht hn (fun j o ac f _ ha => by simp at ha)
  have hal : acs.length = openN ops.toList := by rw [g1, hlen]; simp
  split at g3
  · rename_i hok
    have hop := openOk_ok hok g2 g8
    rw [← hal] at hop
    refine wp_open hP hh hop fun a' w' hh' => ?_
    rw [runL_all, hal] at hh'
    rw [hal]
    exact seqS_ok hc _ g7 hh' g3 g4 g6 fun s2 n2 tm2 env2 q2 a2 w2 k1 k2 k3 => hnext s2 n2 tm2 env2 q2 a2 w2 k1 k2 (g5.trans k3)
  · cases g3

end
end Go.Proofs.Ytidnkaopndmigaa.V
end
section
set_option linter.unusedSimpArgs false
set_option linter.unusedVariables false
/- Code as a term: marks, and that the term says what the code does. -/
namespace Go.Proofs.Ytidnkaopndmigaa.V
open Go.RowKit

variable {P : Program} {B : Nat → Nat → Prop} {M0 : Fr} {w w0 : World}

theorem wk1_cellOk {x y : A} (h : wk1 x y) (hx : cellOk x = true) : cellOk y = true := by
  cases y with
  | d b =>
    cases x <;> simp only [wk1] at h
    all_goals first | (subst h; first | rfl | exact hx) | cases h
  | _ => rfl

section
variable {args : List Rf} {base : Nat} {envb env' xs : List D} {n dk : Nat} {ks : List (List D → Prop)} {R : List D → Prop} {tm : Tm} {a : Act}

theorem renR_ok (hb : envb.length = base) (he : Ext envb env') (hx : args.mapM (rf env') = some xs) {r r' : Rf} {d : D} (h : renR args base r = some r') (hd : rf env' r' = some d) : rf (envb ++ xs) r = some d := by
  cases r with
  | k c => simp only [renR, Option.some.injEq] at h; subst h; exact hd
  | v i =>
    simp only [renR] at h
    split at h
    · rename_i hlt
      injection h with h; subst h
      obtain ⟨ds, rfl⟩ := he
      simp only [rf] at hd ⊢
      rw [List.getElem?_append_left (by omega)] at hd ⊢
      exact hd
    · rename_i hlt
      obtain ⟨y, h1, h2⟩ := (mapM_get hx).2 _ _ h
      rw [hd] at h2; injection h2 with h2; subst h2
      simp only [rf]
      rw [List.getElem?_append_right (by omega), hb]; exact h1
theorem renI_ok (hb : envb.length = base) (he : Ext envb env') (hx : args.mapM (rf env') = some xs) {i j : Nat} {d : D} (h : renI args base i = some j) (hd : env'[j]? = some d) : (envb ++ xs)[i]? = some d := by
  unfold renI at h
  split at h
  · rename_i j' h'
    injection h with h; subst h
    exact renR_ok hb he hx h' hd
  · cases h
theorem renN_ok (hb : envb.length = base) (he : Ext envb env') (hx : args.mapM (rf env') = some xs) {n n' : SN} {m : Nat} (h : renN args base n = some n') (hd : n'.val env' = some m) : n.val (envb ++ xs) = some m := by
  cases n with
  | c k => simp only [renN, Option.some.injEq] at h; subst h; exact hd
  | e r =>
    simp only [renN, Option.map_eq_some_iff] at h
    obtain ⟨r', h1, rfl⟩ := h
    simp only [SN.val] at hd ⊢
    split at hd
    · rename_i kk nn hr; rw [renR_ok hb he hx h1 hr]; exact hd
    · cases hd
  | l i =>
    simp only [renN] at h
    split at h
    · rename_i j h1
      injection h with h; subst h
      simp only [SN.val] at hd ⊢
      split at hd
      · rename_i ys hy
        have : (envb ++ xs)[i]? = some (.sl ys) := renR_ok hb he hx h1 hy
        rw [this]; exact hd
      · cases hd
    · rename_i h1
      injection h with h; subst h
      simp only [SN.val, Option.some.injEq] at hd ⊢
      have : (envb ++ xs)[i]? = some (.sl []) := renR_ok hb he hx h1 rfl
      rw [this, ← hd]; rfl
    · cases h

theorem map_ren {α β γ : Type} {f : α → Option β} {g : β → Option γ} {g' : α → Option γ} (hfg : ∀ a b c, f a = some b → g b = some c → g' a = some c) : ∀ {is : List α} {js : List β} {ds : List γ}, is.map f = js.map some → js.mapM g = some ds → is.mapM g' = some ds
  | [], [], ds, _, h => by simpa using h
  | [], _ :: _, _, h, _ => by simp at h
  | _ :: _, [], _, h, _ => by simp at h
  | i :: is, j :: js, ds, h, hd => by
    simp only [List.map_cons, List.cons.injEq] at h
    simp only [List.mapM_cons, Option.bind_eq_bind, Option.bind_eq_some_iff, Option.pure_def, Option.some.injEq] at hd ⊢
    obtain ⟨y, h1, ys, h2, rfl⟩ := hd
    exact ⟨y, hfg _ _ _ h.1 h1, ys, map_ren hfg h.2 h2, rfl⟩

theorem wkA_ok (hb : envb.length = base) (he : Ext envb env') (hx : args.mapM (rf env') = some xs) {a b : SA} {x : A} (ha : fl env' a = some x) (h : wkA args base a b = true) : ∃ y, fl (envb ++ xs) b = some y ∧ wk1 x y := by
  have same : fl (envb ++ xs) b = some x → ∃ y, fl (envb ++ xs) b = some y ∧ wk1 x y := fun h => ⟨x, h, wk1_refl x⟩
  have nil' : ∀ {x : A}, fl env' (.d (.k .nil)) = some x → x = .nil := fun h => by simp only [fl, rf, Kc.d, Option.map_some, Option.some.injEq] at h; exact h.symm
  cases b with
  | unk => exact ⟨.unk, rfl, by cases x <;> trivial⟩
  | want => exact ⟨.want, rfl, by cases x <;> trivial⟩
  | d r =>
    simp only [wkA] at h
    split at h
    · rename_i r'
      simp only [Bool.or_eq_true, decide_eq_true_eq, Bool.and_eq_true] at h
      rcases h with h | ⟨rfl, h⟩
      · simp only [fl, Option.map_eq_some_iff] at ha
        obtain ⟨d, h1, rfl⟩ := ha
        exact same (by simp only [fl, renR_ok hb he hx h h1, Option.map_some])
      · obtain rfl := nil' ha
        exact ⟨.d (.sl []), by simp only [fl, renR_ok hb he hx h rfl, Option.map_some]; rfl, rfl⟩
    · rename_i e sz i
      simp only [decide_eq_true_eq] at h
      simp only [fl] at ha
      split at ha
      · rename_i ys hy
        injection ha with ha; subst ha
        exact ⟨.d (.sl ys), by simp only [fl, renR_ok hb he hx h (d := .sl ys) hy, Option.map_some]; rfl, rfl⟩
      · cases ha
    · rename_i l e sz i
      simp only [decide_eq_true_eq] at h
      simp only [fl] at ha
      split at ha
      · rename_i ys hy
        injection ha with ha; subst ha
        exact ⟨.d (.sl ys), by simp only [fl, renR_ok hb he hx h (d := .sl ys) hy, Option.map_some]; rfl, rfl⟩
      · cases ha
    · cases h
  | tup is =>
    simp only [wkA] at h
    split at h
    · rename_i js
      simp only [decide_eq_true_eq] at h
      simp only [fl, Option.map_eq_some_iff] at ha
      obtain ⟨ds, h1, rfl⟩ := ha
      exact same (by simp only [fl, map_ren (fun _ _ _ h1 h2 => renI_ok hb he hx h1 h2) h h1, Option.map_some])
    · cases h
  | agg rs =>
    simp only [wkA] at h
    split at h
    · rename_i rs'
      simp only [decide_eq_true_eq] at h
      obtain ⟨ds, h1, h2, rfl⟩ := fl_agg ha
      exact same (by simp only [fl, map_ren (fun _ _ _ h1 h2 => renR_ok hb he hx h1 h2) h h1, Option.bind_some, h2, if_true])
    · cases h
  | grow e sz i =>
    simp only [wkA] at h
    split at h
    · rename_i e' sz' j
      simp only [Bool.and_eq_true, decide_eq_true_eq] at h
      obtain ⟨⟨rfl, rfl⟩, h⟩ := h
      simp only [fl] at ha
      split at ha
      · rename_i ys hy
        injection ha with ha; subst ha
        exact same (by simp only [fl, renI_ok hb he hx h hy])
      · cases ha
    · simp only [decide_eq_true_eq] at h
      obtain rfl := nil' ha
      have : (envb ++ xs)[i]? = some (.sl []) := renR_ok hb he hx h rfl
      exact ⟨.grow e sz [], by simp only [fl, this], rfl⟩
    · cases h
  | bor l e sz i =>
    simp only [wkA] at h
    split at h
    · rename_i l' e' sz' j
      simp only [Bool.and_eq_true, decide_eq_true_eq] at h
      obtain ⟨⟨⟨rfl, rfl⟩, rfl⟩, h⟩ := h
      simp only [fl] at ha
      split at ha
      · rename_i ys hy
        injection ha with ha; subst ha
        exact same (by simp only [fl, renI_ok hb he hx h hy])
      · cases ha
    · cases h
  | box k o =>
    simp only [wkA, decide_eq_true_eq] at h
    subst h
    exact same ha
  | boxi k ix sz j =>
    simp only [wkA] at h
    split at h
    · rename_i k' ix' sz' j'
      simp only [Bool.and_eq_true, decide_eq_true_eq] at h
      obtain ⟨⟨⟨rfl, h⟩, rfl⟩, rfl⟩ := h
      simp only [fl, Option.map_eq_some_iff] at ha
      obtain ⟨m, h1, rfl⟩ := ha
      obtain ⟨kk, h1⟩ := list_int h1
      exact same (by simp only [fl, renR_ok hb he hx h h1, int?, Option.map_some])
    · cases h
  | cell i o =>
    simp only [wkA] at h
    split at h
    · rename_i j o'
      simp only [Bool.and_eq_true, decide_eq_true_eq] at h
      obtain ⟨h, rfl⟩ := h
      simp only [fl, Option.map_eq_some_iff] at ha
      obtain ⟨m, h1, rfl⟩ := ha
      exact same (by simp only [fl, renI_ok hb he hx h h1, Option.map_some])
    · cases h
  | row k e sz m =>
    simp only [wkA] at h
    split at h
    · rename_i k' e' sz' m'
      simp only [Bool.and_eq_true, decide_eq_true_eq] at h
      obtain ⟨⟨⟨rfl, rfl⟩, rfl⟩, h⟩ := h
      obtain ⟨mm, h1, rfl⟩ := SN_val_row ha
      exact same (by simp only [fl, renN_ok hb he hx h h1, Option.map_some])
    · simp only [decide_eq_true_eq] at h
      obtain rfl := nil' ha
      exact ⟨.row k e sz 0 0, by simp only [fl, renN_ok hb he hx h (m := 0) rfl, Option.map_some], rfl⟩
    · cases h
  | fn g cs =>
    simp only [wkA, decide_eq_true_eq] at h
    subst h
    exact same ha

theorem wkL_ok (hb : envb.length = base) (he : Ext envb env') (hx : args.mapM (rf env') = some xs) : ∀ {l l' : List SA} {m : List A}, wkL args base l l' = true → l.mapM (fl env') = some m → ∃ m', l'.mapM (fl (envb ++ xs)) = some m' ∧ wk m m' ∧ (m.all cellOk = true → m'.all cellOk = true)
  | [], [], m, _, hm => by simp at hm; subst hm; exact ⟨[], by simp, trivial, fun h => h⟩
  | a :: l, b :: l', m, h, hm => by
    simp only [wkL, Bool.and_eq_true] at h
    simp only [List.mapM_cons, Option.bind_eq_bind, Option.bind_eq_some_iff, Option.pure_def, Option.some.injEq] at hm
    obtain ⟨x, h1, m, h2, rfl⟩ := hm
    obtain ⟨y, g1, g2⟩ := wkA_ok hb he hx h1 h.1
    obtain ⟨m', g3, g4, g5⟩ := wkL_ok hb he hx h.2 h2
    refine ⟨y :: m', by simp only [List.mapM_cons, g1, g3, Option.bind_eq_bind, Option.bind_some, Option.pure_def], ⟨g2, g4⟩, fun hh => ?_⟩
    simp only [List.all_cons, Bool.and_eq_true] at hh ⊢
    exact ⟨wk1_cellOk g2 hh.1, g5 hh.2⟩
  | [], _ :: _, _, h, _ => by simp [wkL] at h
  | _ :: _, [], _, h, _ => by simp [wkL] at h

theorem wkX_ok (hb : envb.length = base) (he : Ext envb env') (hx : args.mapM (rf env') = some xs) {X : List (Nat × XC)} {Y : List (Nat × List A)} (hY : flX env' X = some Y) : ∀ {X' : List (Nat × XC)}, wkXS args base X X' = true →
    ∃ Y', flX (envb ++ xs) X' = some Y' ∧ (∀ k ls, lk Y' k = some ls → ls = [] ∨ ∃ l, lk Y k = some l ∧ wk l ls) ∧ wkX Y Y'
  | [], _ => ⟨[], rfl, fun k ls h => by simp [lk] at h, trivial⟩
  | (k, c) :: X', h => by
    simp only [wkXS, Bool.and_eq_true] at h
    obtain ⟨Y', g1, g2, g3⟩ := wkX_ok hb he hx hY h.2
    have key : ∃ ls, flC (envb ++ xs) c = some ls ∧ (ls = [] ∨ ∃ l, lk Y k = some l ∧ wk l ls) ∧ (match lk Y k with | some l => wk l ls | none => ls = []) := by
      have h1 := h.1
      unfold wkC at h1
      cases c with
      | cs l =>
        simp only at h1
        split at h1
        · rename_i l' hl
          obtain ⟨lv, e1, e2⟩ := (flX_lk hY).1 _ hl
          obtain ⟨e3, e4⟩ := flC_cs_inv e2
          obtain ⟨m', f1, f2, f3⟩ := wkL_ok hb he hx h1 e3
          exact ⟨m', flC_cs f1 (f3 e4), .inr ⟨lv, e1, f2⟩, by rw [e1]; exact f2⟩
        · cases h1
      | row i sz =>
        simp only at h1
        split at h1
        · rename_i j sz' hl
          simp only [Bool.and_eq_true, decide_eq_true_eq] at h1
          obtain ⟨rfl, h1⟩ := h1
          obtain ⟨lv, e1, e2⟩ := (flX_lk hY).1 _ hl
          obtain ⟨zs, e3, e4, rfl⟩ := flC_row_inv e2
          exact ⟨_, flC_row (renI_ok hb he hx h1 e3) e4, .inr ⟨_, e1, wk_refl _⟩, by rw [e1]; exact wk_refl _⟩
        · rename_i hl
          simp only [decide_eq_true_eq] at h1
          have : (envb ++ xs)[i]? = some (.sl []) := renR_ok hb he hx h1 rfl
          exact ⟨_, flC_row this (fun x hx => by cases hx), .inl rfl, by rw [(flX_lk hY).2 hl]; rfl⟩
        · cases h1
    obtain ⟨ls, f1, f2, f3⟩ := key
    refine ⟨(k, ls) :: Y', by simp only [flX, f1, g1], fun k' ls' hk => ?_, f3, g3⟩
    simp only [lk] at hk
    split at hk
    · rename_i e; subst e
      injection hk with hk; subst hk; exact f2
    · exact g2 k' ls' hk

theorem wkS_ok (hb : envb.length = base) (he : Ext envb env') (hx : args.mapM (rf env') = some xs) {s sh : SS} {q : S} (hat : At env' s q) (h : wkS args base s sh = true) (hh : Holds B M0 w0 q a w) : ∃ q', At (envb ++ xs) sh q' ∧ Holds B M0 w0 q' a w := by
  unfold wkS at h
  simp only [Bool.and_eq_true] at h
  obtain ⟨⟨h1, h2⟩, h3⟩ := h
  obtain ⟨T', g1, g2, _⟩ := wkL_ok hb he hx h1 hat.T
  obtain ⟨X', g3, g4, _⟩ := wkX_ok hb he hx hat.X h2
  refine ⟨⟨T', X', sh.C⟩, ⟨g1, g3, rfl⟩, Holds.weakW (s := q) (s' := ⟨T', X', sh.C⟩) g2 g4 (fun l hl => ?_) hh⟩
  rw [hat.C] at hl
  have := List.all_eq_true.1 h3 l hl
  simpa using this
end

/-! Code. -/
section
variable {env : List D} {s : SS} {q : S} {n dk : Nat} {ks : List (List D → Prop)} {R : List D → Prop} {tm : Tm} {a : Act}

def Pre (ks ks' : List (List D → Prop)) : Prop := ∃ t, ks' = ks ++ t
theorem Pre.rfl {ks : List (List D → Prop)} : Pre ks ks := ⟨[], by simp⟩
theorem Pre.trans {a b c : List (List D → Prop)} (h : Pre a b) (h' : Pre b c) : Pre a c := by
  obtain ⟨x, rfl⟩ := h; obtain ⟨y, rfl⟩ := h'; exact ⟨x ++ y, by simp⟩
theorem Pre.one {ks : List (List D → Prop)} {k : List D → Prop} : Pre ks (ks ++ [k]) := ⟨[k], Eq.refl _⟩
theorem Pre.get {ks ks' : List (List D → Prop)} (h : Pre ks ks') {j : Nat} {k : List D → Prop} (hk : ks[j]? = some k) : ks'[j]? = some k := by
  obtain ⟨t, rfl⟩ := h
  rw [List.getElem?_append_left (List.getElem?_eq_some_iff.1 hk).1]; exact hk

/-- What goes on behind does what it should. -/
def Good (P : Program) (B : Nat → Nat → Prop) (M0 : Fr) (w0 : World) (K : Kt) (env : List D) (ks : List (List D → Prop)) (R : List D → Prop) (next : Act → World → Prop) : Prop :=
  ∀ s' n' dk' tm' env' ks' q' a' w', K s' n' dk' = .ok tm' → TW P tm' env' ks' R → Ext env env' → Pre ks ks' → env'.length = n' → ks'.length = dk' → At env' s' q' → Holds B M0 w0 q' a' w' → next a' w'
theorem Good.more {K : Kt} {env1 : List D} {ks1 : List (List D → Prop)} {next : Act → World → Prop} (h : Good P B M0 w0 K env ks R next) (he : Ext env env1) (hk : Pre ks ks1) : Good P B M0 w0 K env1 ks1 R next :=
  fun s' n' dk' tm' env' ks' q' a' w' h1 h2 h3 h4 => h s' n' dk' tm' env' ks' q' a' w' h1 h2 (he.trans h3) (hk.trans h4)

theorem jmp_good {c : Cx} {key j np : Nat} {sh : SS} {kj : List D → Prop} {next : Act → World → Prop} (hn : env.length = n) (hh : hintOf c.hints key = some (sh, np)) (hj : ks[j]? = some kj)
    (hrest : ∀ xs q' a' w', kj xs → At (env ++ xs) sh q' → Holds B M0 w0 q' a' w' → next a' w') : Good P B M0 w0 (jmpK c key n j) env ks R next := by
  intro s' n' dk' tm' env' ks' q' a' w' h ht he hk hn' _ hat hh'
  simp only [jmpK, hh] at h
  split at h
  · rename_i hw
    injection h with h; subst h
    obtain ⟨xs, k, h1, h2, h3⟩ := ht
    rw [hk.get hj] at h2; injection h2 with h2; subst h2
    obtain ⟨q'', g1, g2⟩ := wkS_ok hn he h1 hat hw hh'
    exact hrest xs q'' a' w' h3 g1 g2
  · cases h

theorem join_ok {c : Cx} {key : Nat} {K : Kt} {body : Kt → Nat → M} {next : Act → World → Prop} {goal : Prop} (hn : env.length = n) (hks : ks.length = dk) (h : joinK c key n dk K body = .ok tm) (ht : TW P tm env ks R) (hK : Good P B M0 w0 K env ks R next)
    (hbody : ∀ K' tm' ks', body K' (dk + 1) = .ok tm' → TW P tm' env ks' R → Pre ks ks' → ks'.length = dk + 1 → Good P B M0 w0 K' env ks' R next → goal) : goal := by
  unfold joinK at h
  split at h
  · rename_i sh np hh
    split at h
    · rename_i rest b hr hb
      injection h with h; subst h
      simp only [TW] at ht
      refine hbody _ b (ks ++ [fun xs => xs.length = np ∧ TW P rest (env ++ xs) ks R]) hb ht .one (by simp [hks]) ?_
      refine jmp_good (kj := fun xs => xs.length = np ∧ TW P rest (env ++ xs) ks R) hn hh (by rw [← hks]; simp) fun xs q' a' w' ⟨h1, h2⟩ hat hh' => ?_
      exact hK _ _ _ _ _ _ _ _ _ hr h2 ⟨xs, rfl⟩ .rfl (by simp [hn, h1]) hks hat hh'
    · cases h
    · cases h
  · rename_i hh
    split at h
    · rename_i b hb
      injection h with h; subst h
      simp only [TW] at ht
      refine hbody _ b _ hb ht .one (by simp [hks]) ?_
      intro s' n' dk' tm' env' ks' q' a' w' g1
      simp only [jmpK, hh] at g1
      cases g1
    · cases h

theorem comp_ok {c : Cx} (hP : P.follows .mixedOrders = true) (hc : c.P = P) : ∀ (cd : Code) {key : Nat} {K : Kt} {xs : List (Nat × Kt)} {Rk : Kt} {s : SS} {n dk : Nat} {tm : Tm} {env : List D} {ks : List (List D → Prop)} {q : S} {a : Act} {w : World} {Q : Exit → Act → World → Prop},
    comp c cd key K xs Rk s n dk = .ok tm → TW P tm env ks R → env.length = n → ks.length = dk → At env s q → Holds B M0 w0 q a w → Good P B M0 w0 K env ks R (Q .normal) → (∀ id k, exitOf xs id = some k → Good P B M0 w0 k env ks R (Q (.exit id))) → Good P B M0 w0 Rk env ks R (Q .ret) → cd.wp P Q a w
  | .skip, key, K, xs, Rk, s, n, dk, tm, env, ks, q, a, w, Q, h, ht, hn, hk, hat, hh, hK, hX, hR => by
    simp only [comp] at h
    exact wp_skip (hK _ _ _ _ _ _ _ _ _ h ht .rfl .rfl hn hk hat hh)
  | .region id ops false, key, K, xs, Rk, s, n, dk, tm, env, ks, q, a, w, Q, h, ht, hn, hk, hat, hh, hK, hX, hR => by
    simp only [comp] at h
    split at h
    · refine join_ok (next := Q .normal) hn hk h ht hK fun K' tm' ks' h1 h2 h3 h4 h5 => ?_
      exact wp_region_list (seqS_ok hc _ hat hh h1 h2 hn fun s' n' tm' env' q' a' w' g1 g2 g3 g4 g5 g6 => h5 _ _ _ _ _ _ _ _ _ g1 g2 g3 .rfl g4 h4 g5 g6)
    · exact wp_region_list (seqS_ok hc _ hat hh h ht hn fun s' n' tm' env' q' a' w' h1 h2 h3 h4 h5 h6 => hK _ _ _ _ _ _ _ _ _ h1 h2 h3 .rfl h4 hk h5 h6)
  | .region id ops true, key, K, xs, Rk, s, n, dk, tm, env, ks, q, a, w, Q, h, ht, hn, hk, hat, hh, hK, hX, hR => by
    simp only [comp] at h
    split at h
    · refine join_ok (next := Q .normal) hn hk h ht hK fun K' tm' ks' h1 h2 h3 h4 h5 => ?_
      exact drawS_ok hP hc hat hh h1 h2 hn fun s' n' tm' env' q' a' w' g1 g2 g3 g4 g5 g6 => h5 _ _ _ _ _ _ _ _ _ g1 g2 g3 .rfl g4 h4 g5 g6
    · exact drawS_ok hP hc hat hh h ht hn fun s' n' tm' env' q' a' w' h1 h2 h3 h4 h5 h6 => hK _ _ _ _ _ _ _ _ _ h1 h2 h3 .rfl h4 hk h5 h6
  | .seq x y, key, K, xs, Rk, s, n, dk, tm, env, ks, q, a, w, Q, h, ht, hn, hk, hat, hh, hK, hX, hR => by
    simp only [comp] at h
    refine wp_seq (comp_ok hP hc x (Q := Exit.then (y.wp P Q) Q) h ht hn hk hat hh (fun s' n' dk' tm' env' ks' q' a' w' h1 h2 h3 h4 h5 h6 h7 h8 => ?_) (fun id k hid => hX id k hid) hR)
    exact comp_ok hP hc y h1 h2 h5 h6 h7 h8 (hK.more h3 h4) (fun id k hid => (hX id k hid).more h3 h4) (hR.more h3 h4)
  | .cond x ca cb, key, K, xs, Rk, s, n, dk, tm, env, ks, q, a, w, Q, h, ht, hn, hk, hat, hh, hK, hX, hR => by
    simp only [comp] at h
    have go : ∀ (K' : Kt) (dk' : Nat) (tm' : Tm) (ks' : List (List D → Prop)), (match opA s x with
      | some (.d (.k (.bool true))) => comp c ca (2 * key) K' xs Rk s n dk'
      | some (.d (.k (.bool false))) => comp c cb (2 * key + 1) K' xs Rk s n dk'
      | some (.d (.v i)) => iteK i (orDead c (2000000 + key) dk' (comp c ca (2 * key) K' xs Rk s n dk')) (orDead c (3000000 + key) dk' (comp c cb (2 * key + 1) K' xs Rk s n dk'))
      | _ => .error (.no 120)) = .ok tm' → TW P tm' env ks' R → Pre ks ks' → ks'.length = dk' → Good P B M0 w0 K' env ks' R (Q .normal) → (Code.cond x ca cb).wp P Q a w := by
      intro K' dk' tm' ks' h ht hpre hk' hK'
      have hX' := fun id k hid => (hX id k hid).more .rfl hpre
      have hR' := hR.more .rfl hpre
      have val : ∀ {b : SA} {t : Bool}, opA s x = some b → fl env b = some (.d (.bool t)) → a.eval x = .bool t := by
        intro b t hb hv
        obtain ⟨y, h1, h2⟩ := hat.opA hb
        rw [hv] at h2; injection h2 with h2; subst h2
        obtain ⟨p, hr, _, _⟩ := hh
        exact (show VD w _ (.bool t) _ from opnd_va hr h1 (l := .t 0)).bool_inv
      split at h
      · rename_i hb
        exact wp_cond (t := true) (val hb rfl) (comp_ok hP hc ca h ht hn hk' hat hh hK' hX' hR')
      · rename_i hb
        exact wp_cond (t := false) (val hb rfl) (comp_ok hP hc cb h ht hn hk' hat hh hK' hX' hR')
      · rename_i i hb
        unfold iteK at h
        split at h
        · rename_i ta tb ha hb'
          injection h with h; subst h
          obtain ⟨t, e1, e2, e3⟩ := ht
          have hv := val (t := t) hb (by simp only [fl, rf, e1, Option.map_some]; rfl)
          refine wp_cond (t := t) hv ?_
          cases t with
          | true =>
            unfold orDead at ha
            split at ha
            · exact (deadK_no ha hk' (e2 rfl)).elim
            · exact comp_ok hP hc ca ha (e2 rfl) hn hk' hat hh hK' hX' hR'
          | false =>
            unfold orDead at hb'
            split at hb'
            · exact (deadK_no hb' hk' (e3 rfl)).elim
            · exact comp_ok hP hc cb hb' (e3 rfl) hn hk' hat hh hK' hX' hR'
        · cases h
        · cases h
      · cases h
    split at h
    · exact go K dk tm ks h ht .rfl hk hK
    · exact join_ok (next := Q .normal) hn hk h ht hK fun K' tm' ks' h1 h2 h3 h4 h5 => go K' (dk + 1) tm' ks' h1 h2 h3 h4 h5
  | .block id b, key, K, xs, Rk, s, n, dk, tm, env, ks, q, a, w, Q, h, ht, hn, hk, hat, hh, hK, hX, hR => by
    simp only [comp] at h
    have go : ∀ (K' : Kt) (dk' : Nat) (tm' : Tm) (ks' : List (List D → Prop)), comp c b (2 * key) K' ((id, K') :: xs) Rk s n dk' = .ok tm' → TW P tm' env ks' R → Pre ks ks' → ks'.length = dk' → Good P B M0 w0 K' env ks' R (Q .normal) → (Code.block id b).wp P Q a w := by
      intro K' dk' tm' ks' h ht hpre hk' hK'
      refine wp_block (comp_ok hP hc b (Q := Exit.inBlock id Q) h ht hn hk' hat hh hK' (fun id' k hid => ?_) (hR.more .rfl hpre))
      simp only [exitOf] at hid
      split at hid
      · rename_i e; injection hid with hid; subst hid
        intro s' n' dk' tm' env' ks' q' a' w' h1 h2 h3 h4 h5 h6 h7 h8
        simp only [Exit.inBlock]
        rw [if_pos e]
        exact hK' _ _ _ _ _ _ _ _ _ h1 h2 h3 h4 h5 h6 h7 h8
      · rename_i e
        intro s' n' dk' tm' env' ks' q' a' w' h1 h2 h3 h4 h5 h6 h7 h8
        simp only [Exit.inBlock]
        rw [if_neg e]
        exact (hX id' k hid).more .rfl hpre _ _ _ _ _ _ _ _ _ h1 h2 h3 h4 h5 h6 h7 h8
    split at h
    · exact go K dk tm ks h ht .rfl hk hK
    · exact join_ok (next := Q .normal) hn hk h ht hK fun K' tm' ks' h1 h2 h3 h4 h5 => go K' (dk + 1) tm' ks' h1 h2 h3 h4 h5
  | .loop b, key, K, xs, Rk, s, n, dk, tm, env, ks, q, a, w, Q, h, ht, hn, hk, hat, hh, hK, hX, hR => by
    simp only [comp] at h
    split at h
    · cases h
    · rename_i sh np hhint
      split at h
      · rename_i hw
        split at h
        · rename_i t hb
          injection h with h; subst h
          obtain ⟨xs0, hx0, m, hm⟩ := ht
          obtain ⟨q0, hat0, hh0⟩ := wkS_ok hn .rfl hx0 hat hw hh
          let it : Nat → List D → Prop := fun m => Nat.rec (motive := fun _ => List D → Prop) (fun _ => False) (fun _ it xs => xs.length = np ∧ TW P t (env ++ xs) (ks ++ [it]) R) m
          let p : Act → World → Nat → Prop := fun a w m => ∃ xs q, it m xs ∧ At (env ++ xs) sh q ∧ Holds B M0 w0 q a w
          refine wp_loop (fun a w => ∃ m, p a w m) (fun a w => least (p a w)) ⟨m, xs0, q0, hm, hat0, hh0⟩ fun a w hI => ?_
          obtain ⟨⟨xs1, q1, h1, h2, h3⟩, hmin⟩ := least_spec (p := p a w) hI
          generalize hm : least (p a w) = m at h1 hmin
          cases m with
          | zero => exact h1.elim
          | succ m =>
            obtain ⟨hl, htw⟩ : xs1.length = np ∧ TW P t (env ++ xs1) (ks ++ [it m]) R := h1
            refine comp_ok hP hc b (Q := Exit.then (fun a' w' => (∃ m, p a' w' m) ∧ least (p a' w') < m + 1) Q) hb htw (by simp [hn, hl]) (by simp [hk]) h2 h3 ?_ (fun id k hid => (hX id k hid).more ⟨xs1, rfl⟩ .one) (hR.more ⟨xs1, rfl⟩ .one)
            intro s' n' dk' tm' env' ks' q' a' w' g1 g2 g3 g4 g5 g6 g7 g8
            simp only [jmpK, hhint] at g1
            split at g1
            · rename_i hw'
              injection g1 with g1; subst g1
              obtain ⟨ys, k, e1, e2, e3⟩ := g2
              rw [g4.get (j := dk) (k := it m) (by rw [← hk]; simp)] at e2; injection e2 with e2; subst e2
              obtain ⟨q'', f1, f2⟩ := wkS_ok hn ((show Ext env (env ++ xs1) from ⟨xs1, rfl⟩).trans g3) e1 g7 hw' g8
              have hp : p a' w' m := ⟨ys, q'', e3, f1, f2⟩
              exact ⟨⟨m, hp⟩, by have := (least_spec (p := p a' w') ⟨m, hp⟩).2 m hp; omega⟩
            · cases g1
        · cases h
      · cases h
  | .exit id, key, K, xs, Rk, s, n, dk, tm, env, ks, q, a, w, Q, h, ht, hn, hk, hat, hh, hK, hX, hR => by
    simp only [comp] at h
    split at h
    · rename_i k hid
      exact wp_exit (hX id k hid _ _ _ _ _ _ _ _ _ h ht .rfl .rfl hn hk hat hh)
    · cases h
  | .ret, key, K, xs, Rk, s, n, dk, tm, env, ks, q, a, w, Q, h, ht, hn, hk, hat, hh, hK, hX, hR => by
    simp only [comp] at h
    exact wp_ret (hR _ _ _ _ _ _ _ _ _ h ht .rfl .rfl hn hk hat hh)
  | .rangeFunc _ _ _ _, _, _, _, _, _, _, _, _, _, _, _, _, _, _, h, _, _, _, _, _, _, _, _ => by simp [comp] at h
  | .scope _, _, _, _, _, _, _, _, _, _, _, _, _, _, _, h, _, _, _, _, _, _, _, _ => by simp [comp] at h
  | .label _, _, _, _, _, _, _, _, _, _, _, _, _, _, _, h, _, _, _, _, _, _, _, _ => by simp [comp] at h
  | .goto _, _, _, _, _, _, _, _, _, _, _, _, _, _, _, h, _, _, _, _, _, _, _, _ => by simp [comp] at h
  | .refuse _, _, _, _, _, _, _, _, _, _, _, _, _, _, _, h, _, _, _, _, _, _, _, _ => by simp [comp] at h
end
end Go.Proofs.Ytidnkaopndmigaa.V
end
section
set_option linter.unusedSimpArgs false
set_option linter.unusedVariables false
/- A function's contract out of its term. -/
namespace Go.Proofs.Ytidnkaopndmigaa.V
open Go.RowKit

variable {P : Program} {B : Nat → Nat → Prop} {M0 : Fr} {w w0 : World}
section
variable {env : List D} {s : SS} {q : S} {n dk : Nat} {ks : List (List D → Prop)} {R : List D → Prop} {tm : Tm} {a : Act}

theorem res1_dnd {t : Nat} : res1 P q (.tmp t) = dnd q.T (.tmp t) := by
  simp only [res1, dnd, dlf, opnd]
  cases q.T[t]? with
  | none => rfl
  | some a => cases a <;> rfl

theorem retK_ok {c : Cx} (hc : c.P = P) : ∀ {xs : List ResultVar} {K : List Rf → Nat → M} {env : List D} {n : Nat} {tm : Tm}, At env s q → retK c xs s n K = .ok tm → TW P tm env ks R → env.length = n →
    ∃ rs env' n' tm' ds, K rs n' = .ok tm' ∧ TW P tm' env' ks R ∧ Ext env env' ∧ env'.length = n' ∧ rs.mapM (rf env') = some ds ∧ resL P q xs = some (ds.map D.n1)
  | [], K, env, n, tm, hat, h, ht, hn => ⟨[], env, n, tm, [], h, ht, .rfl, hn, by simp, rfl⟩
  | .tmp t :: xs, K, env, n, tm, hat, h, ht, hn => by
    simp only [retK] at h
    obtain ⟨r, env1, n1, tm1, d, k1, k2, k3, k4, k5, k6⟩ := rfK_ok hat h ht hn
    obtain ⟨rs, env', n', tm', ds, g1, g2, g3, g4, g5, g6⟩ := retK_ok hc (k3.at hat) k1 k2 k4
    refine ⟨r :: rs, env', n', tm', d :: ds, g1, g2, k3.trans g3, g4, by simp only [List.mapM_cons, g3.rf k5, g5, Option.bind_eq_bind, Option.bind_some, Option.pure_def], ?_⟩
    simp only [resL, res1_dnd, k6, g6, List.map_cons]
  | .cell t ty :: xs, K, env, n, tm, hat, h, ht, hn => by
    simp only [retK] at h
    split at h
    · rename_i k off hb
      obtain ⟨y, h1, h2⟩ := hat.get hb
      simp only [fl, Option.some.injEq] at h2; subst h2
      obtain ⟨a', env1, n1, tm1, y, cd, k1, k2, k3, k4, k5, k6, k7⟩ := loadS_ok (ya := .box k off) hat.X rfl h ht hn
      obtain ⟨r, env2, n2, tm2, d, e1, e2, e3, e4, e5, e6⟩ := rfKA_ok k1 k2 k4 k5
      have hat2 := (k3.trans e3).at hat
      obtain ⟨rs, env', n', tm', ds, g1, g2, g3, g4, g5, g6⟩ := retK_ok hc hat2 e1 e2 e4
      refine ⟨r :: rs, env', n', tm', d :: ds, g1, g2, (k3.trans e3).trans g3, g4, by simp only [List.mapM_cons, g3.rf e5, g5, Option.bind_eq_bind, Option.bind_some, Option.pure_def], ?_⟩
      rw [hc] at k6
      simp only [resL, res1, h1, k6, e6, g6, List.map_cons]
    · cases h

theorem start_at {ds : List D} {nt : Nat} (hds : ∀ d ∈ ds, d ≠ .nil) : At ds (startS ds.length nt) (start ds nt) := by
  refine ⟨?_, rfl, rfl⟩
  simp only [startS, start]
  refine mapM_app (mapM_of (by simp) fun i x hx => ?_) ?_
  · rw [List.getElem?_map, Option.map_eq_some_iff] at hx
    obtain ⟨j, hj, rfl⟩ := hx
    obtain ⟨hlt, hj⟩ := List.getElem?_eq_some_iff.1 hj
    simp at hj; subst hj
    have hlt' : i < ds.length := by simpa using hlt
    refine ⟨.d ds[i], by simp [List.getElem?_map, List.getElem?_eq_getElem hlt'], ?_⟩
    simp only [fl, rf, List.getElem?_eq_getElem hlt', Option.map_some]
    have := hds _ (List.getElem_mem hlt')
    cases hd : ds[i] <;> first | rfl | exact absurd hd this
  · generalize nt - ds.length = m
    induction m with
    | zero => rfl
    | succ m ih => simp only [List.replicate_succ, List.mapM_cons, ih, fl, Option.bind_eq_bind, Option.bind_some, Option.pure_def]

theorem Con.ofTm {c : Cx} {f : FuncId} {fn : Func} (hP : P.follows .mixedOrders = true) (hc : c.P = P) (hf : P.funcs[f]? = some fn) (hnm : (fn.name == "runtime.NumGoroutine") = false) (h : compF c fn = .ok tm)
    {ds qs : List D} (hl : ds.length = fn.params.size) (hds : ∀ d ∈ ds, d ≠ .nil) (ht : TW P tm ds [] fun xs => xs.map D.n1 = qs) : Con P f ds (tupD qs) := by
  unfold compF at h
  split at h
  · rename_i b hb
    refine Con.of hf hnm hb fun B M0 w0 a w hh => ?_
    rw [← hl] at h
    have hR : ∀ e, e = Exit.normal ∨ e = Exit.ret → Good P B M0 w0 (retS c fn.results.toList) ds [] (fun xs => xs.map D.n1 = qs) (fun a' w' => ∃ s', Post P fn.results (tupD qs) e s' ∧ Holds B M0 w0 s' a' w') := by
      intro e he s' n' dk' tm' env' ks' q' a' w' h1 h2 h3 _ h5 _ h7 h8
      obtain ⟨q1, hat1, hh1⟩ := frzL_ok (resOps fn.results.toList) h7 h8
      obtain ⟨rs, env2, n2, tm2, xs, k1, k2, k3, k4, k5, k6⟩ := retK_ok hc hat1 h1 h2 h5
      injection k1 with k1; subst k1
      obtain ⟨xs', e1, e2⟩ := k2
      rw [k5] at e1; injection e1 with e1; subst e1
      refine ⟨q1, ⟨he, ?_⟩, hh1⟩
      simp only [resD, k6, Option.map_some, Option.some.injEq]
      rw [e2]
      unfold tupD
      split <;> split <;> simp_all
    exact comp_ok hP hc b h ht rfl rfl (start_at hds) hh (hR _ (.inl rfl)) (fun id k hid => by simp [exitOf] at hid) (hR _ (.inr rfl))
  · cases h

/-! Functions that are handed variables, or hand back rows. -/
/-- As data, or as they are handed back. -/
def Rl : List A → List A → Prop
  | [], [] => True
  | u :: us, v :: vs => (u = plainA v ∨ u = outN v) ∧ Rl us vs
  | _, _ => False
theorem aggK_ok {b : SA} {y : A} {K : SA → Nat → M} (h : aggK b n K = .ok tm) (ht : TW P tm env ks R) (hn : env.length = n) (hb : fl env b = some y) :
    ∃ b' u env' n' tm', K b' n' = .ok tm' ∧ TW P tm' env' ks R ∧ Ext env env' ∧ env'.length = n' ∧ fl env' b' = some u ∧ (u = plainA y ∨ u = outN y) := by
  unfold aggK at h
  split at h
  · rename_i rs
    obtain ⟨k, z, g1, ⟨ds, e1, e2, rfl⟩, g3⟩ := letK_ok h ht
    obtain ⟨ds', f1, _, rfl⟩ := fl_agg hb
    rw [e1] at f1; injection f1 with f1; subst f1
    exact ⟨.d (.v n), .d (.agg (ds.map D.n0)), _, n + 1, k, g1, g3, .one, by simp [hn], by simp [fl, rf, ← hn, A.ofD], .inr rfl⟩
  · exact ⟨_, _, env, n, tm, h, ht, .rfl, hn, fl_plain hb, .inl rfl⟩
theorem retA_ok {c : Cx} (hc : c.P = P) : ∀ {xs : List ResultVar} {K : List SA → Nat → M} {env : List D} {n : Nat} {tm : Tm}, At env s q → retA c xs s n K = .ok tm → TW P tm env ks R → env.length = n →
    ∃ (as : List SA) (env' : List D) (n' : Nat) (tm' : Tm) (vs us : List A), K as n' = .ok tm' ∧ TW P tm' env' ks R ∧ Ext env env' ∧ env'.length = n' ∧ as.mapM (fl env') = some us ∧ Rl us vs ∧ resO P q xs = some (vs.map outN)
  | [], K, env, n, tm, hat, h, ht, hn => ⟨[], env, n, tm, [], [], h, ht, .rfl, hn, by simp, trivial, rfl⟩
  | .tmp t :: xs, K, env, n, tm, hat, h, ht, hn => by
    simp only [retA] at h
    split at h
    · rename_i b hb
      obtain ⟨y, h1, h2⟩ := hat.get hb
      obtain ⟨b', u, env1, n1, tm1, k1, k2, k3, k4, k5, k6⟩ := aggK_ok h ht hn h2
      obtain ⟨as, env', n', tm', vs, us, g1, g2, g3, g4, g5, g6, g7⟩ := retA_ok hc (k3.at hat) k1 k2 k4
      refine ⟨b' :: as, env', n', tm', y :: vs, u :: us, g1, g2, k3.trans g3, g4, by simp only [List.mapM_cons, g3.fl k5, g5, Option.bind_eq_bind, Option.bind_some, Option.pure_def], ⟨k6, g6⟩, ?_⟩
      simp only [resO, resO1, h1, g7, Option.map_some, Option.bind_some, List.map_cons]
    · cases h
  | .cell t ty :: xs, K, env, n, tm, hat, h, ht, hn => by
    simp only [retA] at h
    split at h
    · rename_i k off hb
      obtain ⟨y, h1, h2⟩ := hat.get hb
      simp only [fl, Option.some.injEq] at h2; subst h2
      obtain ⟨a', env0, n0, tm0, y, cd, k1, k2, k3, k4, k5, k6, k7⟩ := loadS_ok (ya := .box k off) hat.X rfl h ht hn
      obtain ⟨b', u, env1, n1, tm1, f1, f2, f3, f4, f5, f6⟩ := aggK_ok k1 k2 k4 k5
      obtain ⟨as, env', n', tm', vs, us, g1, g2, g3, g4, g5, g6, g7⟩ := retA_ok hc ((k3.trans f3).at hat) f1 f2 f4
      refine ⟨b' :: as, env', n', tm', y :: vs, u :: us, g1, g2, (k3.trans f3).trans g3, g4, by simp only [List.mapM_cons, g3.fl f5, g5, Option.bind_eq_bind, Option.bind_some, Option.pure_def], ⟨f6, g6⟩, ?_⟩
      rw [hc] at k6
      simp only [resO, resO1, h1, k6, outO, g7, Option.map_some, Option.bind_some, List.map_cons]
    · cases h

theorem outN_wk {qs : List D} (hq : ∀ d ∈ qs, d.n1 = d) {b : SA} {v y : A} (hb : okR b = true) (h1 : fl qs b = some y) (h2 : wk1 (plainA v) y) : wk1 (outN v) y := by
  unfold outN
  split
  · rename_i x hx
    rw [hx] at h2
    have key : y = .d x → wk1 (.d x.n1) y := by
      rintro rfl
      cases b with
      | d r =>
        cases r with
        | k c => cases hb
        | v p =>
          simp only [fl, rf, Option.map_eq_some_iff] at h1
          obtain ⟨d, e1, e2⟩ := h1
          have hd : d = x := by cases d <;> first | (injection e2) | cases e2
          subst hd
          rw [hq d (List.mem_of_getElem? e1)]
          exact wk1_refl _
      | grow e sz i => simp only [fl] at h1; split at h1 <;> cases h1
      | box k o => cases h1
      | row k e sz m => obtain ⟨_, _, h1⟩ := SN_val_row h1; cases h1
      | fn g cs => cases h1
      | unk => cases h1
      | want => cases h1
      | _ => cases hb
    cases y with
    | unk => trivial
    | want => trivial
    | d z => simp only [wk1] at h2; subst h2; exact key rfl
    | _ => simp [wk1] at h2
  · exact h2
theorem outN_wks {qs : List D} (hq : ∀ d ∈ qs, d.n1 = d) : ∀ {bs : List SA} {vs us ys : List A}, bs.all okR = true → bs.mapM (fl qs) = some ys → Rl us vs → wk us ys → wk (vs.map outN) ys
  | [], vs, us, ys, _, h, hr, hw => by
    simp at h; subst h
    cases us with
    | nil => cases vs with
      | nil => trivial
      | cons => exact hr.elim
    | cons => exact hw.elim
  | b :: bs, vs, us, ys, hb, h, hr, hw => by
    simp only [List.mapM_cons, Option.bind_eq_bind, Option.bind_eq_some_iff, Option.pure_def, Option.some.injEq] at h
    obtain ⟨y, h1, ys, h2, rfl⟩ := h
    cases us with
    | nil => exact hw.elim
    | cons u us =>
      cases vs with
      | nil => exact hr.elim
      | cons v vs =>
        simp only [List.all_cons, Bool.and_eq_true] at hb
        refine ⟨?_, outN_wks hq hb.2 h2 hr.2 hw.2⟩
        rcases hr.1 with e | e
        · exact outN_wk hq hb.1 h1 (by rw [← e]; exact hw.1)
        · rw [← e]; exact hw.1
theorem noBS_ok {qs : List D} : ∀ {Y : List (Nat × XC)} {Y' : List (Nat × List A)}, noBS Y = true → flX qs Y = some Y' → noB Y'
  | [], Y', _, h => by simp only [flX, Option.some.injEq] at h; subst h; intro k ls hk; simp [lk] at hk
  | (k, c) :: Y, Y', hb, h => by
    simp only [flX] at h
    split at h
    · rename_i ls Y' h1 h2
      injection h with h; subst h
      simp only [noBS, List.all_cons, Bool.and_eq_true] at hb
      intro k' ls' hk a ha
      simp only [lk] at hk
      split at hk
      · injection hk with hk; subst hk
        cases c with
        | row i sz =>
          obtain ⟨xs, _, _, rfl⟩ := flC_row_inv h1
          obtain ⟨d, _, rfl⟩ := List.mem_map.1 ha
          cases d <;> rfl
        | cs l =>
          obtain ⟨e1, _⟩ := flC_cs_inv h1
          obtain ⟨i, hi, rfl⟩ := List.mem_iff_getElem.1 ha
          have hil : i < l.length := by rw [← (mapM_get e1).1]; exact hi
          obtain ⟨y, f1, f2⟩ := (mapM_get e1).2 i _ (List.getElem?_eq_getElem hil)
          rw [List.getElem?_eq_getElem hi] at f1; injection f1 with f1
          have hnb := List.all_eq_true.1 hb.1 _ (List.getElem_mem hil)
          rw [f1]
          generalize l[i] = b at f2 hnb
          cases b with
          | bor => cases hnb
          | d r => simp only [fl, Option.map_eq_some_iff] at f2; obtain ⟨dd, _, rfl⟩ := f2; cases dd <;> rfl
          | tup is => simp only [fl, Option.map_eq_some_iff] at f2; obtain ⟨dd, _, rfl⟩ := f2; rfl
          | agg rs => obtain ⟨_, _, _, rfl⟩ := fl_agg f2; rfl
          | grow e sz i => simp only [fl] at f2; split at f2 <;> first | (injection f2 with f2; subst f2; rfl) | cases f2
          | box k o => simp only [fl, Option.some.injEq] at f2; subst f2; rfl
          | boxi k ix sz j => simp only [fl, Option.map_eq_some_iff] at f2; obtain ⟨dd, _, rfl⟩ := f2; rfl
          | cell i o => simp only [fl, Option.map_eq_some_iff] at f2; obtain ⟨dd, _, rfl⟩ := f2; rfl
          | row k e sz m => obtain ⟨_, _, rfl⟩ := SN_val_row f2; rfl
          | fn g cs => simp only [fl, Option.some.injEq] at f2; subst f2; rfl
          | unk => simp only [fl, Option.some.injEq] at f2; subst f2; rfl
          | want => simp only [fl, Option.some.injEq] at f2; subst f2; rfl
      · exact noBS_ok (Y := Y) hb.2 h2 k' ls' hk a ha
    · cases h

theorem argsS_len {base : Nat} {x y : SS} : ∀ {m : Nat}, (argsS base x y m).length = m
  | 0 => rfl
  | m + 1 => by simp only [argsS, List.length_append, argsS_len, List.length_cons, List.length_nil]

theorem startG_at {g : Sg} {ps : List D} {as : List A} {X : List (Nat × List A)} {nt : Nat} (h1 : g.as.mapM (fl ps) = some as) (h2 : flX ps g.X = some X) : At ps (startG g nt) (startO as X nt) := by
  refine ⟨?_, h2, rfl⟩
  simp only [startG, startO]
  have hl := (mapM_get h1).1
  refine mapM_app h1 ?_
  rw [hl]
  generalize nt - g.as.length = m
  induction m with
  | zero => rfl
  | succ m ih => simp only [List.replicate_succ, List.mapM_cons, ih, fl, Option.bind_eq_bind, Option.bind_some, Option.pure_def]

theorem SCon.ofTm {c : Cx} {g : Sg} {fn : Func} (hP : P.follows .mixedOrders = true) (hc : c.P = P) (hf : P.funcs[g.f]? = some fn) (hnm : (fn.name == "runtime.NumGoroutine") = false) (h : compO c g fn = .ok tm)
    {ps qs : List D} (hl : ps.length = g.np) (hps : (g.as.mapM (fl ps)).isSome = true ∧ (flX ps g.X).isSome = true) (hql : qs.length = g.nr) (hqs : (g.rs.mapM (fl qs)).isSome = true ∧ (flX qs g.Y).isSome = true)
    (hln : LnOk g.ln ps qs) (ht : TW P tm ps [] fun xs => xs = qs ∧ ∀ x ∈ xs, x.n1 = x) : SCon P g ps qs := by
  obtain ⟨as, has⟩ := Option.isSome_iff_exists.1 hps.1
  obtain ⟨X, hX⟩ := Option.isSome_iff_exists.1 hps.2
  obtain ⟨rsv, hrsv⟩ := Option.isSome_iff_exists.1 hqs.1
  obtain ⟨Y, hY⟩ := Option.isSome_iff_exists.1 hqs.2
  refine ⟨hl, hql, hln, as, X, rsv, Y, has, hX, hrsv, hY, ?_⟩
  unfold compO at h
  split at h
  · rename_i b hb
    refine ConO.of hf hnm hb fun B M0 w0 a w hh => ?_
    have hR : ∀ e, e = Exit.normal ∨ e = Exit.ret → Good P B M0 w0 (retO c g fn.results.toList) ps [] (fun xs => xs = qs ∧ ∀ x ∈ xs, x.n1 = x) (fun a' w' => ∃ s', PostO P fn.results rsv Y e s' ∧ Holds B M0 w0 s' a' w') := by
      intro e he s' n' dk' tm' env' ks' q' a' w' h1 h2 h3 _ h5 _ h7 h8
      simp only [retO] at h1
      obtain ⟨q1, hat1, hh1⟩ := frzL_ok (frzRs g.rs fn.results.toList) h7 h8
      obtain ⟨bs, env2, n2, tm2, vs, us, k1, k2, k3, k4, k5, k6, k7⟩ := retA_ok hc hat1 h1 h2 h5
      split at k1
      · rename_i hcond
        injection k1 with k1; subst k1
        simp only [Bool.and_eq_true] at hcond
        obtain ⟨⟨⟨⟨c1, c2⟩, c3⟩, c4⟩, c5⟩ := hcond
        obtain ⟨xs, e1, rfl, e2⟩ := k2
        have hx0 : Ext [] env2 := ⟨env2, by simp⟩
        obtain ⟨m', f1, f2, _⟩ := wkL_ok (envb := []) rfl hx0 e1 c4 k5
        obtain ⟨Y', f4, _, f5⟩ := wkX_ok (envb := []) rfl hx0 e1 (k3.at hat1).X c5
        rw [List.nil_append] at f1 f4
        rw [hrsv] at f1; injection f1 with f1; subst f1
        rw [hY] at f4; injection f4 with f4; subst f4
        refine ⟨q1, ⟨he, ?_, f5, ?_, noBS_ok c2 hY⟩, hh1⟩
        · rw [k7]; exact outN_wks e2 c1 hrsv k6 f2
        · rw [hat1.C]; exact c3
      · cases k1
    exact comp_ok hP hc b h ht hl rfl (startG_at has hX) hh (hR _ (.inl rfl)) (fun id k hid => by simp [exitOf] at hid) (hR _ (.inr rfl))
  · cases h
end
end Go.Proofs.Ytidnkaopndmigaa.V
end
section
set_option linter.unusedSimpArgs false
set_option linter.unusedVariables false
/- Types: data of a known kind as plain Lean values. -/
namespace Go.Proofs.Ytidnkaopndmigaa.V
open Go.RowKit

inductive Ty where
  | int (k : IntKind)
  | bool
  | str
  | sl (t : Ty)
  | e
  | p (a b : Ty)
  deriving DecidableEq
@[reducible] def Ty.den : Ty → Type
  | .int _ => Int
  | .bool => Bool
  | .str => ByteArray
  | .sl t => List t.den
  | .e => Unit
  | .p a b => a.den × b.den
/-- Not a struct. -/
def Ty.fld : Ty → Bool
  | .e | .p _ _ => false
  | _ => true
def D.mk' (fld : Bool) (l : List D) : D := if fld then l.getD 0 default else .agg l
def Ty.cs : (t : Ty) → t.den → List D
  | .int k, n => [.int k n]
  | .bool, b => [.bool b]
  | .str, s => [.str s]
  | .sl t, xs => [.sl (xs.map fun x => D.mk' t.fld (t.cs x))]
  | .e, _ => []
  | .p a b, x => a.cs x.1 ++ b.cs x.2
def Ty.toD (t : Ty) (x : t.den) : D := D.mk' t.fld (t.cs x)
def Ty.len : Ty → Nat
  | .e => 0
  | .p a b => a.len + b.len
  | _ => 1
theorem cs_len : ∀ {t : Ty} {x : t.den}, (t.cs x).length = t.len
  | .int k, _ => rfl
  | .bool, _ => rfl
  | .str, _ => rfl
  | .sl t, _ => rfl
  | .e, _ => rfl
  | .p a b, x => by simp only [Ty.cs, List.length_append, cs_len, Ty.len]
theorem cs_leaf : ∀ {t : Ty} {x : t.den} {d : D}, d ∈ t.cs x → d.leaf = true ∧ d.n0 = d ∧ d.n1 = d
  | .int k, _, d, h => by simp only [Ty.cs, List.mem_singleton] at h; subst h; exact ⟨rfl, rfl, rfl⟩
  | .bool, _, d, h => by simp only [Ty.cs, List.mem_singleton] at h; subst h; exact ⟨rfl, rfl, rfl⟩
  | .str, _, d, h => by simp only [Ty.cs, List.mem_singleton] at h; subst h; exact ⟨rfl, rfl, rfl⟩
  | .sl t, _, d, h => by simp only [Ty.cs, List.mem_singleton] at h; subst h; exact ⟨rfl, rfl, rfl⟩
  | .e, _, d, h => by simp [Ty.cs] at h
  | .p a b, x, d, h => by
    simp only [Ty.cs, List.mem_append] at h
    rcases h with h | h
    · exact cs_leaf h
    · exact cs_leaf h
theorem cs_all {t : Ty} {x : t.den} : (t.cs x).all D.leaf = true := List.all_eq_true.2 fun d hd => (cs_leaf hd).1
theorem cs_n0 {t : Ty} {x : t.den} : (t.cs x).map D.n0 = t.cs x := by
  conv => rhs; rw [← List.map_id (t.cs x)]
  exact List.map_congr_left fun d hd => (cs_leaf hd).2.1
theorem cs_fld {t : Ty} {x : t.den} (h : t.fld = true) : t.cs x = [t.toD x] := by
  have hl : (t.cs x).length = 1 := by rw [cs_len]; cases t <;> first | rfl | cases h
  match hc : t.cs x, hl with
  | [d], _ => simp only [Ty.toD, hc, h, D.mk', if_true]; rfl
theorem toD_agg {t : Ty} {x : t.den} (h : t.fld = false) : t.toD x = .agg (t.cs x) := by simp only [Ty.toD, h, D.mk']; rfl
theorem toD_leaf {t : Ty} {x : t.den} (h : t.fld = true) : (t.toD x).leaf = true := (cs_leaf (x := x) (by rw [cs_fld h]; simp)).1
theorem cells_toD {t : Ty} {x : t.den} : (t.toD x).cells = t.cs x := by
  cases h : t.fld with
  | true =>
    rw [cs_fld h]
    have := toD_leaf (x := x) h
    cases hd : t.toD x <;> first | rfl | (rw [hd] at this; cases this)
  | false => rw [toD_agg h]; rfl
theorem n1_toD {t : Ty} {x : t.den} : (t.toD x).n1 = t.toD x := by
  cases h : t.fld with
  | true => exact (cs_leaf (x := x) (by rw [cs_fld h]; simp)).2.2
  | false => rw [toD_agg h]; simp only [D.n1, cs_n0]
theorem n0_toD {t : Ty} {x : t.den} : (t.toD x).n0 = t.toD x := by
  cases h : t.fld with
  | true => exact (cs_leaf (x := x) (by rw [cs_fld h]; simp)).2.1
  | false => rw [toD_agg h]; rfl
theorem toD_ne {t : Ty} {x : t.den} : t.toD x ≠ .nil := by
  intro h
  have := n0_toD (x := x)
  rw [h] at this; cases this
theorem ofD_ne {d : D} (h : d ≠ .nil) : A.ofD d = .d d := by cases d <;> first | rfl | exact absurd rfl h
theorem ofD_toD {t : Ty} {x : t.den} : A.ofD (t.toD x) = .d (t.toD x) := ofD_ne toD_ne
theorem toD_sl {t : Ty} {xs : List t.den} : (Ty.sl t).toD xs = .sl (xs.map t.toD) := rfl
theorem uni_toD {t : Ty} {xs : List t.den} {sz : Nat} (h : t.len = sz) : uni sz (xs.map t.toD) := by
  intro d hd
  obtain ⟨x, _, rfl⟩ := List.mem_map.1 hd
  rw [cells_toD]
  exact ⟨by rw [cs_len, h], cs_all⟩

/-! Typed variables: the newest first. -/
@[reducible] def Env : List Ty → Type
  | [] => Unit
  | t :: Γ => t.den × Env Γ
def envD : (Γ : List Ty) → Env Γ → List D
  | [], _ => []
  | t :: Γ, x => envD Γ x.2 ++ [t.toD x.1]
theorem envD_len : ∀ {Γ : List Ty} {x : Env Γ}, (envD Γ x).length = Γ.length
  | [], _ => rfl
  | t :: Γ, x => by simp only [envD, List.length_append, envD_len, List.length_cons, List.length_nil]
def look : (Γ : List Ty) → Nat → Option (Σ t : Ty, (Env Γ → t.den))
  | [], _ => none
  | t :: _, 0 => some ⟨t, fun x => x.1⟩
  | _ :: Γ, i + 1 => match look Γ i with | some ⟨t, f⟩ => some ⟨t, fun x => f x.2⟩ | none => none
theorem look_ok : ∀ {Γ : List Ty} {i : Nat} {t : Ty} {f : Env Γ → t.den} {x : Env Γ}, look Γ i = some ⟨t, f⟩ → i < Γ.length ∧ (envD Γ x)[Γ.length - 1 - i]? = some (t.toD (f x))
  | [], _, _, _, _, h => by simp [look] at h
  | t :: Γ, 0, t', f, x, h => by
    simp only [look, Option.some.injEq, Sigma.mk.injEq] at h
    obtain ⟨rfl, h⟩ := h
    have h := eq_of_heq h
    subst h
    refine ⟨by simp, ?_⟩
    simp only [envD, List.length_cons, Nat.add_sub_cancel, Nat.sub_zero]
    rw [List.getElem?_append_right (by rw [envD_len]; exact Nat.le_refl _), envD_len, Nat.sub_self]; rfl
  | t :: Γ, i + 1, t', f, x, h => by
    simp only [look] at h
    split at h
    · rename_i t'' g hg
      simp only [Option.some.injEq, Sigma.mk.injEq] at h
      obtain ⟨rfl, h⟩ := h
      have h := eq_of_heq h
      subst h
      obtain ⟨h1, h2⟩ := look_ok (x := x.2) hg
      refine ⟨by simp; omega, ?_⟩
      simp only [envD, List.length_cons]
      rw [show Γ.length + 1 - 1 - (i + 1) = Γ.length - 1 - i from by omega, List.getElem?_append_left (by rw [envD_len]; omega)]
      exact h2
    · cases h
def lookV (Γ : List Ty) (i : Nat) : Option (Σ t : Ty, (Env Γ → t.den)) := if i < Γ.length then look Γ (Γ.length - 1 - i) else none
theorem lookV_ok {Γ : List Ty} {i : Nat} {t : Ty} {f : Env Γ → t.den} {x : Env Γ} (h : lookV Γ i = some ⟨t, f⟩) : (envD Γ x)[i]? = some (t.toD (f x)) := by
  unfold lookV at h
  split at h
  · rename_i hlt
    have := (look_ok (x := x) h).2
    rw [show Γ.length - 1 - (Γ.length - 1 - i) = i from by omega] at this; exact this
  · cases h

/-- Read at a wanted type. -/
def asT {α : Type} (t : Ty) : Option (Σ t : Ty, (α → t.den)) → Option (α → t.den)
  | some ⟨t', f⟩ => if h : t' = t then some (h ▸ f) else none
  | none => none
theorem asT_ok {α : Type} {t : Ty} {o : Option (Σ t : Ty, (α → t.den))} {f : α → t.den} (h : asT t o = some f) : o = some ⟨t, f⟩ := by
  unfold asT at h
  split at h
  · split at h
    · rename_i e; subst e; injection h with h; subst h; rfl
    · cases h
  · cases h

/-- Constants. -/
def kT (α : Type) : Kc → Option (Σ t : Ty, (α → t.den))
  | .int k n => some ⟨.int k, fun _ => n⟩
  | .bool b => some ⟨.bool, fun _ => b⟩
  | .str s => some ⟨.str, fun _ => s⟩
  | _ => none
theorem kT_ok {α : Type} {k : Kc} {t : Ty} {f : α → t.den} {x : α} (h : kT α k = some ⟨t, f⟩) : k.d = t.toD (f x) := by
  cases k with
  | nil => cases h
  | emp => cases h
  | _ =>
    simp only [kT, Option.some.injEq, Sigma.mk.injEq] at h
    obtain ⟨rfl, h⟩ := h
    have h := eq_of_heq h
    subst h; rfl
def rfI (Γ : List Ty) : Rf → Option (Σ t : Ty, (Env Γ → t.den))
  | .v i => lookV Γ i
  | .k c => kT _ c
theorem rfI_ok {Γ : List Ty} {r : Rf} {t : Ty} {f : Env Γ → t.den} {x : Env Γ} (h : rfI Γ r = some ⟨t, f⟩) : rf (envD Γ x) r = some (t.toD (f x)) := by
  cases r with
  | v i => exact lookV_ok h
  | k c => simp only [rf, kT_ok (x := x) h]
/-- At a wanted type. A nil slice is an empty one. -/
def rfT (Γ : List Ty) (r : Rf) (t : Ty) : Option (Env Γ → t.den) := match r, t with
  | .k .nil, .sl _ => some fun _ => []
  | .k .emp, .sl _ => some fun _ => []
  | r, t => asT t (rfI Γ r)
def isNil : Rf → Bool | .k .nil => true | _ => false
theorem rfT_ok {Γ : List Ty} {r : Rf} {t : Ty} {f : Env Γ → t.den} {x : Env Γ} (h : rfT Γ r t = some f) : ∃ d, rf (envD Γ x) r = some d ∧ d.n1 = t.toD (f x) ∧ d.n0 = t.toD (f x) ∧ (isNil r = false → d = t.toD (f x)) := by
  unfold rfT at h
  split at h
  · injection h with h; subst h; exact ⟨.nil, rfl, rfl, rfl, fun h => by cases h⟩
  · injection h with h; subst h; exact ⟨.sl [], rfl, rfl, rfl, fun _ => rfl⟩
  · exact ⟨_, rfI_ok (asT_ok h), n1_toD, n0_toD, fun _ => rfl⟩
theorem rfT_list {Γ : List Ty} {r : Rf} {t : Ty} {f : Env Γ → List t.den} {x : Env Γ} (h : rfT Γ r (.sl t) = some f) : list? (rf (envD Γ x) r) = some ((f x).map t.toD) := by
  obtain ⟨d, h1, h2, _⟩ := rfT_ok (x := x) h
  rw [h1]
  rw [toD_sl] at h2
  cases d with
  | sl xs => have h2 : D.sl xs = D.sl _ := h2; injection h2 with h2; rw [← h2]; rfl
  | nil => have h2 : D.sl [] = D.sl _ := h2; injection h2 with h2; rw [← h2]; rfl
  | _ => cases h2
theorem rfT_int {Γ : List Ty} {r : Rf} {k : IntKind} {f : Env Γ → Int} {x : Env Γ} (h : rfT Γ r (.int k) = some f) : rf (envD Γ x) r = some (.int k (f x)) := by
  obtain ⟨d, h1, h2, _⟩ := rfT_ok (x := x) h
  rw [h1]
  cases d with
  | int k' n => have h2 : D.int k' n = D.int k _ := h2; injection h2 with h2 h3; rw [h2, h3]
  | _ => cases h2

/-- Some integer, of whatever width. -/
def rfInt (Γ : List Ty) (r : Rf) : Option (Env Γ → Int) := match rfI Γ r with | some ⟨.int _, f⟩ => some f | _ => none
theorem rfInt_ok {Γ : List Ty} {r : Rf} {f : Env Γ → Int} {x : Env Γ} (h : rfInt Γ r = some f) : ∃ k, rf (envD Γ x) r = some (.int k (f x)) := by
  unfold rfInt at h
  split at h
  · rename_i k g hg
    injection h with h; subst h
    exact ⟨k, rfI_ok hg⟩
  · cases h

/-- Several, in order. -/
@[reducible] def Tp : List Ty → Type
  | [] => Unit
  | t :: ts => t.den × Tp ts
def tpD : (ts : List Ty) → Tp ts → List D
  | [], _ => []
  | t :: ts, x => t.toD x.1 :: tpD ts x.2
@[reducible] def revT : List Ty → List Ty → List Ty
  | [], Γ => Γ
  | t :: ts, Γ => revT ts (t :: Γ)
def push : (ts : List Ty) → Tp ts → {Γ : List Ty} → Env Γ → Env (revT ts Γ)
  | [], _, _, env => env
  | _ :: ts, x, _, env => push ts x.2 (x.1, env)
theorem push_ok : ∀ {ts : List Ty} {x : Tp ts} {Γ : List Ty} {env : Env Γ}, envD (revT ts Γ) (push ts x env) = envD Γ env ++ tpD ts x
  | [], _, _, _ => by simp [push, tpD]
  | t :: ts, x, Γ, env => by
    simp only [push, revT, tpD]
    rw [push_ok]
    simp only [envD, List.append_assoc]; rfl
theorem tpD_len : ∀ {ts : List Ty} {x : Tp ts}, (tpD ts x).length = ts.length
  | [], _ => rfl
  | t :: ts, x => by simp only [tpD, List.length_cons, tpD_len]
theorem tpD_n1 : ∀ {ts : List Ty} {x : Tp ts}, (∀ d ∈ tpD ts x, d.n1 = d ∧ d ≠ .nil)
  | [], _ => by simp [tpD]
  | t :: ts, x => by
    intro d hd
    simp only [tpD, List.mem_cons] at hd
    rcases hd with rfl | hd
    · exact ⟨n1_toD, toD_ne⟩
    · exact tpD_n1 d hd
def rfsT (Γ : List Ty) : List Rf → (ts : List Ty) → Option (Env Γ → Tp ts)
  | [], [] => some fun _ => ()
  | r :: rs, t :: ts => match rfT Γ r t, rfsT Γ rs ts with | some f, some g => some fun x => (f x, g x) | _, _ => none
  | _, _ => none
theorem rfsT_ok {Γ : List Ty} : ∀ {rs : List Rf} {ts : List Ty} {f : Env Γ → Tp ts} {x : Env Γ}, rfsT Γ rs ts = some f → ∃ ds, rs.mapM (rf (envD Γ x)) = some ds ∧ ds.map D.n1 = tpD ts (f x) ∧ ds.map D.n0 = tpD ts (f x) ∧ (rs.all (fun r => !isNil r) = true → ds = tpD ts (f x))
  | [], [], f, x, _ => ⟨[], by simp, rfl, rfl, fun _ => rfl⟩
  | r :: rs, t :: ts, f, x, h => by
    simp only [rfsT] at h
    split at h
    · rename_i f1 g h1 h2
      injection h with h; subst h
      obtain ⟨d, e1, e2, e3, e4⟩ := rfT_ok (x := x) h1
      obtain ⟨ds, g1, g2, g3, g4⟩ := rfsT_ok (x := x) h2
      refine ⟨d :: ds, by simp only [List.mapM_cons, e1, g1, Option.bind_eq_bind, Option.bind_some, Option.pure_def], by simp only [List.map_cons, e2, g2, tpD], by simp only [List.map_cons, e3, g3, tpD], fun h => ?_⟩
      simp only [List.all_cons, Bool.and_eq_true, Bool.not_eq_true'] at h
      simp only [tpD, e4 h.1, ← g4 h.2]
    · cases h
  | [], _ :: _, _, _, h => by simp [rfsT] at h
  | _ :: _, [], _, _, h => by simp [rfsT] at h

end Go.Proofs.Ytidnkaopndmigaa.V
end
section
set_option linter.unusedSimpArgs false
set_option linter.unusedVariables false
/- Types: what an expression yields, as a plain Lean value. -/
namespace Go.Proofs.Ytidnkaopndmigaa.V
open Go.RowKit

variable {P : Program}

/-! Parts of structs. -/
def fldT : (t : Ty) → Nat → Option (Σ t' : Ty, (t.den → t'.den))
  | .p a b, 0 => if a.fld then some ⟨a, fun x => x.1⟩ else none
  | .p a b, j + 1 => if a.fld then (match fldT b j with | some ⟨t', f⟩ => some ⟨t', fun x => f x.2⟩ | none => none) else none
  | .e, _ => none
  | t, 0 => some ⟨t, fun x => x⟩
  | _, _ + 1 => none
theorem cs_p {a b : Ty} {x : (Ty.p a b).den} (h : a.fld = true) : (Ty.p a b).cs x = a.toD x.1 :: b.cs x.2 := by
  show a.cs x.1 ++ b.cs x.2 = _
  rw [cs_fld h]; rfl
theorem fldT_ok : ∀ {t : Ty} {j : Nat} {t' : Ty} {f : t.den → t'.den} {x : t.den}, fldT t j = some ⟨t', f⟩ → t'.fld = true ∧ (t.cs x)[j]? = some (t'.toD (f x))
  | .p a b, 0, t', f, x, h => by
    simp only [fldT] at h
    split at h
    · rename_i ha
      simp only [Option.some.injEq, Sigma.mk.injEq] at h
      obtain ⟨rfl, h⟩ := h
      have h := eq_of_heq h
      subst h
      exact ⟨ha, by rw [cs_p ha]; rfl⟩
    · cases h
  | .p a b, j + 1, t', f, x, h => by
    simp only [fldT] at h
    split at h
    · rename_i ha
      split at h
      · rename_i t'' g hg
        simp only [Option.some.injEq, Sigma.mk.injEq] at h
        obtain ⟨rfl, h⟩ := h
        have h := eq_of_heq h
        subst h
        obtain ⟨h1, h2⟩ := fldT_ok (x := x.2) hg
        exact ⟨h1, by rw [cs_p ha]; simpa using h2⟩
      · cases h
    · cases h
  | .e, _, t', f, x, h => by simp [fldT] at h
  | .int k, 0, t', f, x, h => by simp only [fldT, Option.some.injEq, Sigma.mk.injEq] at h; obtain ⟨rfl, h⟩ := h; have h := eq_of_heq h; subst h; exact ⟨rfl, rfl⟩
  | .bool, 0, t', f, x, h => by simp only [fldT, Option.some.injEq, Sigma.mk.injEq] at h; obtain ⟨rfl, h⟩ := h; have h := eq_of_heq h; subst h; exact ⟨rfl, rfl⟩
  | .str, 0, t', f, x, h => by simp only [fldT, Option.some.injEq, Sigma.mk.injEq] at h; obtain ⟨rfl, h⟩ := h; have h := eq_of_heq h; subst h; exact ⟨rfl, rfl⟩
  | .sl t, 0, t', f, x, h => by simp only [fldT, Option.some.injEq, Sigma.mk.injEq] at h; obtain ⟨rfl, h⟩ := h; have h := eq_of_heq h; subst h; exact ⟨rfl, rfl⟩
  | .int k, _ + 1, t', f, x, h => by simp [fldT] at h
  | .bool, _ + 1, t', f, x, h => by simp [fldT] at h
  | .str, _ + 1, t', f, x, h => by simp [fldT] at h
  | .sl t, _ + 1, t', f, x, h => by simp [fldT] at h

def takeT : (t : Ty) → Nat → Option (Σ t' : Ty, (t.den → t'.den))
  | _, 0 => some ⟨.e, fun _ => ()⟩
  | .p a b, n + 1 => if a.fld then (match takeT b n with | some ⟨t', f⟩ => some ⟨.p a t', fun x => (x.1, f x.2)⟩ | none => none) else none
  | _, _ + 1 => none
theorem takeT_ok : ∀ {t : Ty} {n : Nat} {t' : Ty} {f : t.den → t'.den} {x : t.den}, takeT t n = some ⟨t', f⟩ → t'.fld = false ∧ t'.cs (f x) = (t.cs x).take n ∧ n ≤ (t.cs x).length
  | t, 0, t', f, x, h => by
    have h : some (⟨.e, fun _ => ()⟩ : Σ t' : Ty, (t.den → t'.den)) = some ⟨t', f⟩ := by cases t <;> exact h
    simp only [Option.some.injEq, Sigma.mk.injEq] at h
    obtain ⟨rfl, h⟩ := h
    exact ⟨rfl, by simp [Ty.cs], Nat.zero_le _⟩
  | .p a b, n + 1, t', f, x, h => by
    simp only [takeT] at h
    split at h
    · rename_i ha
      split at h
      · rename_i t'' g hg
        simp only [Option.some.injEq, Sigma.mk.injEq] at h
        obtain ⟨rfl, h⟩ := h
        have h := eq_of_heq h
        subst h
        obtain ⟨h1, h2, h3⟩ := takeT_ok (x := x.2) hg
        refine ⟨rfl, ?_, ?_⟩
        · rw [cs_p ha, cs_p ha, List.take_succ_cons, h2]
        · rw [cs_p ha]; simpa using h3
      · cases h
    · cases h
  | .e, _ + 1, _, _, _, h => by simp [takeT] at h
  | .int k, _ + 1, _, _, _, h => by simp [takeT] at h
  | .bool, _ + 1, _, _, _, h => by simp [takeT] at h
  | .str, _ + 1, _, _, _, h => by simp [takeT] at h
  | .sl t, _ + 1, _, _, _, h => by simp [takeT] at h
def subT : (t : Ty) → Nat → Nat → Option (Σ t' : Ty, (t.den → t'.den))
  | t, 0, n => takeT t n
  | .p a b, o + 1, n => if a.fld then (match subT b o n with | some ⟨t', f⟩ => some ⟨t', fun x => f x.2⟩ | none => none) else none
  | _, _ + 1, _ => none
theorem subT_ok : ∀ {t : Ty} {o n : Nat} {t' : Ty} {f : t.den → t'.den} {x : t.den}, subT t o n = some ⟨t', f⟩ → t'.fld = false ∧ t'.cs (f x) = ((t.cs x).drop o).take n ∧ o + n ≤ (t.cs x).length
  | t, 0, n, t', f, x, h => by
    have h : takeT t n = some ⟨t', f⟩ := by cases t <;> exact h
    obtain ⟨h1, h2, h3⟩ := takeT_ok (x := x) h
    exact ⟨h1, h2, by omega⟩
  | .p a b, o + 1, n, t', f, x, h => by
    simp only [subT] at h
    split at h
    · rename_i ha
      split at h
      · rename_i t'' g hg
        simp only [Option.some.injEq, Sigma.mk.injEq] at h
        obtain ⟨rfl, h⟩ := h
        have h := eq_of_heq h
        subst h
        obtain ⟨h1, h2, h3⟩ := subT_ok (x := x.2) hg
        exact ⟨h1, by rw [cs_p ha]; exact h2, by rw [cs_p ha]; simp only [List.length_cons]; omega⟩
      · cases h
    · cases h
  | .e, _ + 1, _, _, _, _, h => by simp [subT] at h
  | .int k, _ + 1, _, _, _, _, h => by simp [subT] at h
  | .bool, _ + 1, _, _, _, _, h => by simp [subT] at h
  | .str, _ + 1, _, _, _, _, h => by simp [subT] at h
  | .sl t, _ + 1, _, _, _, _, h => by simp [subT] at h

/-- One cell set. -/
def setT : (t : Ty) → Nat → (t' : Ty) → Option (t.den → t'.den → t.den)
  | .p a b, 0, t' => if a.fld then (if h : t' = a then some (h ▸ fun x v => (v, x.2)) else none) else none
  | .p a b, j + 1, t' => if a.fld then (match setT b j t' with | some f => some fun x v => (x.1, f x.2 v) | none => none) else none
  | .e, _, _ => none
  | t, 0, t' => if h : t' = t then some (h ▸ fun _ v => v) else none
  | _, _ + 1, _ => none
theorem setT_ok : ∀ {t : Ty} {j : Nat} {t' : Ty} {f : t.den → t'.den → t.den} {x : t.den} {v : t'.den}, setT t j t' = some f → t'.fld = true ∧ t.cs (f x v) = (t.cs x).set j (t'.toD v) ∧ j < (t.cs x).length
  | .p a b, 0, t', f, x, v, h => by
    simp only [setT] at h
    split at h
    · rename_i ha
      split at h
      · rename_i e; subst e
        injection h with h; subst h
        exact ⟨ha, by rw [cs_p ha, cs_p ha]; rfl, by rw [cs_p ha]; simp⟩
      · cases h
    · cases h
  | .p a b, j + 1, t', f, x, v, h => by
    simp only [setT] at h
    split at h
    · rename_i ha
      split at h
      · rename_i g hg
        injection h with h; subst h
        obtain ⟨h1, h2, h3⟩ := setT_ok (x := x.2) (v := v) hg
        exact ⟨h1, by rw [cs_p ha, cs_p ha, List.set_cons_succ, h2], by rw [cs_p ha]; simpa using h3⟩
      · cases h
    · cases h
  | .e, _, _, _, _, _, h => by simp [setT] at h
  | .int k, 0, t', f, x, v, h => by simp only [setT] at h; split at h; rename_i e; subst e; injection h with h; subst h; exact ⟨rfl, rfl, by simp [Ty.cs]⟩; cases h
  | .bool, 0, t', f, x, v, h => by simp only [setT] at h; split at h; rename_i e; subst e; injection h with h; subst h; exact ⟨rfl, rfl, by simp [Ty.cs]⟩; cases h
  | .str, 0, t', f, x, v, h => by simp only [setT] at h; split at h; rename_i e; subst e; injection h with h; subst h; exact ⟨rfl, rfl, by simp [Ty.cs]⟩; cases h
  | .sl t, 0, t', f, x, v, h => by simp only [setT] at h; split at h; rename_i e; subst e; injection h with h; subst h; exact ⟨rfl, rfl, by simp [Ty.cs]⟩; cases h
  | .int k, _ + 1, _, _, _, _, h => by simp [setT] at h
  | .bool, _ + 1, _, _, _, _, h => by simp [setT] at h
  | .str, _ + 1, _, _, _, _, h => by simp [setT] at h
  | .sl t, _ + 1, _, _, _, _, h => by simp [setT] at h
/-- The first cells set. -/
def putT : (t : Ty) → (t' : Ty) → Option (t.den → t'.den → t.den)
  | _, .e => some fun x _ => x
  | .p a b, .p a' b' => if a.fld then (if h : a' = a then (match putT b b' with | some f => some (h ▸ fun x v => (v.1, f x.2 v.2)) | none => none) else none) else none
  | _, _ => none
theorem putT_ok : ∀ {t t' : Ty} {f : t.den → t'.den → t.den} {x : t.den} {v : t'.den}, putT t t' = some f → t'.fld = false ∧ t.cs (f x v) = t'.cs v ++ (t.cs x).drop (t'.cs v).length ∧ (t'.cs v).length ≤ (t.cs x).length
  | t, .e, f, x, v, h => by
    have h : some (fun (x : t.den) (_ : Unit) => x) = some f := by cases t <;> exact h
    injection h with h; subst h
    exact ⟨rfl, by simp [Ty.cs], by simp [Ty.cs]⟩
  | .p a b, .p a' b', f, x, v, h => by
    simp only [putT] at h
    split at h
    · rename_i ha
      split at h
      · rename_i e; subst e
        split at h
        · rename_i g hg
          injection h with h; subst h
          obtain ⟨h1, h2, h3⟩ := putT_ok (x := x.2) (v := v.2) hg
          refine ⟨rfl, ?_, ?_⟩
          · rw [cs_p ha, cs_p ha, cs_p ha]
            simp only [List.length_cons, List.drop_succ_cons, List.cons_append, h2]
          · rw [cs_p ha, cs_p ha]; simpa using h3
        · cases h
      · cases h
    · cases h
  | .e, .p _ _, _, _, _, h => by simp [putT] at h
  | .int _, .p _ _, _, _, _, h => by simp [putT] at h
  | .bool, .p _ _, _, _, _, h => by simp [putT] at h
  | .str, .p _ _, _, _, _, h => by simp [putT] at h
  | .sl _, .p _ _, _, _, _, h => by simp [putT] at h
  | .p _ _, .int _, _, _, _, h => by simp [putT] at h
  | .p _ _, .bool, _, _, _, h => by simp [putT] at h
  | .p _ _, .str, _, _, _, h => by simp [putT] at h
  | .p _ _, .sl _, _, _, _, h => by simp [putT] at h
  | .e, .int _, _, _, _, h => by simp [putT] at h
  | .e, .bool, _, _, _, h => by simp [putT] at h
  | .e, .str, _, _, _, h => by simp [putT] at h
  | .e, .sl _, _, _, _, h => by simp [putT] at h
  | .int _, .int _, _, _, _, h => by simp [putT] at h
  | .int _, .bool, _, _, _, h => by simp [putT] at h
  | .int _, .str, _, _, _, h => by simp [putT] at h
  | .int _, .sl _, _, _, _, h => by simp [putT] at h
  | .bool, .int _, _, _, _, h => by simp [putT] at h
  | .bool, .bool, _, _, _, h => by simp [putT] at h
  | .bool, .str, _, _, _, h => by simp [putT] at h
  | .bool, .sl _, _, _, _, h => by simp [putT] at h
  | .str, .int _, _, _, _, h => by simp [putT] at h
  | .str, .bool, _, _, _, h => by simp [putT] at h
  | .str, .str, _, _, _, h => by simp [putT] at h
  | .str, .sl _, _, _, _, h => by simp [putT] at h
  | .sl _, .int _, _, _, _, h => by simp [putT] at h
  | .sl _, .bool, _, _, _, h => by simp [putT] at h
  | .sl _, .str, _, _, _, h => by simp [putT] at h
  | .sl _, .sl _, _, _, _, h => by simp [putT] at h
def putsT : (t : Ty) → Nat → (t' : Ty) → Option (t.den → t'.den → t.den)
  | t, 0, t' => putT t t'
  | .p a b, j + 1, t' => if a.fld then (match putsT b j t' with | some f => some fun x v => (x.1, f x.2 v) | none => none) else none
  | _, _ + 1, _ => none
theorem putsT_ok : ∀ {t : Ty} {j : Nat} {t' : Ty} {f : t.den → t'.den → t.den} {x : t.den} {v : t'.den}, putsT t j t' = some f → t'.fld = false ∧ t.cs (f x v) = (t.cs x).take j ++ t'.cs v ++ (t.cs x).drop (j + (t'.cs v).length) ∧ j + (t'.cs v).length ≤ (t.cs x).length
  | t, 0, t', f, x, v, h => by
    have h : putT t t' = some f := by cases t <;> exact h
    obtain ⟨h1, h2, h3⟩ := putT_ok (x := x) (v := v) h
    exact ⟨h1, by simpa using h2, by omega⟩
  | .p a b, j + 1, t', f, x, v, h => by
    simp only [putsT] at h
    split at h
    · rename_i ha
      split at h
      · rename_i g hg
        injection h with h; subst h
        obtain ⟨h1, h2, h3⟩ := putsT_ok (x := x.2) (v := v) hg
        refine ⟨h1, ?_, by rw [cs_p ha]; simp only [List.length_cons]; omega⟩
        rw [cs_p ha, cs_p ha, show j + 1 + (t'.cs v).length = (j + (t'.cs v).length) + 1 from by omega]
        simp only [List.take_succ_cons, List.drop_succ_cons, List.cons_append, h2]
      · cases h
    · cases h
  | .e, _ + 1, _, _, _, _, h => by simp [putsT] at h
  | .int k, _ + 1, _, _, _, _, h => by simp [putsT] at h
  | .bool, _ + 1, _, _, _, _, h => by simp [putsT] at h
  | .str, _ + 1, _, _, _, _, h => by simp [putsT] at h
  | .sl t, _ + 1, _, _, _, _, h => by simp [putsT] at h

/-! Structs put together. -/
def asmT (Γ : List Ty) : List Rf → (t : Ty) → Option (Env Γ → t.den)
  | [], .e => some fun _ => ()
  | r :: rs, .p a b => if a.fld then (match rfT Γ r a, asmT Γ rs b with | some f, some g => some fun x => (f x, g x) | _, _ => none) else none
  | _, _ => none
theorem asmT_ok {Γ : List Ty} : ∀ {rs : List Rf} {t : Ty} {f : Env Γ → t.den} {x : Env Γ}, asmT Γ rs t = some f → t.fld = false ∧ ∃ ds, rs.mapM (rf (envD Γ x)) = some ds ∧ ds.map D.n0 = t.cs (f x) ∧ ds.all D.leaf = true
  | [], .e, f, x, _ => ⟨rfl, [], by simp, rfl, rfl⟩
  | r :: rs, .p a b, f, x, h => by
    simp only [asmT] at h
    split at h
    · rename_i ha
      split at h
      · rename_i f1 g h1 h2
        injection h with h; subst h
        obtain ⟨d, e1, e2, e3, _⟩ := rfT_ok (x := x) h1
        obtain ⟨_, ds, g1, g2, g3⟩ := asmT_ok (x := x) h2
        refine ⟨rfl, d :: ds, by simp only [List.mapM_cons, e1, g1, Option.bind_eq_bind, Option.bind_some, Option.pure_def], by rw [cs_p ha, List.map_cons, e3, g2], ?_⟩
        simp only [List.all_cons, Bool.and_eq_true]
        refine ⟨?_, g3⟩
        have := toD_leaf (x := f1 x) ha
        rw [← e3] at this
        cases d <;> first | rfl | exact this
      · cases h
    · cases h
  | [], .int _, _, _, h => by simp [asmT] at h
  | [], .bool, _, _, h => by simp [asmT] at h
  | [], .str, _, _, h => by simp [asmT] at h
  | [], .sl _, _, _, h => by simp [asmT] at h
  | [], .p _ _, _, _, h => by simp [asmT] at h
  | _ :: _, .int _, _, _, h => by simp [asmT] at h
  | _ :: _, .bool, _, _, h => by simp [asmT] at h
  | _ :: _, .str, _, _, h => by simp [asmT] at h
  | _ :: _, .sl _, _, _, h => by simp [asmT] at h
  | _ :: _, .e, _, _, h => by simp [asmT] at h

def listT (Γ : List Ty) (t : Ty) : List Rf → Option (Env Γ → List t.den)
  | [] => some fun _ => []
  | r :: rs => match rfT Γ r t, listT Γ t rs with | some f, some g => some fun x => f x :: g x | _, _ => none
theorem listT_ok {Γ : List Ty} {t : Ty} : ∀ {rs : List Rf} {f : Env Γ → List t.den} {x : Env Γ}, listT Γ t rs = some f → ∃ ds, rs.mapM (rf (envD Γ x)) = some ds ∧ ds.map D.n1 = (f x).map t.toD
  | [], f, x, h => by simp only [listT, Option.some.injEq] at h; subst h; exact ⟨[], by simp, rfl⟩
  | r :: rs, f, x, h => by
    simp only [listT] at h
    split at h
    · rename_i f1 g h1 h2
      injection h with h; subst h
      obtain ⟨d, e1, e2, _⟩ := rfT_ok (x := x) h1
      obtain ⟨ds, g1, g2⟩ := listT_ok (x := x) h2
      exact ⟨d :: ds, by simp only [List.mapM_cons, e1, g1, Option.bind_eq_bind, Option.bind_some, Option.pure_def], by simp only [List.map_cons, e2, g2]⟩
    · cases h
/-- Zero values. -/
def zerT : List Kc → (t : Ty) → Option t.den
  | [], .e => some ()
  | .int k n :: ks, .p (.int k') b => if k = k' then (match zerT ks b with | some z => some (n, z) | none => none) else none
  | .bool v :: ks, .p .bool b => (match zerT ks b with | some z => some (v, z) | none => none)
  | .str s :: ks, .p .str b => (match zerT ks b with | some z => some (s, z) | none => none)
  | .nil :: ks, .p (.sl _) b => (match zerT ks b with | some z => some ([], z) | none => none)
  | .emp :: ks, .p (.sl _) b => (match zerT ks b with | some z => some ([], z) | none => none)
  | _, _ => none
theorem zerT_ok : ∀ {ks : List Kc} {t : Ty} {z : t.den}, zerT ks t = some z → t.fld = false ∧ ks.map (fun k => k.d.n0) = t.cs z := by
  intro ks t z h
  fun_induction zerT ks t with
  | case1 => exact ⟨rfl, rfl⟩
  | case2 k n ks b z' hz ih =>
    injection h with h; subst h
    exact ⟨rfl, by rw [cs_p rfl, List.map_cons, (ih hz).2]; rfl⟩
  | case3 => cases h
  | case4 => cases h
  | case5 v ks b z' hz ih => injection h with h; subst h; exact ⟨rfl, by rw [cs_p rfl, List.map_cons, (ih hz).2]; rfl⟩
  | case6 => cases h
  | case7 v ks b z' hz ih => injection h with h; subst h; exact ⟨rfl, by rw [cs_p rfl, List.map_cons, (ih hz).2]; rfl⟩
  | case8 => cases h
  | case9 v ks b z' hz ih => injection h with h; subst h; exact ⟨rfl, by rw [cs_p rfl, List.map_cons, (ih hz).2]; rfl⟩
  | case10 => cases h
  | case11 v ks b z' hz ih => injection h with h; subst h; exact ⟨rfl, by rw [cs_p rfl, List.map_cons, (ih hz).2]; rfl⟩
  | case12 => cases h
  | case13 => cases h
def zer1 : List Kc → (t : Ty) → Option t.den
  | [.int k n], .int k' => if k = k' then some n else none
  | [.bool v], .bool => some v
  | [.str s], .str => some s
  | _, _ => none
theorem zer1_ok {ks : List Kc} {t : Ty} {z : t.den} (h : zer1 ks t = some z) : t.fld = true ∧ ks.map (fun k => k.d.n0) = t.cs z := by
  unfold zer1 at h
  split at h
  · split at h
    · rename_i e; subst e; injection h with h; subst h; exact ⟨rfl, rfl⟩
    · cases h
  · injection h with h; subst h; exact ⟨rfl, rfl⟩
  · injection h with h; subst h; exact ⟨rfl, rfl⟩
  · cases h

end Go.Proofs.Ytidnkaopndmigaa.V
end
section
set_option linter.unusedSimpArgs false
set_option linter.unusedVariables false
/- Types: expressions. -/
namespace Go.Proofs.Ytidnkaopndmigaa.V
open Go.RowKit

variable {P : Program}

/-- What an expression yields, handed on. -/
def Gx (Γ : List Ty) (t : Ty) : Type 1 := ∀ ρ : Type, Env Γ → (t.den → Option ρ) → Option ρ
def Gx.Ok (P : Program) {Γ : List Ty} {t : Ty} (e : Ex) (g : Gx Γ t) : Prop := ∀ (ρ : Type) (x : Env Γ) (k : t.den → Option ρ) (r : ρ), g ρ x k = some r → ∃ v, exV P (envD Γ x) e (t.toD v) ∧ k v = some r
def pureG {Γ : List Ty} (t t' : Ty) (f : Env Γ → t'.den) : Option (Gx Γ t) := if h : t' = t then some (h ▸ (fun _ x k => k (f x) : Gx Γ t')) else none
def ifG {Γ : List Ty} (t t' : Ty) (c : Env Γ → Prop) [∀ x, Decidable (c x)] (f : Env Γ → t'.den) : Option (Gx Γ t) := if h : t' = t then some (h ▸ (fun _ x k => if c x then k (f x) else none : Gx Γ t')) else none
theorem pureG_ok {Γ : List Ty} {t t' : Ty} {f : Env Γ → t'.den} {g : Gx Γ t} {e : Ex} (h : pureG t t' f = some g) (he : ∀ x, exV P (envD Γ x) e (t'.toD (f x))) : g.Ok P e := by
  unfold pureG at h
  split at h
  · rename_i e; subst e; injection h with h; subst h
    intro ρ x k r hr
    exact ⟨f x, he x, hr⟩
  · cases h
theorem ifG_ok {Γ : List Ty} {t t' : Ty} {c : Env Γ → Prop} [∀ x, Decidable (c x)] {f : Env Γ → t'.den} {g : Gx Γ t} {e : Ex} (h : ifG t t' c f = some g) (he : ∀ x, c x → exV P (envD Γ x) e (t'.toD (f x))) : g.Ok P e := by
  unfold ifG at h
  split at h
  · rename_i e; subst e; injection h with h; subst h
    intro ρ x k r hr
    simp only at hr
    split at hr
    · rename_i hc; exact ⟨f x, he x hc, hr⟩
    · cases hr
  · cases h

/-! Operations. -/
def oI (Γ : List Ty) : Operand → Option (Σ t : Ty, (Env Γ → t.den))
  | .tmp i => lookV Γ i
  | .const v => match Kc.ofV v with | some k => kT _ k | none => none
  | _ => none
theorem oI_ok {Γ : List Ty} {o : Operand} {t : Ty} {f : Env Γ → t.den} {x : Env Γ} (h : oI Γ o = some ⟨t, f⟩) : opnd ((envD Γ x).map .ofD) o = some (.d (t.toD (f x))) := by
  cases o with
  | tmp i =>
    simp only [opnd, List.getElem?_map, lookV_ok (x := x) h, Option.map_some, ofD_toD]; rfl
  | const v =>
    simp only [oI] at h
    split at h
    · rename_i k hk
      simp only [opnd, ofV_aOfV hk, kT_ok (x := x) h, ofD_toD]
    · cases h
  | global g => cases h
  | func f => cases h
theorem oI_dnd {Γ : List Ty} {o : Operand} {t : Ty} {f : Env Γ → t.den} {x : Env Γ} (h : oI Γ o = some ⟨t, f⟩) : dnd ((envD Γ x).map .ofD) o = some (t.toD (f x)) := by
  simp only [dnd, dlf, oI_ok (x := x) h, Option.bind_some, toD, Option.map_some, n1_toD]
theorem oI_row {Γ : List Ty} {o : Operand} {t : Ty} {f : Env Γ → t.den} {x : Env Γ} (h : oI Γ o = some ⟨t, f⟩) : rowOf ((envD Γ x).map .ofD) o = none := by
  simp only [rowOf, oI_ok (x := x) h]

def arith (k : IntKind) : BinOp → Option (Int → Int → Int)
  | .add => some fun a b => k.wrap (a + b)
  | .sub => some fun a b => k.wrap (a - b)
  | .mul => some fun a b => k.wrap (a * b)
  | _ => none
def cmpI : BinOp → Option (Int → Int → Bool)
  | .eql => some fun a b => a == b
  | .neq => some fun a b => a != b
  | .lss => some fun a b => a < b
  | .leq => some fun a b => a ≤ b
  | .gtr => some fun a b => a > b
  | .geq => some fun a b => a ≥ b
  | _ => none
def cmpS : BinOp → Option (ByteArray → ByteArray → Bool)
  | .eql => some fun a b => a.toList == b.toList
  | .neq => some fun a b => !(a.toList == b.toList)
  | .lss => some fun a b => Op.bytesLess a.toList b.toList
  | .leq => some fun a b => Op.bytesLess a.toList b.toList || a.toList == b.toList
  | .gtr => some fun a b => !(Op.bytesLess a.toList b.toList || a.toList == b.toList)
  | .geq => some fun a b => !(Op.bytesLess a.toList b.toList)
  | _ => none
def cmpB : BinOp → Option (Bool → Bool → Bool)
  | .eql => some fun a b => a == b
  | .neq => some fun a b => !(a == b)
  | _ => none
/-! Structs, field by field. -/
def eqB : (t : Ty) → t.den → t.den → Bool
  | .int _, a, b => a == b
  | .bool, a, b => a == b
  | .str, a, b => a.toList == b.toList
  | .p a b, x, y => eqB a x.1 y.1 && eqB b x.2 y.2
  | .e, _, _ => true
  | .sl _, _, _ => false
def eqTy1 (P : Program) (f : Field) : Ty → Bool
  | .int k => intOf P f.type == some k
  | .bool => boolOf P f.type
  | .str => strOf P f.type
  | _ => false
def eqTy (P : Program) : Ty → List Field → Nat → Bool
  | .e, [], _ => true
  | .p a b, f :: fs, j => a.fld && (f.name != "_") && f.offset == j && (aggOf P f.type == some false) && eqTy1 P f a && eqTy P b fs (j + 1)
  | _, _, _ => false
theorem eqTy_ok : ∀ {t : Ty} {fs : List Field} {j : Nat} {x y : t.den} {ls ms : List D}, eqTy P t fs j = true → ls.drop j = t.cs x → ms.drop j = t.cs y → (∀ ty, eqOk P ty ls fs = true) ∧ (∀ ty, eqOk P ty ms fs = true) ∧ eqL fs ls ms = eqB t x y
  | .e, [], j, x, y, ls, ms, _, _, _ => ⟨fun _ => rfl, fun _ => rfl, rfl⟩
  | .p a b, f :: fs, j, x, y, ls, ms, h, hl, hm => by
    simp only [eqTy, Bool.and_eq_true, beq_iff_eq] at h
    obtain ⟨⟨⟨⟨⟨h1, h2⟩, h3⟩, h4⟩, h5⟩, h6⟩ := h
    rw [cs_p h1] at hl hm
    have hl0 : ls[j]? = some (a.toD x.1) := by
      have := congrArg (fun l => l[0]?) hl
      simpa using this
    have hm0 : ms[j]? = some (a.toD y.1) := by
      have := congrArg (fun l => l[0]?) hm
      simpa using this
    have hl1 : ls.drop (j + 1) = b.cs x.2 := by
      have := congrArg (fun l => l.drop 1) hl
      simpa [Nat.add_comm] using this
    have hm1 : ms.drop (j + 1) = b.cs y.2 := by
      have := congrArg (fun l => l.drop 1) hm
      simpa [Nat.add_comm] using this
    obtain ⟨g1, g2, g3⟩ := eqTy_ok h6 hl1 hm1
    subst h3
    refine ⟨fun ty => ?_, fun ty => ?_, ?_⟩
    · simp only [eqOk, hl0, h2, h4, g1 ty, Bool.and_true, Bool.true_and, beq_self_eq_true]
      cases a <;> simp only [eqTy1] at h5 <;> first | exact h5 | cases h5
    · simp only [eqOk, hm0, h2, h4, g2 ty, Bool.and_true, Bool.true_and, beq_self_eq_true]
      cases a <;> simp only [eqTy1] at h5 <;> first | exact h5 | cases h5
    · simp only [eqL, hl0, hm0, g3, eqB]
      cases a <;> simp only [eqTy1] at h5 <;> first | rfl | cases h5
  | .e, _ :: _, _, _, _, _, _, h, _, _ => by simp [eqTy] at h
  | .p _ _, [], _, _, _, _, _, h, _, _ => by simp [eqTy] at h
  | .int _, _, _, _, _, _, _, h, _, _ => by simp [eqTy] at h
  | .bool, _, _, _, _, _, _, h, _, _ => by simp [eqTy] at h
  | .str, _, _, _, _, _, _, h, _, _ => by simp [eqTy] at h
  | .sl _, _, _, _, _, _, _, h, _, _ => by simp [eqTy] at h
/-- Equality of structs, and whether it is one. -/
def cmpA (P : Program) (op : BinOp) (ty : TypeId) (t : Ty) : Option (t.den → t.den → Bool) := match P.underlying ty with
  | some (.struct fs) => if P.stoodInHeld ty = false ∧ P.eqGuardType P.depth ty = false ∧ eqTy P t fs.toList 0 = true ∧ t.fld = false then (match op with
    | .eql => some fun x y => eqB t x y
    | .neq => some fun x y => !(eqB t x y)
    | _ => none) else none
  | _ => none
theorem cmpA_ok {op : BinOp} {ty : TypeId} {t : Ty} {h : t.den → t.den → Bool} {x y : t.den} (hc : cmpA P op ty t = some h) : binA P op ty (t.toD x) (t.toD y) = some (True, .bool (h x y)) := by
  unfold cmpA at hc
  split at hc
  · rename_i fs hfs
    split at hc
    · rename_i hcc
      obtain ⟨h1, h2, h3, h4⟩ := hcc
      obtain ⟨g1, g2, g3⟩ := eqTy_ok (x := x) (y := y) (ls := t.cs x) (ms := t.cs y) h3 rfl rfl
      rw [toD_agg h4, toD_agg h4]
      simp only [binA, aggD, hfs]
      rw [if_pos ⟨h1, h2, g1 ty, g2 ty⟩, g3]
      split at hc
      · injection hc with hc; subst hc; rfl
      · injection hc with hc; subst hc; rfl
      · cases hc
    · cases hc
  · cases hc

def binT (P : Program) (Γ : List Ty) (t : Ty) (op : BinOp) (ty : TypeId) (x y : Operand) : Option (Gx Γ t) := match oI Γ x, oI Γ y with
  | some ⟨.int k, f⟩, some ⟨.int k', g⟩ => if k = k' then (match arith k op with
      | some h => pureG t (.int k) fun x => h (f x) (g x)
      | none => match cmpI op with
        | some h => pureG t .bool fun x => h (f x) (g x)
        | none => match op with
          | .quo => ifG t (.int k) (fun x => g x ≠ 0) fun x => k.wrap ((f x).tdiv (g x))
          | .rem => ifG t (.int k) (fun x => g x ≠ 0) fun x => (f x).tmod (g x)
          | _ => none) else none
  | some ⟨.str, f⟩, some ⟨.str, g⟩ => (match cmpS op with
      | some h => pureG t .bool fun x => h (f x) (g x)
      | none => match op with
        | .add => ifG t .str (fun x => (((f x).size + (g x).size : Nat) : Int) ≤ IntKind.i64.max) fun x => f x ++ g x
        | _ => none)
  | some ⟨.bool, f⟩, some ⟨.bool, g⟩ => if boolOf P ty then (match cmpB op with
      | some h => pureG t .bool fun x => h (f x) (g x)
      | none => none) else none
  | some ⟨.p a b, f⟩, some ⟨t', g⟩ => if h : t' = .p a b then (match cmpA P op ty (.p a b) with
      | some c => pureG t .bool fun x => c (f x) ((h ▸ g : Env Γ → (Ty.p a b).den) x)
      | none => none) else none
  | _, _ => none
theorem bin_ok {Γ : List Ty} {x y : Operand} {a b : Ty} {f : Env Γ → a.den} {g : Env Γ → b.den} {op : BinOp} {ty ty' : TypeId} {e : Env Γ} {c : Prop} {d : D} (hx : oI Γ x = some ⟨a, f⟩) (hy : oI Γ y = some ⟨b, g⟩) (h : binA P op ty (a.toD (f e)) (b.toD (g e)) = some (c, d)) (hc : c) (hd : d ≠ .nil) : exV P (envD Γ e) (.op (.binOp op ty x y ty')) d := by
  refine ⟨c, {}, ?_, hc⟩
  simp only [aval, oI_dnd (x := e) hx, oI_dnd (x := e) hy, h, Option.bind_some, valIf, ofD_ne hd]
theorem binT_ok {Γ : List Ty} {t : Ty} {op : BinOp} {ty ty' : TypeId} {x y : Operand} {g : Gx Γ t} (h : binT P Γ t op ty x y = some g) : g.Ok P (.op (.binOp op ty x y ty')) := by
  unfold binT at h
  split at h
  · rename_i k f k' f' hx hy
    split at h
    · rename_i e; subst e
      split at h
      · rename_i hh ha
        refine pureG_ok h fun e => bin_ok hx hy (c := True) ?_ trivial toD_ne
        cases op <;> simp only [arith, Option.some.injEq] at ha <;> first | (subst ha; show binA P _ ty (.int k (f e)) (.int k (f' e)) = _; simp only [binA, binD, if_true]; rfl) | cases ha
      · split at h
        · rename_i hh ha
          refine pureG_ok h fun e => bin_ok hx hy (c := True) ?_ trivial toD_ne
          cases op <;> simp only [cmpI, Option.some.injEq] at ha <;> first | (subst ha; show binA P _ ty (.int k (f e)) (.int k (f' e)) = _; simp only [binA, binD, if_true]; rfl) | cases ha
        · split at h
          · refine ifG_ok h fun e hc => bin_ok hx hy (c := f' e ≠ 0) ?_ hc toD_ne
            show binA P _ ty (.int k (f e)) (.int k (f' e)) = _; simp only [binA, binD, if_true]; rfl
          · refine ifG_ok h fun e hc => bin_ok hx hy (c := f' e ≠ 0) ?_ hc toD_ne
            show binA P _ ty (.int k (f e)) (.int k (f' e)) = _; simp only [binA, binD, if_true]; rfl
          · cases h
    · cases h
  · rename_i f f' hx hy
    split at h
    · rename_i hh ha
      refine pureG_ok h fun e => bin_ok hx hy (c := True) ?_ trivial toD_ne
      cases op <;> simp only [cmpS, Option.some.injEq] at ha <;> first | (subst ha; rfl) | cases ha
    · split at h
      · refine ifG_ok h fun e hc => bin_ok hx hy (c := (((f e).size + (f' e).size : Nat) : Int) ≤ IntKind.i64.max) ?_ hc toD_ne
        rfl
      · cases h
  · rename_i f f' hx hy
    split at h
    · rename_i hb
      split at h
      · rename_i hh ha
        refine pureG_ok h fun e => bin_ok hx hy (c := True) ?_ trivial toD_ne
        cases op <;> simp only [cmpB, Option.some.injEq] at ha <;> first | (subst ha; show binA P _ ty (.bool (f e)) (.bool (f' e)) = _; simp only [binA, binD, hb, if_true]; rfl) | cases ha
      · cases h
    · cases h
  · rename_i a b f t' g' hx hy
    split at h
    · rename_i e; subst e
      split at h
      · rename_i c hcmp
        exact pureG_ok h fun e => bin_ok hx hy (c := True) (cmpA_ok hcmp) trivial toD_ne
      · cases h
    · cases h
  · cases h

/-- A bound of a slice. -/
def bI (Γ : List Ty) (dflt : Env Γ → Int) : Option Operand → Option (Env Γ → Int)
  | none => some dflt
  | some o => match oI Γ o with | some ⟨.int _, f⟩ => some f | _ => none
theorem bI_ok {Γ : List Ty} {dflt f : Env Γ → Int} {o : Option Operand} {x : Env Γ} (h : bI Γ dflt o = some f) : bnd ((envD Γ x).map .ofD) (dflt x) o = some (f x) := by
  cases o with
  | none => simp only [bI, Option.some.injEq] at h; subst h; rfl
  | some o =>
    simp only [bI] at h
    split at h
    · rename_i k g hg
      injection h with h; subst h
      simp only [bnd, oI_ok (x := x) hg]; rfl
    · cases h

def opT (P : Program) (Γ : List Ty) (t : Ty) : Op → Option (Gx Γ t)
  | .binOp op ty x y _ => binT P Γ t op ty x y
  | .unOp op _ x => (match op, oI Γ x with
    | .not, some ⟨.bool, f⟩ => pureG t .bool fun x => !(f x)
    | .neg, some ⟨.int k, f⟩ => pureG t (.int k) fun x => k.wrap (0 - f x)
    | _, _ => none)
  | .convert s ty x => (match intOf P ty, oI Γ x with
    | some k, some ⟨.int _, f⟩ => if (P.underlying s).isSome then pureG t (.int k) fun x => k.wrap (f x) else none
    | _, _ => none)
  | .index ty x i => (match oI Γ x, oI Γ i with
    | some ⟨.str, f⟩, some ⟨.int _, g⟩ => if strOf P ty then ifG t (.int .u8) (fun x => 0 ≤ g x ∧ g x < (f x).size) fun x => (((f x).data.getD (g x).toNat 0).toNat : Int) else none
    | _, _ => none)
  | .slice ty x lo hi none => (match oI Γ x with
    | some ⟨.sl t', f⟩ => (match (elemOf P ty).bind (szOf P), bI Γ (fun _ => 0) lo, bI Γ (fun x => (f x).length) hi with
      | some sz, some l, some h => if t'.len = sz then ifG t (.sl t') (fun x => 0 ≤ l x ∧ l x ≤ h x ∧ h x ≤ (f x).length) fun x => ((f x).take (h x).toNat).drop (l x).toNat else none
      | _, _, _ => none)
    | some ⟨.str, f⟩ => if strOf P ty then (match bI Γ (fun _ => 0) lo, bI Γ (fun x => (f x).size) hi with
      | some l, some h => ifG t .str (fun x => 0 ≤ l x ∧ l x ≤ h x ∧ h x ≤ (f x).size) fun x => (f x).extract (l x).toNat (h x).toNat
      | _, _ => none) else none
    | _ => none)
  | .field s x f => (match oI Γ x, fldOf P s f with
    | some ⟨a, g⟩, some (o, ft) => if a.fld then none else (match aggOf P ft, szOf P ft with
      | some true, some sz => (match subT a o sz with | some ⟨t', h⟩ => pureG t t' fun x => h (g x) | none => none)
      | some false, _ => (match fldT a o with | some ⟨t', h⟩ => pureG t t' fun x => h (g x) | none => none)
      | _, _ => none)
    | _, _ => none)
  | .call ⟨.builtin .len, args, ats⟩ => (match args.toList, ats.toList with
    | [x], [ty] => (match oI Γ x with
      | some ⟨.sl _, f⟩ => if (elemOf P ty).isSome then pureG t (.int .i64) fun x => ((f x).length : Int) else none
      | some ⟨.str, f⟩ => if strOf P ty then pureG t (.int .i64) fun x => ((f x).size : Int) else none
      | _ => none)
    | _, _ => none)
  | .call ⟨.builtin .max, args, _⟩ => (match args.toList with
    | [x, y] => (match oI Γ x, oI Γ y with
      | some ⟨.int k, f⟩, some ⟨.int _, g⟩ => pureG t (.int k) fun x => if g x > f x then g x else f x
      | _, _ => none)
    | _ => none)
  | .call ⟨.builtin .min, args, _⟩ => (match args.toList with
    | [x, y] => (match oI Γ x, oI Γ y with
      | some ⟨.int k, f⟩, some ⟨.int _, g⟩ => pureG t (.int k) fun x => if g x < f x then g x else f x
      | _, _ => none)
    | _ => none)
  | _ => none
theorem of_av {o : Op} {c : Prop} {d : D} {env : List D} (h : aval P (env.map .ofD) [] [] 0 o = some (c, .d d, {})) (hc : c) (hd : d ≠ .nil) : exV P env (.op o) d := ⟨c, {}, by rw [h, ofD_ne hd], hc⟩
theorem opT_ok {Γ : List Ty} {t : Ty} {o : Op} {g : Gx Γ t} (h : opT P Γ t o = some g) : g.Ok P (.op o) := by
  unfold opT at h
  split at h
  · exact binT_ok h
  · split at h
    · rename_i f hx
      exact pureG_ok h fun e => of_av (c := True) (by simp only [aval, oI_dnd (x := e) hx, Option.bind_some]; rfl) trivial toD_ne
    · rename_i k f hx
      exact pureG_ok h fun e => of_av (c := True) (by simp only [aval, oI_dnd (x := e) hx, Option.bind_some]; rfl) trivial toD_ne
    · cases h
  · split at h
    · rename_i k k' f hk hx
      split at h
      · rename_i hs
        exact pureG_ok h fun e => of_av (c := True) (by simp only [aval, oI_dnd (x := e) hx, hk]; rw [show (Ty.int k').toD (f e) = .int k' (f e) from rfl]; simp only [hs, if_true]; rfl) trivial toD_ne
      · cases h
    · cases h
  · split at h
    · rename_i f k g hx hi
      split at h
      · rename_i hs
        exact ifG_ok h fun e hc => of_av (c := 0 ≤ g e ∧ g e < (f e).size) (by simp only [aval, oI_dnd (x := e) hx, oI_dnd (x := e) hi, hs]; rfl) hc toD_ne
      · cases h
    · cases h
  · rename_i ty x lo hi
    split at h
    · rename_i t' f hx
      split at h
      · rename_i sz l h' hsz hl hh
        split at h
        · rename_i hlen
          refine ifG_ok h fun e hc => of_av (c := (0 ≤ l e ∧ l e ≤ h' e ∧ h' e ≤ ((f e).map t'.toD).length) ∧ ∀ x ∈ (f e).map t'.toD, x.cells.length = sz) ?_ ?_ toD_ne
          · simp only [aval, oI_row (x := e) hx, oI_dnd (x := e) hx]
            rw [show (Ty.sl t').toD (f e) = .sl ((f e).map t'.toD) from rfl]
            simp only [hsz, bI_ok (x := e) hl]
            have := bI_ok (x := e) hh
            simp only [List.length_map, this, valIf]
            rw [toD_sl, List.map_drop, List.map_take]
          · simp only [List.length_map]
            refine ⟨hc, fun x hx => ?_⟩
            obtain ⟨y, _, rfl⟩ := List.mem_map.1 hx
            rw [cells_toD, cs_len, hlen]
        · cases h
      · cases h
    · rename_i f hx
      split at h
      · rename_i hs
        split at h
        · rename_i l h' hl hh
          refine ifG_ok h fun e hc => of_av (c := 0 ≤ l e ∧ l e ≤ h' e ∧ h' e ≤ (f e).size) ?_ hc toD_ne
          simp only [aval, oI_row (x := e) hx, oI_dnd (x := e) hx]
          rw [show Ty.str.toD (f e) = .str (f e) from rfl]
          simp only [hs, if_true, bI_ok (x := e) hl, bI_ok (x := e) hh, valIf]; rfl
        · cases h
      · cases h
    · cases h
  · rename_i s x0 fi
    split at h
    · rename_i a g o ft hx hf
      split at h
      · cases h
      · rename_i ha
        have ha : a.fld = false := by simpa using ha
        have hdl : ∀ e, dlf ((envD Γ e).map .ofD) x0 = some (.agg (a.cs (g e))) := fun e => by
          simp only [dlf, oI_ok (x := e) hx, Option.bind_some, toD, toD_agg ha]
        split at h
        · rename_i sz hag hsz
          split at h
          · rename_i t' hh hsub
            refine pureG_ok h fun e => ?_
            obtain ⟨h1, h2, h3⟩ := subT_ok (x := g e) hsub
            refine of_av (c := o + sz ≤ (a.cs (g e)).length) ?_ h3 toD_ne
            simp only [aval, hdl, hf, hag, hsz, valIf, toD_agg h1, h2]
          · cases h
        · rename_i hag
          split at h
          · rename_i t' hh hsub
            refine pureG_ok h fun e => ?_
            obtain ⟨h1, h2⟩ := fldT_ok (x := g e) hsub
            refine of_av (c := True) ?_ trivial toD_ne
            simp only [aval, hdl, hf, hag, h2, Option.bind_some, ofD_toD]
            cases szOf P ft <;> rfl
          · cases h
        · cases h
    · cases h
  · rename_i args ats
    split at h
    · rename_i x ty ha ht
      split at h
      · rename_i t' f hx
        split at h
        · rename_i hs
          refine pureG_ok h fun e => of_av (c := True) ?_ trivial toD_ne
          simp only [aval, ha, ht, List.map_cons, List.map_nil, oI_row (x := e) hx, oI_dnd (x := e) hx]
          rw [show (Ty.sl t').toD (f e) = .sl ((f e).map t'.toD) from rfl]
          simp only [hs, if_true, List.length_map]; rfl
        · cases h
      · rename_i f hx
        split at h
        · rename_i hs
          refine pureG_ok h fun e => of_av (c := True) ?_ trivial toD_ne
          simp only [aval, ha, ht, List.map_cons, List.map_nil, oI_row (x := e) hx, oI_dnd (x := e) hx]
          rw [show Ty.str.toD (f e) = .str (f e) from rfl]
          simp only [hs, if_true]; rfl
        · cases h
      · cases h
    · cases h
  · split at h
    · rename_i x y ha
      split at h
      · rename_i k f k' g hx hy
        refine pureG_ok h fun e => of_av (c := True) ?_ trivial toD_ne
        simp only [aval, ha, List.map_cons, List.map_nil, oI_dnd (x := e) hx, oI_dnd (x := e) hy]; rfl
      · cases h
    · cases h
  · split at h
    · rename_i x y ha
      split at h
      · rename_i k f k' g hx hy
        refine pureG_ok h fun e => of_av (c := True) ?_ trivial toD_ne
        simp only [aval, ha, List.map_cons, List.map_nil, oI_dnd (x := e) hx, oI_dnd (x := e) hy]; rfl
      · cases h
    · cases h
  · cases h

/-! Numbers known when the code runs. -/
def snT (Γ : List Ty) : SN → Option (Env Γ → Nat)
  | .c n => some fun _ => n
  | .e r => match rfInt Γ r with | some f => some fun x => (f x).toNat | none => none
  | .l i => match lookV Γ i with | some ⟨.sl _, f⟩ => some fun x => (f x).length | _ => none
theorem snT_ok {Γ : List Ty} {n : SN} {f : Env Γ → Nat} {x : Env Γ} (h : snT Γ n = some f) : n.val (envD Γ x) = some (f x) := by
  cases n with
  | c n => simp only [snT, Option.some.injEq] at h; subst h; rfl
  | e r =>
    simp only [snT] at h
    split at h
    · rename_i g hg
      injection h with h; subst h
      obtain ⟨k, hk⟩ := rfInt_ok (x := x) hg
      simp only [SN.val, hk]
    · cases h
  | l i =>
    simp only [snT] at h
    split at h
    · rename_i t g hg
      injection h with h; subst h
      have := lookV_ok (x := x) hg
      simp only [SN.val, this]
      rw [toD_sl]; simp
    · cases h

/-- Element n, if there is one. -/
def atC {α ρ : Type} (xs : List α) (n : Int) (k : α → Option ρ) : Option ρ := if 0 ≤ n then (match xs[n.toNat]? with | some x => k x | none => none) else none
theorem atC_ok {α ρ : Type} {xs : List α} {n : Int} {k : α → Option ρ} {r : ρ} (h : atC xs n k = some r) : ∃ x, 0 ≤ n ∧ n < xs.length ∧ xs[n.toNat]? = some x ∧ k x = some r := by
  unfold atC at h
  split at h
  · rename_i hn
    split at h
    · rename_i x hx
      refine ⟨x, hn, ?_, hx, h⟩
      have := (List.getElem?_eq_some_iff.1 hx).1
      omega
    · cases h
  · cases h

def relT : (t : Ty) → Nat → Option Nat → Option (Σ t' : Ty, (t.den → t'.den))
  | t, j, none => fldT t j
  | t, j, some m => subT t j m
def rsetT (t : Ty) (j : Nat) (m : Option Nat) (t' : Ty) : Option (t.den → t'.den → t.den) := match m with
  | none => setT t j t'
  | some m => if t'.len = m ∧ t.fld = false then putsT t j t' else none

def exT (P : Program) (Γ : List Ty) (t : Ty) : Ex → Option (Gx Γ t)
  | .op o => opT P Γ t o
  | .asm rs => (match asmT Γ rs t with | some f => some fun _ x k => k (f x) | none => none)
  | .mks rs sz => (match t with
    | .sl t' => if t'.len = sz then (match listT Γ t' rs with | some f => some fun _ x k => k (f x) | none => none) else none
    | _ => none)
  | .leaf r => if t.fld ∧ isNil r = false then (match rfT Γ r t with | some f => some fun _ x k => k (f x) | none => none) else none
  | .sub r off none tot => (match rfI Γ r with
    | some ⟨a, f⟩ => if a.fld = false ∧ (tot = none ∨ tot = some a.len) ∨ a.fld = true ∧ tot = none then (match asT t (fldT a off) with | some h => some fun _ x k => k (h (f x)) | none => none) else none
    | none => none)
  | .sub r off (some sz) tot => (match rfI Γ r with
    | some ⟨a, f⟩ => if a.fld = false ∧ (tot = none ∨ tot = some a.len) then (match asT t (subT a off sz) with | some h => some fun _ x k => k (h (f x)) | none => none) else none
    | none => none)
  | .elem xs ix sz => if t.len = sz then (match rfT Γ xs (.sl t), rfInt Γ ix with | some f, some g => some fun _ x k => atC (f x) (g x) k | _, _ => none) else none
  | .cat xs ys by_ sz => (match t with
    | .sl t' => if t'.len = sz then (match rfT Γ xs (.sl t'), rfT Γ ys (.sl t') with
      | some f, some g => some fun _ x k => if ((f x).length + (g x).length) * by_ ≤ 140737488355328 ∧ (f x).length + (g x).length ≤ maxLen then k (f x ++ g x) else none
      | _, _ => none) else none
    | _ => none)
  | .make z agg n by_ => (match t with
    | .sl t' => (match (if agg then zerT z t' else zer1 z t'), rfInt Γ n with
      | some v, some g => some fun _ x k => if 0 ≤ g x ∧ (by_ : Int) * g x ≤ 281474976710656 ∧ g x ≤ 9223372036854775807 then k (List.replicate (g x).toNat v) else none
      | _, _ => none)
    | _ => none)
  | .rix m ix => (match snT Γ m, rfI Γ ix with
    | some f, some ⟨.int kk, g⟩ => if h : Ty.int kk = t then some (h ▸ (fun _ x k => if 0 ≤ g x ∧ g x < (f x : Int) then k (g x) else none : Gx Γ (.int kk))) else none
    | _, _ => none)
  | .rle m ix => (match snT Γ m, rfI Γ ix with
    | some f, some ⟨.int kk, g⟩ => if h : Ty.int kk = t then some (h ▸ (fun _ x k => if 0 ≤ g x ∧ g x ≤ (f x : Int) then k (g x) else none : Gx Γ (.int kk))) else none
    | _, _ => none)
  | .rel xs ix sz j m => (match rfI Γ xs, rfInt Γ ix with
    | some ⟨.sl a, f⟩, some g => if a.len = sz then (match asT t (relT a j m) with | some h => some fun _ x k => atC (f x) (g x) fun y => k (h y) | none => none) else none
    | _, _ => none)
  | .rset xs ix sz j m v => (match t with
    | .sl a => (match rfT Γ xs (.sl a), rfInt Γ ix, rfI Γ v with
      | some f, some g, some ⟨t', hv⟩ => if a.len = sz ∧ isNil v = false then (match rsetT a j m t' with | some h => some fun _ x k => atC (f x) (g x) fun y => k ((f x).set (g x).toNat (h y (hv x))) | none => none) else none
      | _, _, _ => none)
    | _ => none)
  | .take xs ix => (match t with
    | .sl a => (match rfT Γ xs (.sl a), rfInt Γ ix with
      | some f, some g => some fun _ x k => if 0 ≤ g x ∧ g x ≤ (f x).length then k ((f x).take (g x).toNat) else none
      | _, _ => none)
    | _ => none)

theorem getD_map_toD {t : Ty} {xs : List t.den} {n : Nat} {x : t.den} (h : xs[n]? = some x) : (xs.map t.toD).getD n default = t.toD x := by
  rw [List.getD_eq_getElem?_getD, List.getElem?_map, h]; rfl

theorem exT_ok {Γ : List Ty} {t : Ty} {e : Ex} {g : Gx Γ t} (h : exT P Γ t e = some g) : g.Ok P e := by
  cases e with
  | op o => exact opT_ok h
  | asm rs =>
    simp only [exT] at h
    split at h
    · rename_i f hf
      injection h with h; subst h
      intro ρ x k r hr
      obtain ⟨h1, ds, h2, h3, h4⟩ := asmT_ok (x := x) hf
      exact ⟨_, ⟨ds, h2, h4, by rw [toD_agg h1, h3]⟩, hr⟩
    · cases h
  | mks rs sz =>
    simp only [exT] at h
    split at h
    · rename_i t'
      split at h
      · rename_i hl
        split at h
        · rename_i f hf
          injection h with h; subst h
          intro ρ x k r hr
          obtain ⟨ds, h2, h3⟩ := listT_ok (x := x) hf
          exact ⟨_, ⟨ds, h2, by rw [h3]; exact uni_toD hl, by rw [toD_sl, h3]⟩, hr⟩
        · cases h
      · cases h
    · cases h
  | leaf r =>
    simp only [exT] at h
    split at h
    · rename_i hc
      split at h
      · rename_i f hf
        injection h with h; subst h
        intro ρ x k r hr
        obtain ⟨d, h1, _, _, h2⟩ := rfT_ok (x := x) hf
        rw [h2 hc.2] at h1
        exact ⟨_, ⟨h1, toD_leaf hc.1⟩, hr⟩
      · cases h
    · cases h
  | sub r off sz tot =>
    cases sz with
    | none =>
      simp only [exT] at h
      split at h
      · rename_i a f hf
        split at h
        · rename_i hc
          split at h
          · rename_i hh hs
            injection h with h; subst h
            intro ρ x k r hr
            obtain ⟨h1, h2⟩ := fldT_ok (x := f x) (asT_ok hs)
            refine ⟨_, ⟨_, rfI_ok (x := x) hf, fun tt htt => ?_, by rw [cells_toD]; exact h2, toD_leaf h1⟩, hr⟩
            rcases hc with ⟨ha, hc⟩ | ⟨ha, hc⟩
            · rcases hc with hc | hc
              · rw [hc] at htt; cases htt
              · rw [hc] at htt; injection htt with htt
                exact ⟨_, toD_agg ha, by rw [cs_len, htt]⟩
            · rw [hc] at htt; cases htt
          · cases h
        · cases h
      · cases h
    | some sz =>
      simp only [exT] at h
      split at h
      · rename_i a f hf
        split at h
        · rename_i hc
          split at h
          · rename_i hh hs
            injection h with h; subst h
            intro ρ x k r hr
            obtain ⟨h1, h2, h3⟩ := subT_ok (x := f x) (asT_ok hs)
            refine ⟨_, ⟨_, rfI_ok (x := x) hf, fun tt htt => ?_, by rw [cells_toD]; exact h3, by rw [cells_toD]; exact cs_all, by rw [cells_toD, toD_agg h1, h2]⟩, hr⟩
            rcases hc.2 with hc' | hc'
            · rw [hc'] at htt; cases htt
            · rw [hc'] at htt; injection htt with htt
              exact ⟨_, toD_agg hc.1, by rw [cs_len, htt]⟩
          · cases h
        · cases h
      · cases h
  | elem xs ix sz =>
    simp only [exT] at h
    split at h
    · rename_i hl
      split at h
      · rename_i f g' hf hg
        injection h with h; subst h
        intro ρ x k r hr
        obtain ⟨v, h1, h2, h3, h4⟩ := atC_ok hr
        obtain ⟨kk, hk⟩ := rfInt_ok (x := x) hg
        refine ⟨v, ⟨_, g' x, rfT_list (x := x) hf, by rw [hk]; rfl, h1, by simpa using h2, (getD_map_toD h3).symm, by rw [cells_toD, cs_len, hl]⟩, h4⟩
      · cases h
    · cases h
  | cat xs ys by_ sz =>
    simp only [exT] at h
    split at h
    · rename_i t'
      split at h
      · rename_i hl
        split at h
        · rename_i f g' hf hg
          injection h with h; subst h
          intro ρ x k r hr
          simp only at hr
          split at hr
          · rename_i hc
            exact ⟨_, ⟨_, _, rfT_list (x := x) hf, rfT_list (x := x) hg, by simpa using hc.1, by simpa using hc.2, uni_toD hl, uni_toD hl, by rw [toD_sl, List.map_append]⟩, hr⟩
          · cases hr
        · cases h
      · cases h
    · cases h
  | make z agg n by_ =>
    simp only [exT] at h
    split at h
    · rename_i t'
      split at h
      · rename_i v g' hz hg
        injection h with h; subst h
        intro ρ x k r hr
        simp only at hr
        split at hr
        · rename_i hc
          obtain ⟨kk, hk⟩ := rfInt_ok (x := x) hg
          refine ⟨_, ⟨g' x, by rw [hk]; rfl, hc.1, hc.2.1, hc.2.2, ?_⟩, hr⟩
          rw [toD_sl, List.map_replicate]
          congr 2
          cases agg with
          | true =>
            obtain ⟨h1, h2⟩ := zerT_ok (t := t') hz
            rw [h2, toD_agg h1]; rfl
          | false =>
            obtain ⟨h1, h2⟩ := zer1_ok (t := t') hz
            rw [h2, cs_fld h1]; rfl
        · cases hr
      · cases h
    · cases h
  | rix m ix =>
    simp only [exT] at h
    split at h
    · rename_i f kk g' hf hg
      split at h
      · rename_i e; subst e
        injection h with h; subst h
        intro ρ x k r hr
        simp only at hr
        split at hr
        · rename_i hc
          have := rfI_ok (x := x) hg
          exact ⟨g' x, ⟨f x, g' x, snT_ok hf, by rw [this]; rfl, hc.1, hc.2, this⟩, hr⟩
        · cases hr
      · cases h
    · cases h
  | rle m ix =>
    simp only [exT] at h
    split at h
    · rename_i f kk g' hf hg
      split at h
      · rename_i e; subst e
        injection h with h; subst h
        intro ρ x k r hr
        simp only at hr
        split at hr
        · rename_i hc
          have := rfI_ok (x := x) hg
          exact ⟨g' x, ⟨f x, g' x, snT_ok hf, by rw [this]; rfl, hc.1, hc.2, this⟩, hr⟩
        · cases hr
      · cases h
    · cases h
  | rel xs ix sz j m =>
    simp only [exT] at h
    split at h
    · rename_i a f g' hf hg
      split at h
      · rename_i hl
        split at h
        · rename_i hh hs
          injection h with h; subst h
          intro ρ x k r hr
          obtain ⟨v, h1, h2, h3, h4⟩ := atC_ok hr
          obtain ⟨kk, hk⟩ := rfInt_ok (x := x) hg
          have hlist : list? (rf (envD Γ x) xs) = some ((f x).map a.toD) := by rw [rfI_ok (x := x) hf]; rfl
          refine ⟨_, ⟨_, g' x, hlist, by rw [hk]; rfl, h1, by simpa using h2, uni_toD hl, ?_⟩, h4⟩
          rw [getD_map_toD h3, cells_toD]
          cases m with
          | none => exact (fldT_ok (x := v) (asT_ok hs)).2
          | some m =>
            obtain ⟨g1, g2, g3⟩ := subT_ok (x := v) (asT_ok hs)
            exact ⟨by rw [cs_len, hl] at g3; exact g3, by rw [toD_agg g1, g2]⟩
        · cases h
      · cases h
    · cases h
  | rset xs ix sz j m v =>
    simp only [exT] at h
    split at h
    · rename_i a
      split at h
      · rename_i f g' t' hv hf hg hvv
        split at h
        · rename_i hc
          obtain ⟨hl, hnil⟩ := hc
          split at h
          · rename_i hh hs
            injection h with h; subst h
            intro ρ x k r hr
            obtain ⟨y, h1, h2, h3, h4⟩ := atC_ok hr
            obtain ⟨kk, hk⟩ := rfInt_ok (x := x) hg
            refine ⟨_, ⟨_, g' x, t'.toD (hv x), a.toD (hh y (hv x)), rfT_list (x := x) hf, by rw [hk]; rfl, h1, by simpa using h2, uni_toD hl, rfI_ok (x := x) hvv, by rw [toD_sl, List.map_set], ?_⟩, h4⟩
            rw [getD_map_toD h3]
            cases m with
            | none =>
              obtain ⟨g1, g2, g3⟩ := setT_ok (x := y) (v := hv x) hs
              refine ⟨by rw [cs_len, hl] at g3; exact g3, toD_leaf g1, ?_⟩
              cases ha : a.fld with
              | false => rw [toD_agg ha, toD_agg ha, g2]
              | true =>
                have e1 := cs_fld (x := y) ha
                have e2 := cs_fld (x := hh y (hv x)) ha
                rw [e1, List.length_cons, List.length_nil] at g3
                obtain rfl : j = 0 := by omega
                rw [e1, e2] at g2
                simp only [List.set_cons_zero, List.cons.injEq, and_true] at g2
                rw [g2]
                have := toD_leaf (x := y) ha
                cases hd : a.toD y <;> first | rfl | (rw [hd] at this; cases this)
            | some m =>
              simp only [rsetT] at hs
              split at hs
              · rename_i hm
                obtain ⟨g1, g2, g3⟩ := putsT_ok (x := y) (v := hv x) hs
                refine ⟨t'.cs (hv x), toD_agg g1, by rw [cs_len, hm.1], by rw [cs_len, cs_len, hl, hm.1] at g3; exact g3, cs_all, ?_⟩
                rw [toD_agg hm.2, g2, cellsSet, cells_toD]
              · cases hs
          · cases h
        · cases h
      · cases h
    · cases h
  | take xs ix =>
    simp only [exT] at h
    split at h
    · rename_i a
      split at h
      · rename_i f g' hf hg
        injection h with h; subst h
        intro ρ x k r hr
        simp only at hr
        split at hr
        · rename_i hc
          obtain ⟨kk, hk⟩ := rfInt_ok (x := x) hg
          exact ⟨_, ⟨_, g' x, rfT_list (x := x) hf, by rw [hk]; rfl, hc.1, by simpa using hc.2, by rw [toD_sl, List.map_take]⟩, hr⟩
        · cases hr
      · cases h
    · cases h

end Go.Proofs.Ytidnkaopndmigaa.V
end
section
set_option linter.unusedSimpArgs false
set_option linter.unusedVariables false
/- Types: what a term says, as a plain Lean function. -/
namespace Go.Proofs.Ytidnkaopndmigaa.V
open Go.RowKit

variable {P : Program}

/-! Loops. -/
def iter {σ ρ : Type} (step : σ → Option (σ ⊕ ρ)) : Nat → σ → Option ρ
  | 0, _ => none
  | m + 1, s => match step s with
    | some (.inl s') => iter step m s'
    | some (.inr r) => some r
    | none => none
theorem iter_det {σ ρ : Type} {step : σ → Option (σ ⊕ ρ)} : ∀ {m m' : Nat} {s : σ} {r r' : ρ}, iter step m s = some r → iter step m' s = some r' → r = r'
  | 0, _, _, _, _, h, _ => by cases h
  | _ + 1, 0, _, _, _, _, h => by cases h
  | m + 1, m' + 1, s, r, r', h, h' => by
    simp only [iter] at h h'
    split at h
    · rename_i s' hs; rw [hs] at h'; exact iter_det h h'
    · rename_i r0 hs; rw [hs] at h'; injection h with h; injection h' with h'; rw [← h, ← h']
    · cases h
open Classical in
/-- A loop: step after step, till one hands back. -/
noncomputable def loopC {σ ρ : Type} (step : σ → Option (σ ⊕ ρ)) (s : σ) : Option ρ := if h : ∃ r m, iter step m s = some r then some h.choose else none
theorem loopC_iff {σ ρ : Type} {step : σ → Option (σ ⊕ ρ)} {s : σ} {r : ρ} : loopC step s = some r ↔ ∃ m, iter step m s = some r := by
  unfold loopC
  constructor
  · intro h
    split at h
    · rename_i hex
      injection h with h
      rw [← h]; exact hex.choose_spec
    · cases h
  · rintro ⟨m, hm⟩
    have hex : ∃ r m, iter step m s = some r := ⟨r, m, hm⟩
    rw [dif_pos hex]
    obtain ⟨m', hm'⟩ := hex.choose_spec
    rw [iter_det hm' hm]
theorem loopC_eq {σ ρ : Type} {step : σ → Option (σ ⊕ ρ)} {s : σ} : loopC step s = match step s with
    | some (.inl s') => loopC step s'
    | some (.inr r) => some r
    | none => none := by
  have key : ∀ r, loopC step s = some r ↔ (match step s with
    | some (.inl s') => loopC step s'
    | some (.inr r) => some r
    | none => none) = some r := by
    intro r
    rw [loopC_iff]
    constructor
    · rintro ⟨m, hm⟩
      cases m with
      | zero => cases hm
      | succ m =>
        simp only [iter] at hm
        split at hm
        · exact loopC_iff.2 ⟨m, hm⟩
        · exact hm
        · cases hm
    · intro h
      split at h
      · rename_i s' hs
        obtain ⟨m, hm⟩ := loopC_iff.1 h
        exact ⟨m + 1, by simp only [iter, hs, hm]⟩
      · rename_i r' hs
        exact ⟨1, by simp only [iter, hs, h]⟩
      · cases h
  cases h : (match step s with
    | some (.inl s') => loopC step s'
    | some (.inr r) => some r
    | none => none) with
  | some r => exact (key r).2 h
  | none =>
    cases h' : loopC step s with
    | none => rfl
    | some r => rw [(key r).1 h'] at h; cases h

open Classical in
/-- Whether a slice is nil: not known of an empty one. -/
noncomputable def nilC {α ρ : Type} (xs : List α) (k : Bool → Option ρ) : Option ρ := match xs with
  | [] => if k true = k false then k false else none
  | _ :: _ => k false
theorem nilC_ok {α ρ : Type} {xs : List α} {k : Bool → Option ρ} {r : ρ} (h : nilC xs k = some r) (b : Bool) (hb : b = true → xs = []) : k b = some r := by
  unfold nilC at h
  split at h
  · split at h
    · rename_i e; cases b
      · exact h
      · rw [e]; exact h
    · cases h
  · cases b
    · exact h
    · cases hb rfl

/-! Marks. -/
@[reducible] def TK : List (List Ty) → Type → Type
  | [], _ => Unit
  | ts :: Δ, ρ => (Tp ts → Option ρ) × TK Δ ρ
def lookK : (Δ : List (List Ty)) → Nat → Option (Σ ts : List Ty, (∀ ρ, TK Δ ρ → Tp ts → Option ρ))
  | [], _ => none
  | ts :: _, 0 => some ⟨ts, fun _ ks => ks.1⟩
  | _ :: Δ, i + 1 => match lookK Δ i with | some ⟨ts, f⟩ => some ⟨ts, fun ρ ks => f ρ ks.2⟩ | none => none
def mapK {σ ρ : Type} : (Δ : List (List Ty)) → TK Δ ρ → TK Δ (σ ⊕ ρ)
  | [], _ => ()
  | _ :: Δ, ks => (fun xs => (ks.1 xs).map .inr, mapK Δ ks.2)
def KOk {ρ : Type} (r : ρ) : (Δ : List (List Ty)) → TK Δ ρ → List (List D → Prop) → Prop
  | [], _, kp => kp = []
  | ts :: Δ, ks, kp => ∃ kp' k, kp = kp' ++ [k] ∧ KOk r Δ ks.2 kp' ∧ ∀ xs, ks.1 xs = some r → k (tpD ts xs)
theorem KOk.len {ρ : Type} {r : ρ} : ∀ {Δ : List (List Ty)} {ks : TK Δ ρ} {kp : List (List D → Prop)}, KOk r Δ ks kp → kp.length = Δ.length
  | [], _, kp, h => by have h : kp = [] := h; subst h; rfl
  | ts :: Δ, ks, kp, h => by
    obtain ⟨kp', k, rfl, h1, _⟩ := h
    simp [h1.len]
theorem KOk.look {ρ : Type} {r : ρ} : ∀ {Δ : List (List Ty)} {ks : TK Δ ρ} {kp : List (List D → Prop)} {i : Nat} {ts : List Ty} {f : ∀ ρ, TK Δ ρ → Tp ts → Option ρ}, KOk r Δ ks kp → lookK Δ i = some ⟨ts, f⟩ → i < Δ.length ∧ ∃ k, kp[Δ.length - 1 - i]? = some k ∧ ∀ xs, f ρ ks xs = some r → k (tpD ts xs)
  | [], _, _, _, _, _, _, h => by simp [lookK] at h
  | ts :: Δ, ks, kp, 0, ts', f, hk, h => by
    simp only [lookK, Option.some.injEq, Sigma.mk.injEq] at h
    obtain ⟨rfl, h⟩ := h
    have h := eq_of_heq h
    subst h
    obtain ⟨kp', k, rfl, h1, h2⟩ := hk
    refine ⟨by simp, k, ?_, h2⟩
    simp only [List.length_cons, Nat.add_sub_cancel, Nat.sub_zero]
    rw [List.getElem?_append_right (by rw [h1.len]; exact Nat.le_refl _), h1.len, Nat.sub_self]; rfl
  | ts :: Δ, ks, kp, i + 1, ts', f, hk, h => by
    simp only [lookK] at h
    split at h
    · rename_i ts'' g hg
      simp only [Option.some.injEq, Sigma.mk.injEq] at h
      obtain ⟨rfl, h⟩ := h
      have h := eq_of_heq h
      subst h
      obtain ⟨kp', k, rfl, h1, h2⟩ := hk
      obtain ⟨h3, k', h4, h5⟩ := h1.look hg
      refine ⟨by simp; omega, k', ?_, h5⟩
      simp only [List.length_cons]
      rw [show Δ.length + 1 - 1 - (i + 1) = Δ.length - 1 - i from by omega, List.getElem?_append_left (by rw [h1.len]; omega)]
      exact h4
    · cases h
theorem KOk.inr {σ ρ : Type} {r : ρ} : ∀ {Δ : List (List Ty)} {ks : TK Δ ρ} {kp : List (List D → Prop)}, KOk r Δ ks kp → KOk (Sum.inr r : σ ⊕ ρ) Δ (mapK Δ ks) kp
  | [], _, _, h => h
  | ts :: Δ, ks, kp, h => by
    obtain ⟨kp', k, rfl, h1, h2⟩ := h
    refine ⟨kp', k, rfl, h1.inr, fun xs hx => h2 xs ?_⟩
    simp only [mapK, Option.map_eq_some_iff, Sum.inr.injEq] at hx
    obtain ⟨r', h3, rfl⟩ := hx
    exact h3
theorem KOk.inl {σ ρ : Type} {r : ρ} {s : σ} : ∀ {Δ : List (List Ty)} {ks : TK Δ ρ} {kp : List (List D → Prop)}, KOk r Δ ks kp → KOk (Sum.inl s : σ ⊕ ρ) Δ (mapK Δ ks) kp
  | [], _, _, h => h
  | ts :: Δ, ks, kp, h => by
    obtain ⟨kp', k, rfl, h1, h2⟩ := h
    refine ⟨kp', k, rfl, h1.inl, fun xs hx => ?_⟩
    simp only [mapK, Option.map_eq_some_iff] at hx
    obtain ⟨r', h3, h4⟩ := hx
    cases h4

/-! Functions that are known. -/
structure Fn where
  f : FuncId
  as : List Ty
  rs : List Ty
  F : Tp as → Option (Tp rs)
def Fn.Ok (P : Program) (fn : Fn) : Prop := ∀ a r, fn.F a = some r → Con P fn.f (tpD fn.as a) (tupD (tpD fn.rs r))
structure Gn where
  g : Sg
  as : List Ty
  rs : List Ty
  F : Tp as → Option (Tp rs)
def Gn.Ok (P : Program) (gn : Gn) : Prop := ∀ a r, gn.F a = some r → SCon P gn.g (tpD gn.as a) (tpD gn.rs r)
def fnOf (fs : List Fn) (f : FuncId) : Option Fn := match fs with | [] => none | fn :: fs => if fn.f = f then some fn else fnOf fs f
def gnOf (gs : List Gn) (g : Sg) : Option Gn := match gs with | [] => none | gn :: gs => if gn.g = g then some gn else gnOf gs g
theorem fnOf_ok : ∀ {fs : List Fn} {f : FuncId} {fn : Fn}, fnOf fs f = some fn → fn ∈ fs ∧ fn.f = f
  | [], _, _, h => by simp [fnOf] at h
  | fn :: fs, f, fn', h => by
    simp only [fnOf] at h
    split at h
    · rename_i e; injection h with h; subst h; exact ⟨by simp, e⟩
    · obtain ⟨h1, h2⟩ := fnOf_ok h; exact ⟨by simp [h1], h2⟩
theorem gnOf_ok : ∀ {gs : List Gn} {g : Sg} {gn : Gn}, gnOf gs g = some gn → gn ∈ gs ∧ gn.g = g
  | [], _, _, h => by simp [gnOf] at h
  | gn :: gs, g, gn', h => by
    simp only [gnOf] at h
    split at h
    · rename_i e; injection h with h; subst h; exact ⟨by simp, e⟩
    · obtain ⟨h1, h2⟩ := gnOf_ok h; exact ⟨by simp [h1], h2⟩

/-- What a term says: an answer, by way of the marks ahead of it. -/
def Den (Γ : List Ty) (Δ : List (List Ty)) (rs : List Ty) : Type 1 := ∀ ρ : Type, Env Γ → TK Δ ρ → (Tp rs → ρ) → Option ρ

noncomputable def tden (P : Program) (fs : List Fn) (gs : List Gn) (rs : List Ty) (nn : Bool) : Tm → (Γ : List Ty) → (Δ : List (List Ty)) → List Ty → Option (Den Γ Δ rs × List Ty)
  | .ret xs, Γ, _, an => if nn = false ∨ xs.all (fun r => !isNil r) = true then (match rfsT Γ xs rs with | some f => some (fun _ x _ ret => some (ret (f x)), an) | none => none) else none
  | .lett e k, Γ, Δ, t :: an => (match exT P Γ t e, tden P fs gs rs nn k (t :: Γ) Δ an with
    | some g, some (d, an) => some (fun ρ x ks ret => g ρ x fun v => d ρ (v, x) ks ret, an)
    | _, _ => none)
  | .lett _ _, _, _, [] => none
  | .ite i a b, Γ, Δ, an => (match asT .bool (lookV Γ i), tden P fs gs rs nn a Γ Δ an with
    | some c, some (da, an) => (match tden P fs gs rs nn b Γ Δ an with
      | some (db, an) => some (fun ρ x ks ret => if c x = true then da ρ x ks ret else db ρ x ks ret, an)
      | none => none)
    | _, _ => none)
  | .join np rest body, Γ, Δ, an => if (an.take np).length = np then (match tden P fs gs rs nn rest (revT (an.take np) Γ) Δ (an.drop np) with
    | some (dr, an') => (match tden P fs gs rs nn body Γ (an.take np :: Δ) an' with
      | some (db, an'') => some (fun ρ x ks ret => db ρ x (fun xs => dr ρ (push (an.take np) xs x) ks ret, ks) ret, an'')
      | none => none)
    | none => none) else none
  | .jmp j xs, Γ, Δ, an => if j = 1000000 then some (fun _ _ _ _ => none, an) else if j < Δ.length ∧ xs.all (fun r => !isNil r) = true then (match lookK Δ (Δ.length - 1 - j) with
    | some ⟨ts, kf⟩ => (match rfsT Γ xs ts with | some f => some (fun ρ x ks _ => kf ρ ks (f x), an) | none => none)
    | none => none) else none
  | .loop np xs body, Γ, Δ, an => if (an.take np).length = np ∧ xs.all (fun r => !isNil r) = true then (match rfsT Γ xs (an.take np), tden P fs gs rs nn body (revT (an.take np) Γ) (an.take np :: Δ) (an.drop np) with
    | some f, some (db, an') => some (fun ρ x ks ret => loopC (fun s => db (Tp (an.take np) ⊕ ρ) (push (an.take np) s x) (fun xs => some (.inl xs), mapK Δ ks) fun r => .inr (ret r)) (f x), an')
    | _, _ => none) else none
  | .call f xs nr k, Γ, Δ, an => (match fnOf fs f with
    | some fn => if nr = fn.rs.length then (match rfsT Γ xs fn.as, tden P fs gs rs nn k (revT fn.rs Γ) Δ an with
      | some a, some (d, an) => some (fun ρ x ks ret => (fn.F (a x)).bind fun r => d ρ (push fn.rs r x) ks ret, an)
      | _, _ => none) else none
    | none => none)
  | .nilq r k, Γ, Δ, an => (match rfI Γ r, tden P fs gs rs nn k (.bool :: Γ) Δ an with
    | some ⟨.sl _, f⟩, some (d, an) => some (fun ρ x ks ret => nilC (f x) fun b => d ρ (b, x) ks ret, an)
    | _, _ => none)
  | .callO g xs k, Γ, Δ, an => (match gnOf gs g with
    | some gn => if xs.all (fun r => !isNil r) = true then (match rfsT Γ xs gn.as, tden P fs gs rs nn k (revT gn.rs Γ) Δ an with
      | some a, some (d, an) => some (fun ρ x ks ret => (gn.F (a x)).bind fun r => d ρ (push gn.rs r x) ks ret, an)
      | _, _ => none) else none
    | none => none)

theorem tden_ok {fs : List Fn} {gs : List Gn} {rs : List Ty} {nn : Bool} (hfs : ∀ fn ∈ fs, fn.Ok P) (hgs : ∀ gn ∈ gs, gn.Ok P) : ∀ (tm : Tm) {Γ : List Ty} {Δ : List (List Ty)} {an an' : List Ty} {d : Den Γ Δ rs}, tden P fs gs rs nn tm Γ Δ an = some (d, an') →
    ∀ (ρ : Type) (x : Env Γ) (ks : TK Δ ρ) (ret : Tp rs → ρ) (r : ρ), d ρ x ks ret = some r → ∀ (kp : List (List D → Prop)) (R : List D → Prop), KOk r Δ ks kp → (∀ v ds, ret v = r → ds.map D.n1 = tpD rs v → (nn = true → ds = tpD rs v) → R ds) → TW P tm (envD Γ x) kp R
  | .ret xs, Γ, Δ, an, an', d, h, ρ, x, ks, ret, r, hr, kp, R, hk, hR => by
    simp only [tden] at h
    split at h
    · rename_i hn
      split at h
      · rename_i f hf
        simp only [Option.some.injEq, Prod.mk.injEq] at h
        obtain ⟨rfl, rfl⟩ := h
        obtain ⟨ds, h1, h2, _, h3⟩ := rfsT_ok (x := x) hf
        injection hr with hr
        refine ⟨ds, h1, hR _ ds hr h2 fun h => h3 ?_⟩
        rcases hn with hn | hn
        · rw [h] at hn; cases hn
        · exact hn
      · cases h
    · cases h
  | .lett e k, Γ, Δ, [], an', d, h, ρ, x, ks, ret, r, hr, kp, R, hk, hR => by simp [tden] at h
  | .lett e k, Γ, Δ, t :: an, an', d, h, ρ, x, ks, ret, r, hr, kp, R, hk, hR => by
    simp only [tden] at h
    split at h
    · rename_i g d' an1 hg hd
      simp only [Option.some.injEq, Prod.mk.injEq] at h
      obtain ⟨rfl, rfl⟩ := h
      obtain ⟨v, h1, h2⟩ := exT_ok hg ρ x _ r hr
      exact ⟨_, h1, tden_ok hfs hgs k hd ρ (v, x) ks ret r h2 kp R hk hR⟩
    · cases h
  | .ite i a b, Γ, Δ, an, an', d, h, ρ, x, ks, ret, r, hr, kp, R, hk, hR => by
    simp only [tden] at h
    split at h
    · rename_i c da an1 hc ha
      split at h
      · rename_i db an2 hb
        simp only [Option.some.injEq, Prod.mk.injEq] at h
        obtain ⟨rfl, rfl⟩ := h
        refine ⟨c x, lookV_ok (asT_ok hc), fun ht => ?_, fun ht => ?_⟩
        · simp only [ht, if_true] at hr
          exact tden_ok hfs hgs a ha ρ x ks ret r hr kp R hk hR
        · simp only [ht, Bool.false_eq_true, if_false] at hr
          exact tden_ok hfs hgs b hb ρ x ks ret r hr kp R hk hR
      · cases h
    · cases h
  | .join np rest body, Γ, Δ, an, an', d, h, ρ, x, ks, ret, r, hr, kp, R, hk, hR => by
    simp only [tden] at h
    split at h
    · rename_i hl
      split at h
      · rename_i dr an1 hrest
        split at h
        · rename_i db an2 hbody
          simp only [Option.some.injEq, Prod.mk.injEq] at h
          obtain ⟨rfl, rfl⟩ := h
          refine tden_ok hfs hgs body hbody ρ x _ ret r hr _ R ⟨kp, _, rfl, hk, fun xs hx => ⟨by rw [tpD_len, hl], ?_⟩⟩ hR
          rw [← push_ok]
          exact tden_ok hfs hgs rest hrest ρ _ ks ret r hx kp R hk hR
        · cases h
      · cases h
    · cases h
  | .jmp j xs, Γ, Δ, an, an', d, h, ρ, x, ks, ret, r, hr, kp, R, hk, hR => by
    simp only [tden] at h
    split at h
    · simp only [Option.some.injEq, Prod.mk.injEq] at h
      obtain ⟨rfl, rfl⟩ := h
      cases hr
    · split at h
      · rename_i hj
        split at h
        · rename_i ts kf hlk
          split at h
          · rename_i f hf
            simp only [Option.some.injEq, Prod.mk.injEq] at h
            obtain ⟨rfl, rfl⟩ := h
            obtain ⟨_, k, h1, h2⟩ := hk.look hlk
            obtain ⟨ds, h3, _, _, h4⟩ := rfsT_ok (x := x) hf
            refine ⟨ds, k, h3, ?_, ?_⟩
            · rw [show Δ.length - 1 - (Δ.length - 1 - j) = j from by omega] at h1; exact h1
            · rw [h4 hj.2]; exact h2 _ hr
          · cases h
        · cases h
      · cases h
  | .loop np xs body, Γ, Δ, an, an', d, h, ρ, x, ks, ret, r, hr, kp, R, hk, hR => by
    simp only [tden] at h
    split at h
    · rename_i hl
      split at h
      · rename_i f db an1 hf hbody
        simp only [Option.some.injEq, Prod.mk.injEq] at h
        obtain ⟨rfl, rfl⟩ := h
        obtain ⟨ds, h3, _, _, h4⟩ := rfsT_ok (x := x) hf
        obtain ⟨m, hm⟩ := loopC_iff.1 hr
        refine ⟨ds, h3, m, ?_⟩
        rw [h4 hl.2]
        have key : ∀ (m : Nat) (s : Tp (an.take np)), iter (fun s => db (Tp (an.take np) ⊕ ρ) (push (an.take np) s x) (fun xs => some (.inl xs), mapK Δ ks) fun r => .inr (ret r)) m s = some r →
            (Nat.rec (motive := fun _ => List D → Prop) (fun _ => False) (fun _ it xs => xs.length = np ∧ TW P body (envD Γ x ++ xs) (kp ++ [it]) R) m : List D → Prop) (tpD (an.take np) s) := by
          intro m
          induction m with
          | zero => intro s hs; cases hs
          | succ m ih =>
            intro s hs
            simp only [iter] at hs
            refine ⟨by rw [tpD_len, hl.1], ?_⟩
            rw [← push_ok]
            split at hs
            · rename_i s' hs'
              refine tden_ok hfs hgs body hbody _ _ _ _ (Sum.inl s') hs' _ R ⟨kp, _, rfl, hk.inl, fun xs hx => ?_⟩ (fun v ds hv => by cases hv)
              injection hx with hx; injection hx with hx; subst hx
              exact ih _ hs
            · rename_i r' hs'
              injection hs with hs; subst hs
              refine tden_ok hfs hgs body hbody _ _ _ _ (Sum.inr r') hs' _ R ⟨kp, _, rfl, hk.inr, fun xs hx => ?_⟩ (fun v ds hv h1 h2 => hR v ds (by injection hv) h1 h2)
              injection hx with hx; cases hx
            · cases hs
        exact key m _ hm
      · cases h
    · cases h
  | .call f xs nr k, Γ, Δ, an, an', d, h, ρ, x, ks, ret, r, hr, kp, R, hk, hR => by
    simp only [tden] at h
    split at h
    · rename_i fn hfn
      split at h
      · rename_i hnr
        split at h
        · rename_i a d' an1 ha hd
          simp only [Option.some.injEq, Prod.mk.injEq] at h
          obtain ⟨rfl, rfl⟩ := h
          obtain ⟨hmem, hf⟩ := fnOf_ok hfn
          obtain ⟨ds, h1, h2, _, _⟩ := rfsT_ok (x := x) ha
          simp only [Option.bind_eq_some_iff] at hr
          obtain ⟨v, hv, hr⟩ := hr
          refine ⟨ds, tpD fn.rs v, h1, by rw [tpD_len, hnr], ?_, ?_⟩
          · rw [h2, ← hf]; exact hfs fn hmem _ v hv
          · rw [← push_ok]
            exact tden_ok hfs hgs k hd ρ _ ks ret r hr kp R hk hR
        · cases h
      · cases h
    · cases h
  | .nilq q k, Γ, Δ, an, an', d, h, ρ, x, ks, ret, r, hr, kp, R, hk, hR => by
    simp only [tden] at h
    split at h
    · rename_i t f d' an1 hf hd
      simp only [Option.some.injEq, Prod.mk.injEq] at h
      obtain ⟨rfl, rfl⟩ := h
      refine ⟨(f x).map t.toD, by rw [rfI_ok (x := x) hf]; rfl, fun b hb => ?_⟩
      have := nilC_ok hr b (fun e => by simpa using hb e)
      exact tden_ok hfs hgs k hd ρ (b, x) ks ret r this kp R hk hR
    · cases h
  | .callO g xs k, Γ, Δ, an, an', d, h, ρ, x, ks, ret, r, hr, kp, R, hk, hR => by
    simp only [tden] at h
    split at h
    · rename_i gn hgn
      split at h
      · rename_i hnn
        split at h
        · rename_i a d' an1 ha hd
          simp only [Option.some.injEq, Prod.mk.injEq] at h
          obtain ⟨rfl, rfl⟩ := h
          obtain ⟨hmem, hg⟩ := gnOf_ok hgn
          obtain ⟨ds, h1, _, _, h2⟩ := rfsT_ok (x := x) ha
          simp only [Option.bind_eq_some_iff] at hr
          obtain ⟨v, hv, hr⟩ := hr
          refine ⟨ds, tpD gn.rs v, h1, ?_, ?_⟩
          · rw [h2 hnn, ← hg]; exact hgs gn hmem _ v hv
          · rw [← push_ok]
            exact tden_ok hfs hgs k hd ρ _ ks ret r hr kp R hk hR
        · cases h
      · cases h
    · cases h

/-! A function, from its code to its meaning. -/
noncomputable def runT (P : Program) (fs : List Fn) (gs : List Gn) (nn : Bool) (as rs : List Ty) (an : List Ty) (tm : Tm) : Option (Tp as → Option (Tp rs)) := match tden P fs gs rs nn tm (revT as []) [] an with
  | some (d, _) => some fun a => d (Tp rs) (push as a (Γ := []) ()) () id
  | none => none
noncomputable def mean (c : Cx) (fs : List Fn) (gs : List Gn) (as rs an : List Ty) (fn : Func) : Option (Tp as → Option (Tp rs)) := match compF c fn with
  | .ok tm => runT c.P fs gs false as rs an tm
  | .error _ => none
/-- The length of one of several. -/
def lenAt : (ts : List Ty) → Nat → Option (Tp ts → Nat)
  | [], _ => none
  | .sl _ :: _, 0 => some fun x => x.1.length
  | _ :: _, 0 => none
  | _ :: ts, i + 1 => match lenAt ts i with | some f => some fun x => f x.2 | none => none
theorem lenAt_ok : ∀ {ts : List Ty} {i : Nat} {f : Tp ts → Nat} {x : Tp ts}, lenAt ts i = some f → ∃ l, (tpD ts x)[i]? = some (.sl l) ∧ l.length = f x
  | [], _, _, _, h => by simp [lenAt] at h
  | .sl t :: ts, 0, f, x, h => by simp only [lenAt, Option.some.injEq] at h; subst h; exact ⟨x.1.map t.toD, rfl, by simp⟩
  | .int _ :: _, 0, _, _, h => by simp [lenAt] at h
  | .bool :: _, 0, _, _, h => by simp [lenAt] at h
  | .str :: _, 0, _, _, h => by simp [lenAt] at h
  | .e :: _, 0, _, _, h => by simp [lenAt] at h
  | .p _ _ :: _, 0, _, _, h => by simp [lenAt] at h
  | t :: ts, i + 1, f, x, h => by
    have h : (match lenAt ts i with | some f => some fun (x : Tp (t :: ts)) => f x.2 | none => none) = some f := by cases t <;> exact h
    split at h
    · rename_i g hg
      injection h with h; subst h
      obtain ⟨l, h1, h2⟩ := lenAt_ok (x := x.2) hg
      exact ⟨l, by simpa [tpD] using h1, h2⟩
    · cases h
/-- Only results that are as long as they should be. -/
def wrapL {as rs : List Ty} : List (Nat × Nat) → Option (Tp as → Option (Tp rs) → Option (Tp rs))
  | [] => some fun _ o => o
  | (j, p) :: ln => match lenAt rs j, lenAt as p, wrapL (as := as) (rs := rs) ln with
    | some f, some g, some k => some fun a o => k a (o.bind fun r => if f r = g a then some r else none)
    | _, _, _ => none
theorem wrapL_ok {as rs : List Ty} : ∀ {ln : List (Nat × Nat)} {k : Tp as → Option (Tp rs) → Option (Tp rs)} {a : Tp as} {o : Option (Tp rs)} {r : Tp rs}, wrapL ln = some k → k a o = some r → o = some r ∧ LnOk ln (tpD as a) (tpD rs r)
  | [], k, a, o, r, h, hr => by
    simp only [wrapL, Option.some.injEq] at h; subst h
    exact ⟨hr, fun x hx => by cases hx⟩
  | (j, p) :: ln, k, a, o, r, h, hr => by
    simp only [wrapL] at h
    split at h
    · rename_i f g k' hf hg hk
      injection h with h; subst h
      obtain ⟨h1, h2⟩ := wrapL_ok hk hr
      rw [Option.bind_eq_some_iff] at h1
      obtain ⟨r', rfl, h1⟩ := h1
      split at h1
      · rename_i e
        injection h1 with h1; subst h1
        refine ⟨rfl, fun x hx => ?_⟩
        rcases List.mem_cons.1 hx with rfl | hx
        · obtain ⟨l, q1, q2⟩ := lenAt_ok (x := a) hg
          obtain ⟨m, q3, q4⟩ := lenAt_ok (x := r') hf
          exact ⟨l, m, q1, q3, by omega⟩
        · exact h2 x hx
      · cases h1
    · cases h
noncomputable def meanO (c : Cx) (fs : List Fn) (gs : List Gn) (g : Sg) (as rs an : List Ty) (fn : Func) : Option (Tp as → Option (Tp rs)) := match compO c g fn with
  | .ok tm => (match runT c.P fs gs true as rs an tm, wrapL (as := as) (rs := rs) g.ln with
    | some F, some k => some fun a => k a (F a)
    | _, _ => none)
  | .error _ => none
theorem Fn.of {c : Cx} {fs : List Fn} {gs : List Gn} {f : FuncId} {fn : Func} {as rs an : List Ty} {F : Tp as → Option (Tp rs)} (hP : c.P.follows .mixedOrders = true) (hf : c.P.funcs[f]? = some fn) (hnm : (fn.name == "runtime.NumGoroutine") = false) (hl : as.length = fn.params.size)
    (hfs : ∀ fn ∈ fs, fn.Ok c.P) (hgs : ∀ gn ∈ gs, gn.Ok c.P) (h : mean c fs gs as rs an fn = some F) : Fn.Ok c.P ⟨f, as, rs, F⟩ := by
  intro a r hr
  unfold mean at h
  split at h
  · rename_i tm htm
    unfold runT at h
    split at h
    · rename_i d an' hd
      injection h with h; subst h
      refine Con.ofTm hP rfl hf hnm htm (by rw [tpD_len, hl]) (fun d hd => (tpD_n1 d hd).2) ?_
      have := tden_ok hfs hgs tm hd _ _ _ id r hr [] (fun xs => xs.map D.n1 = tpD rs r) rfl (fun v ds hv h1 _ => by rw [h1]; exact congrArg _ hv)
      rw [push_ok] at this
      simpa [envD] using this
    · cases h
  · cases h
theorem Gn.of {c : Cx} {fs : List Fn} {gs : List Gn} {g : Sg} {fn : Func} {as rs an : List Ty} {F : Tp as → Option (Tp rs)} (hP : c.P.follows .mixedOrders = true) (hf : c.P.funcs[g.f]? = some fn) (hnm : (fn.name == "runtime.NumGoroutine") = false) (hl : as.length = g.np) (hrl : rs.length = g.nr)
    (hps : ∀ a : Tp as, (g.as.mapM (fl (tpD as a))).isSome = true ∧ (flX (tpD as a) g.X).isSome = true) (hqs : ∀ r : Tp rs, (g.rs.mapM (fl (tpD rs r))).isSome = true ∧ (flX (tpD rs r) g.Y).isSome = true)
    (hfs : ∀ fn ∈ fs, fn.Ok c.P) (hgs : ∀ gn ∈ gs, gn.Ok c.P) (h : meanO c fs gs g as rs an fn = some F) : Gn.Ok c.P ⟨g, as, rs, F⟩ := by
  intro a r hr
  unfold meanO at h
  split at h
  · rename_i tm htm
    split at h
    · rename_i F0 k hF hk
      injection h with h; subst h
      obtain ⟨hr, hln⟩ := wrapL_ok hk hr
      unfold runT at hF
      split at hF
      · rename_i d an' hd
        injection hF with hF; subst hF
        refine SCon.ofTm hP rfl hf hnm htm (by rw [tpD_len, hl]) (hps a) (by rw [tpD_len, hrl]) (hqs r) hln ?_
        have := tden_ok hfs hgs tm hd _ _ _ id r hr [] (fun xs => xs = tpD rs r ∧ ∀ x ∈ xs, x.n1 = x) rfl (fun v ds hv _ h2 => by
          have hv : v = r := hv
          subst hv
          rw [h2 rfl]
          exact ⟨rfl, fun x hx => (tpD_n1 x hx).1⟩)
        rw [push_ok] at this
        simpa [envD] using this
      · cases hF
    · cases h
  · cases h

end Go.Proofs.Ytidnkaopndmigaa.V
end
section
set_option linter.unusedSimpArgs false
set_option linter.unusedVariables false
/- Types: what functions are handed and hand back, as types say. -/
namespace Go.Proofs.Ytidnkaopndmigaa.V
open Go.RowKit

def okA (ts : List Ty) : SA → Bool
  | .d (.v i) => decide (i < ts.length)
  | .d (.k _) => true
  | .grow _ _ i => match ts[i]? with | some (.sl _) => true | _ => false
  | .row _ _ _ (.l i) => match ts[i]? with | some (.sl _) => true | _ => false
  | .boxi _ (.v i) _ _ => match ts[i]? with | some (.int _) => true | _ => false
  | .box _ _ | .fn _ _ | .unk | .want => true
  | _ => false
def okL (ts : List Ty) : SA → Bool
  | .d (.v i) => match ts[i]? with | some t => t.fld | none => false
  | a => okA ts a
def okC (ts : List Ty) : XC → Bool
  | .cs l => l.all (okL ts)
  | .row i sz => match ts[i]? with | some (.sl t) => t.len == sz | _ => false
def okG (ts : List Ty) (as : List SA) (X : List (Nat × XC)) : Bool := as.all (okA ts) && X.all fun x => okC ts x.2

theorem tpD_get : ∀ {ts : List Ty} {a : Tp ts} {i : Nat} {t : Ty}, ts[i]? = some t → ∃ x : t.den, (tpD ts a)[i]? = some (t.toD x)
  | [], _, _, _, h => by simp at h
  | t :: ts, a, 0, t', h => by simp at h; subst h; exact ⟨a.1, rfl⟩
  | t :: ts, a, i + 1, t', h => by
    obtain ⟨x, hx⟩ := tpD_get (a := a.2) (i := i) (t := t') (by simpa using h)
    exact ⟨x, by simpa [tpD] using hx⟩
theorem okL_ok {ts : List Ty} {a : Tp ts} {b : SA} (h : okL ts b = true) : ∃ y, fl (tpD ts a) b = some y ∧ cellOk y = true := by
  cases b with
  | d r =>
    cases r with
    | v i =>
      simp only [okL] at h
      split at h
      · rename_i t ht
        obtain ⟨x, hx⟩ := tpD_get (a := a) ht
        exact ⟨.d (t.toD x), by simp only [fl, rf, hx, Option.map_some, ofD_toD], toD_leaf h⟩
      · cases h
    | k c => exact ⟨_, rfl, by cases c <;> rfl⟩
  | grow e sz i =>
    simp only [okL, okA] at h
    split at h
    · rename_i t ht
      obtain ⟨x, hx⟩ := tpD_get (a := a) ht
      rw [toD_sl] at hx
      exact ⟨_, by simp only [fl, hx]; rfl, rfl⟩
    · cases h
  | row k e sz n =>
    cases n with
    | l i =>
      simp only [okL, okA] at h
      split at h
      · rename_i t ht
        obtain ⟨x, hx⟩ := tpD_get (a := a) ht
        rw [toD_sl] at hx
        exact ⟨_, by simp only [fl, SN.val, hx, Option.map_some]; rfl, rfl⟩
      · cases h
    | c n => simp [okL, okA] at h
    | e r => simp [okL, okA] at h
  | boxi k ix sz j =>
    cases ix with
    | v i =>
      simp only [okL, okA] at h
      split at h
      · rename_i kk ht
        obtain ⟨x, hx⟩ := tpD_get (a := a) ht
        exact ⟨_, by simp only [fl, rf, hx]; rfl, rfl⟩
      · cases h
    | k c => simp [okL, okA] at h
  | box k o => exact ⟨_, rfl, rfl⟩
  | fn g cs => exact ⟨_, rfl, rfl⟩
  | unk => exact ⟨_, rfl, rfl⟩
  | want => exact ⟨_, rfl, rfl⟩
  | tup is => simp [okL, okA] at h
  | agg rs => simp [okL, okA] at h
  | bor l e sz i => simp [okL, okA] at h
  | cell i o => simp [okL, okA] at h
theorem okA_ok {ts : List Ty} {a : Tp ts} {b : SA} (h : okA ts b = true) : ∃ y, fl (tpD ts a) b = some y := by
  by_cases hv : ∃ i, b = .d (.v i)
  · obtain ⟨i, rfl⟩ := hv
    simp only [okA, decide_eq_true_eq] at h
    obtain ⟨x, hx⟩ := tpD_get (a := a) (List.getElem?_eq_getElem h)
    exact ⟨_, by simp only [fl, rf, hx, Option.map_some]; rfl⟩
  · have : okL ts b = true := by
      unfold okL
      split
      · rename_i i; exact absurd ⟨i, rfl⟩ hv
      · exact h
    obtain ⟨y, hy, _⟩ := okL_ok (a := a) this
    exact ⟨y, hy⟩
theorem okAs_ok {ts : List Ty} {a : Tp ts} : ∀ {l : List SA}, l.all (okA ts) = true → ∃ m, l.mapM (fl (tpD ts a)) = some m
  | [], _ => ⟨[], by simp⟩
  | b :: l, h => by
    simp only [List.all_cons, Bool.and_eq_true] at h
    obtain ⟨y, hy⟩ := okA_ok (a := a) h.1
    obtain ⟨m, hm⟩ := okAs_ok (a := a) h.2
    exact ⟨y :: m, by simp only [List.mapM_cons, hy, hm, Option.bind_eq_bind, Option.bind_some, Option.pure_def]⟩
theorem okLs_ok {ts : List Ty} {a : Tp ts} : ∀ {l : List SA}, l.all (okL ts) = true → ∃ m, l.mapM (fl (tpD ts a)) = some m ∧ m.all cellOk = true
  | [], _ => ⟨[], by simp, rfl⟩
  | b :: l, h => by
    simp only [List.all_cons, Bool.and_eq_true] at h
    obtain ⟨y, hy, hc⟩ := okL_ok (a := a) h.1
    obtain ⟨m, hm, hcs⟩ := okLs_ok (a := a) h.2
    exact ⟨y :: m, by simp only [List.mapM_cons, hy, hm, Option.bind_eq_bind, Option.bind_some, Option.pure_def], by simp only [List.all_cons, hc, hcs, Bool.and_self]⟩
theorem okC_ok {ts : List Ty} {a : Tp ts} {c : XC} (h : okC ts c = true) : ∃ m, flC (tpD ts a) c = some m := by
  cases c with
  | cs l => obtain ⟨m, h1, h2⟩ := okLs_ok (a := a) h; exact ⟨m, flC_cs h1 h2⟩
  | row i sz =>
    simp only [okC] at h
    split at h
    · rename_i t ht
      obtain ⟨x, hx⟩ := tpD_get (a := a) ht
      rw [toD_sl] at hx
      exact ⟨_, flC_row hx (uni_toD (by simpa using h))⟩
    · cases h
theorem okX_ok {ts : List Ty} {a : Tp ts} : ∀ {X : List (Nat × XC)}, (X.all fun x => okC ts x.2) = true → ∃ m, flX (tpD ts a) X = some m
  | [], _ => ⟨[], rfl⟩
  | (k, c) :: X, h => by
    simp only [List.all_cons, Bool.and_eq_true] at h
    obtain ⟨ls, h1⟩ := okC_ok (a := a) h.1
    obtain ⟨m, h2⟩ := okX_ok (a := a) h.2
    exact ⟨(k, ls) :: m, by simp only [flX, h1, h2]⟩
theorem okG_ok {ts : List Ty} {as : List SA} {X : List (Nat × XC)} (h : okG ts as X = true) (a : Tp ts) : (as.mapM (fl (tpD ts a))).isSome = true ∧ (flX (tpD ts a) X).isSome = true := by
  simp only [okG, Bool.and_eq_true] at h
  obtain ⟨m, h1⟩ := okAs_ok (a := a) h.1
  obtain ⟨m', h2⟩ := okX_ok (a := a) h.2
  exact ⟨by rw [h1]; rfl, by rw [h2]; rfl⟩

theorem Gn.of' {c : Cx} {fs : List Fn} {gs : List Gn} {g : Sg} {fn : Func} {as rs an : List Ty} {F : Tp as → Option (Tp rs)} (hP : c.P.follows .mixedOrders = true) (hf : c.P.funcs[g.f]? = some fn) (hnm : (fn.name == "runtime.NumGoroutine") = false) (hl : (as.length == g.np && rs.length == g.nr && okG as g.as g.X && okG rs g.rs g.Y) = true)
    (hfs : ∀ fn ∈ fs, fn.Ok c.P) (hgs : ∀ gn ∈ gs, gn.Ok c.P) (h : meanO c fs gs g as rs an fn = some F) : Gn.Ok c.P ⟨g, as, rs, F⟩ := by
  simp only [Bool.and_eq_true, beq_iff_eq] at hl
  obtain ⟨⟨⟨h1, h2⟩, h3⟩, h4⟩ := hl
  exact Gn.of hP hf hnm h1 h2 (okG_ok h3) (okG_ok h4) hfs hgs h

end Go.Proofs.Ytidnkaopndmigaa.V
end
section
set_option linter.unusedSimpArgs false
set_option linter.unusedVariables false
/- Plain laws: loops, numbers. -/
namespace Go.Proofs.Ytidnkaopndmigaa.V
open Go

/-- A loop by an invariant and a measure. -/
theorem loop_inv {σ ρ : Type} {step : σ → Option (σ ⊕ ρ)} (I : σ → Prop) (μ : σ → Nat) (Q : ρ → Prop) (h : ∀ s, I s → (∃ s', step s = some (.inl s') ∧ I s' ∧ μ s' < μ s) ∨ ∃ r, step s = some (.inr r) ∧ Q r) {s : σ} (hs : I s) : ∃ r, loopC step s = some r ∧ Q r := by
  have key : ∀ n s, μ s ≤ n → I s → ∃ r, loopC step s = some r ∧ Q r := by
    intro n
    induction n with
    | zero =>
      intro s hm hI
      rcases h s hI with ⟨s', h1, h2, h3⟩ | ⟨r, h1, h2⟩
      · omega
      · exact ⟨r, by rw [loopC_eq, h1], h2⟩
    | succ n ih =>
      intro s hm hI
      rcases h s hI with ⟨s', h1, h2, h3⟩ | ⟨r, h1, h2⟩
      · obtain ⟨r, g1, g2⟩ := ih s' (by omega) h2
        exact ⟨r, by rw [loopC_eq, h1]; exact g1, g2⟩
      · exact ⟨r, by rw [loopC_eq, h1], h2⟩
  exact key (μ s) s (Nat.le_refl _) hs
/-- A loop's answer, by an invariant that knows it. -/
theorem loop_val {σ ρ : Type} {step : σ → Option (σ ⊕ ρ)} (I : σ → Prop) (μ : σ → Nat) (v : σ → ρ) (h : ∀ s, I s → (∃ s', step s = some (.inl s') ∧ I s' ∧ v s' = v s ∧ μ s' < μ s) ∨ step s = some (.inr (v s))) {s : σ} (hs : I s) : loopC step s = some (v s) := by
  obtain ⟨r, h1, h2⟩ := loop_inv (fun s' => I s' ∧ v s' = v s) μ (fun r => r = v s) (fun s1 hI => by
    rcases h s1 hI.1 with ⟨s', g1, g2, g3, g4⟩ | g1
    · exact .inl ⟨s', g1, ⟨g2, by rw [g3, hI.2]⟩, g4⟩
    · exact .inr ⟨_, g1, hI.2⟩) ⟨hs, rfl⟩
  rw [h1, h2]
theorem atC_val {α ρ : Type} {xs : List α} {i : Nat} {x : α} {k : α → Option ρ} (h : xs[i]? = some x) : atC xs (i : Int) k = k x := by
  unfold atC
  rw [if_pos (Int.natCast_nonneg i), Int.toNat_natCast, h]
theorem wrap_i64 {n : Int} (h0 : -9223372036854775808 ≤ n) (h1 : n ≤ 9223372036854775807) : IntKind.wrap .i64 n = n := by
  unfold IntKind.wrap IntKind.signed IntKind.bits
  simp only []
  split <;> rename_i h <;> simp at h <;> omega

theorem nilC_val {α ρ : Type} {xs : List α} {k : Bool → Option ρ} (h : xs = [] → k true = k false) : nilC xs k = k false := by
  unfold nilC
  split
  · rw [if_pos (h rfl)]
  · rfl

end Go.Proofs.Ytidnkaopndmigaa.V
end
