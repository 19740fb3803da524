/- The reference for blame.Annotate: the same origins. -/
import Derived.Test.YtidnkaopndmigaaAnnot
import Derived.Test.YtidnkaopndmigaaRefAlign
import Derived.Test.YtidnkaopndmigaaPx10
namespace Go.Proofs.Ytidnkaopndmigaa.PL
open Go.RowKit Go.Proofs.YtidnkaopndmigaaW.PrintWords Go.Proofs.YtidnkaopndmigaaW.PrintMore Go.Proofs.Ytidnkaopndmigaa.P

/-- The origins along the steps of an alignment; the lines from number k on carry the origins o. -/
def annS (v : Int) (o : List Int) : Nat → List (Int × ByteArray) → List Int
  | _, [] => []
  | k, s :: r => if s.1 = 0 then (o.drop k).headD 0 :: annS v o (k + 1) r else if s.1 = 2 then v :: annS v o k r else annS v o (k + 1) r
theorem annS_walk (v : Int) (x y : List ByteArray) (o : List Int) (k : Nat) : annS v o k (walk x y) = ann v x y (o.drop k) := by
  fun_induction walk x y generalizing k with
  | case1 => rw [ann]; rfl
  | case2 b y ih =>
    rw [ann]
    simp only [annS]
    rw [if_neg (by decide), if_pos (by trivial), ih]
  | case3 a x ih =>
    rw [ann]
    simp only [annS]
    rw [if_neg (by decide), if_neg (by decide), ih, List.drop_drop]
  | case4 x b y ih =>
    rw [ann, if_pos rfl]
    simp only [annS]
    rw [if_pos (by trivial), ih, List.drop_drop]
  | case5 a x b y h h2 ih =>
    rw [ann, if_neg h, if_pos h2]
    simp only [annS]
    rw [if_neg (by decide), if_neg (by decide), ih, List.drop_drop]
  | case6 a x b y h h2 ih =>
    rw [ann, if_neg h, if_neg h2]
    simp only [annS]
    rw [if_neg (by decide), if_pos (by trivial), ih]
theorem walk_length (x y : List ByteArray) : (walk x y).length ≤ x.length + y.length := by
  fun_induction walk x y with
  | case1 => simp
  | case2 b y ih => simp only [List.length_cons] at ih ⊢; omega
  | case3 a x ih => simp only [List.length_cons] at ih ⊢; omega
  | case4 x b y ih => simp only [List.length_cons] at ih ⊢; omega
  | case5 a x b y h h2 ih => simp only [List.length_cons] at ih ⊢; omega
  | case6 a x b y h h2 ih => simp only [List.length_cons] at ih ⊢; omega
/-- The kinds of steps; as many steps that aren't put in as lines. -/
def okS : Nat → List (Int × ByteArray) → Prop
  | _, [] => True
  | n, s :: r => (s.1 = 2 ∧ okS n r) ∨ ((s.1 = 0 ∨ s.1 = 1) ∧ ∃ m, n = m + 1 ∧ okS m r)
theorem walk_ok (x y : List ByteArray) : okS x.length (walk x y) := by
  fun_induction walk x y with
  | case1 => trivial
  | case2 b y ih => exact Or.inl ⟨rfl, ih⟩
  | case3 a x ih => exact Or.inr ⟨Or.inr rfl, x.length, rfl, ih⟩
  | case4 x b y ih => exact Or.inr ⟨Or.inl rfl, x.length, rfl, ih⟩
  | case5 a x b y h h2 ih => exact Or.inr ⟨Or.inr rfl, x.length, rfl, ih⟩
  | case6 a x b y h h2 ih => exact Or.inl ⟨rfl, ih⟩

section
variable (l : List (List ByteArray)) (hl : l.length ≤ 16)
include hl in
theorem Annotated_l1 (o : List Int) (ho : o.length ≤ 1000) (v : Nat) (hv : v < l.length) (ss : List (Int × ByteArray)) (hs : ss.length ≤ 1000) (r : List Int) : ∀ (d i : Nat), ss.length = i + d → ∀ (k : Nat) (nx : List Int), nx.length ≤ i → okS (o.length - k) (ss.drop i) → k ≤ o.length →
    Ev (fun q => changeforgeref2_Annotated.l0 q l (nx ++ annS (v : Int) o k (ss.drop i)) l[v] ((v + 1 : Nat) : Int)) r →
    Ev (fun q => changeforgeref2_Annotated.l1 q l o (v : Int) (ss.map stp) nx (k : Int) (i : Int)) r := by
  intro d
  induction d with
  | zero =>
    intro i hi k nx hnx hok hk ⟨K, hK⟩
    obtain rfl : i = ss.length := by omega
    refine ⟨K + 1, fun q hq => ?_⟩
    obtain ⟨m, rfl⟩ : ∃ m, q = m + 1 := ⟨q - 1, by omega⟩
    have h := hK m (by omega)
    simp only [changeforgeref2_Annotated.l1]
    rw [List.length_map, if_neg (by omega), if_pos (by omega), if_pos (by omega), rdL_nat hv, wrap64_succ (by omega)]
    rw [List.drop_length] at h
    simpa [annS] using h
  | succ d ih =>
    intro i hi k nx hnx hok hk hE
    have hil : i < ss.length := by omega
    have e := List.drop_eq_getElem_cons hil
    rw [e] at hok hE
    have hrd : rd_T51 (ss.map stp) (i : Int) = stp ss[i] := by
      unfold rd_T51
      rw [Int.toNat_natCast, List.getD_eq_getElem?_getD, List.getElem?_eq_getElem (by simpa using hil)]
      simp
    have hf0 : (stp ss[i]).f0 = ss[i].1 := rfl
    rcases hok with ⟨h2, hr⟩ | ⟨h01, m0, hm0, hr⟩
    · obtain ⟨K, hK⟩ := ih (i + 1) (by omega) k (nx ++ [(v : Int)]) (by simp; omega) hr hk (by
        simp only [annS] at hE
        rw [if_neg (by rw [h2]; decide), if_pos h2] at hE
        rw [List.append_assoc]
        exact hE)
      refine ⟨K + 1, fun q hq => ?_⟩
      obtain ⟨m, rfl⟩ : ∃ m, q = m + 1 := ⟨q - 1, by omega⟩
      have h := hK m (by omega)
      simp only [changeforgeref2_Annotated.l1]
      rw [List.length_map, hrd, hf0, if_pos (by omega), if_pos (by omega), if_neg (by rw [h2]; decide), if_pos h2, if_pos (by omega), wrap64_succ (by omega)]
      exact h
    · have hkl : k < o.length := by omega
      have eo : (o.drop k).headD 0 = o[k] := by
        rw [List.drop_eq_getElem_cons hkl]
        rfl
      rcases h01 with h0 | h1
      · obtain ⟨K, hK⟩ := ih (i + 1) (by omega) (k + 1) (nx ++ [o[k]]) (by simp; omega) (by rw [show o.length - (k + 1) = m0 by omega]; exact hr) (by omega) (by
          simp only [annS] at hE
          rw [if_pos h0, eo] at hE
          rw [List.append_assoc]
          exact hE)
        refine ⟨K + 1, fun q hq => ?_⟩
        obtain ⟨m, rfl⟩ : ∃ m, q = m + 1 := ⟨q - 1, by omega⟩
        have h := hK m (by omega)
        simp only [changeforgeref2_Annotated.l1]
        rw [List.length_map, hrd, hf0, if_pos (by omega), if_pos (by omega), if_pos h0, if_pos (by omega), if_pos (by omega), if_pos (by omega), Option.bind_some, if_neg (by rw [h0]; decide), rd_nat hkl, wrap64_succ (by omega), wrap64_succ (by omega)]
        exact h
      · obtain ⟨K, hK⟩ := ih (i + 1) (by omega) (k + 1) nx (by omega) (by rw [show o.length - (k + 1) = m0 by omega]; exact hr) (by omega) (by
          simp only [annS] at hE
          rw [if_neg (by rw [h1]; decide), if_neg (by rw [h1]; decide)] at hE
          exact hE)
        refine ⟨K + 1, fun q hq => ?_⟩
        obtain ⟨m, rfl⟩ : ∃ m, q = m + 1 := ⟨q - 1, by omega⟩
        have h := hK m (by omega)
        simp only [changeforgeref2_Annotated.l1]
        rw [List.length_map, hrd, hf0, if_pos (by omega), if_pos (by omega), if_neg (by rw [h1]; decide), if_neg (by rw [h1]; decide), wrap64_succ (by omega), wrap64_succ (by omega)]
        exact h
include hl in
theorem Annotated_l0 (hv : ∀ w ∈ l, okL w) : ∀ (d i : Nat), l.length = i + d → ∀ (o : List Int) (t : List ByteArray), okL t → o.length = t.length →
    Ev (fun k => changeforgeref2_Annotated.l0 k l o t (i : Int)) (annL (i : Int) o t (l.drop i)) := by
  intro d
  induction d with
  | zero =>
    intro i hi o t _ _
    obtain rfl : i = l.length := by omega
    refine ⟨1, fun k hk => ?_⟩
    obtain ⟨m, rfl⟩ : ∃ m, k = m + 1 := ⟨k - 1, by omega⟩
    simp only [changeforgeref2_Annotated.l0]
    rw [if_neg (by omega), List.drop_length]
    rfl
  | succ d ih =>
    intro i hi o t ht ho
    have hil : i < l.length := by omega
    have e := List.drop_eq_getElem_cons hil
    have hw : okL l[i] := hv _ (List.getElem_mem hil)
    have h120 := ht.1
    have h121 := hw.1
    obtain ⟨K1, h1⟩ := Align_ev t l[i] (by omega) (by omega)
    have hwl := walk_length t l[i]
    obtain ⟨K2, h2⟩ := Annotated_l1 l hl o (by omega) i hil (walk t l[i]) (by omega) (annL (i : Int) o t (l.drop i)) (walk t l[i]).length 0 (by omega) 0 [] (by simp) (by
      rw [Nat.sub_zero, List.drop_zero, ho]
      exact walk_ok t l[i]) (by omega) (by
      have := ih (i + 1) (by omega) (ann (i : Int) t l[i] o) l[i] hw (ann_length _ _ _ _)
      rw [e, List.nil_append, List.drop_zero, annS_walk, List.drop_zero]
      exact this)
    refine ⟨max K1 K2 + 1, fun k hk => ?_⟩
    obtain ⟨m, rfl⟩ : ∃ m, k = m + 1 := ⟨k - 1, by omega⟩
    have a1 := h1 m (by omega)
    have a2 := h2 m (by omega)
    dsimp only at a1 a2
    simp only [changeforgeref2_Annotated.l0]
    rw [if_pos (by omega), if_pos (by omega), rdL_nat hil, a1, Option.bind_some]
    simpa using a2
theorem Annotated_ev (hl : l.length ≤ 16) (hv : ∀ w ∈ l, okL w) : Ev (fun k => changeforgeref2_Annotated.f k l) (annL 0 [] [] l) := by
  obtain ⟨K, hK⟩ := Annotated_l0 l hl hv l.length 0 (by omega) [] [] okL_nil rfl
  refine ⟨K, fun k hk => ?_⟩
  have := hK k hk
  unfold changeforgeref2_Annotated.f
  simpa using this
end
end Go.Proofs.Ytidnkaopndmigaa.PL
