/- What becomes of the origins along hunks, and along the script of two texts. -/
import Derived.Test.YtidnkaopndmigaaScript
import Derived.Test.YtidnkaopndmigaaPx6
namespace Go.Proofs.Ytidnkaopndmigaa.PL
open Go.RowKit Go.Proofs.YtidnkaopndmigaaW.PrintWords Go.Proofs.YtidnkaopndmigaaW.PrintMore Go.Proofs.Ytidnkaopndmigaa.P

/-- The origins behind hunks. -/
def fol (v : Int) (o : List Int) : Nat → List Hk → List Int
  | a, [] => o.drop a
  | a, h :: r => (o.take h.f0.toNat).drop a ++ (List.replicate h.f2.length v ++ fol v o (h.f0.toNat + h.f1.length) r)
/-- Hunks that lie in order within n lines, from line a on. -/
def okH (n : Nat) : Nat → List Hk → Prop
  | a, [] => a ≤ n
  | a, h :: r => ∃ q : Nat, h.f0 = (q : Int) ∧ a ≤ q ∧ q + h.f1.length ≤ n ∧ h.f2.length ≤ 1000 ∧ okH n (q + h.f1.length) r

theorem hs_ok (n i : Nat) (x y : List ByteArray) (hx : i + x.length = n) (hy : y.length ≤ 1000) : ∀ a, a ≤ i → okH n a (hs i x y) := by
  fun_induction hs i x y with
  | case1 i x y h ih =>
    intro a ha
    have hl := run_length x y
    refine ⟨i, rfl, ha, by dsimp only; omega, by dsimp only; omega, ih (by simp only [List.length_drop]; omega) (by simp only [List.length_drop]; omega) _ (Nat.le_refl _)⟩
  | case2 i a x b y h ih =>
    intro c hc
    exact ih (by simp only [List.length_cons] at hx; omega) (by simp only [List.length_cons] at hy; omega) c (by omega)
  | case3 i x y h =>
    intro a ha
    unfold okH
    omega

theorem fol_hs (v : Int) (o : List Int) (i : Nat) (x y : List ByteArray) (ho : o.length = i + x.length) : ∀ a, a ≤ i → fol v o a (hs i x y) = (o.take i).drop a ++ ann v x y (o.drop i) := by
  fun_induction hs i x y with
  | case1 i x y h ih =>
    intro a ha
    have hl := run_length x y
    unfold fol
    simp only [Int.toNat_natCast]
    rw [ih (by simp only [List.length_drop]; omega) _ (Nat.le_refl _), ann_run v x y (o.drop i), List.drop_drop]
    rw [show (o.take (i + (run x y).1.length)).drop (i + (run x y).1.length) = [] from List.drop_eq_nil_of_le (by simp; omega), List.nil_append]
  | case2 i a x b y h ih =>
    intro c hc
    have hl := run_length (a :: x) (b :: y)
    rw [ih (by simp only [List.length_cons] at ho; omega) c (by omega)]
    have e : a = b := by
      rw [run] at h
      split at h
      · assumption
      · split at h <;> simp at h
    rw [ann, if_pos e, List.drop_drop]
    have hi : i < o.length := by simp only [List.length_cons] at ho; omega
    rw [List.drop_eq_getElem_cons hi]
    simp only [List.headD_cons]
    rw [List.take_add_one, List.getElem?_eq_getElem hi]
    simp only [Option.toList_some]
    rw [List.drop_append_of_le_length (by simp; omega), List.append_assoc]
    rfl
  | case3 i x y h h2 =>
    intro a ha
    have hl := run_length x y
    have e : x = [] ∧ y = [] := by
      cases x with
      | nil =>
        rw [run_nil] at h
        simp at h
        exact ⟨rfl, h⟩
      | cons a x =>
        cases y with
        | nil =>
          rw [run_nil2] at h
          simp at h
        | cons b y => exact (h2 a x b y h rfl rfl HEq.rfl).elim
    obtain ⟨rfl, rfl⟩ := e
    unfold fol
    rw [ann, List.append_nil]
    rw [List.take_of_length_le (by simp at ho; omega)]

theorem okH_le {n : Nat} : ∀ {a : Nat} {l : List Hk}, okH n a l → a ≤ n := by
  intro a l h
  induction l generalizing a with
  | nil => exact h
  | cons x r ih =>
    obtain ⟨q, _, h1, _, _, h2⟩ := h
    have := ih h2
    omega
section
variable (v : Int) (o : List Int) (p : List Hk) (ho : o.length ≤ 1000000) (hp : p.length ≤ 1000000)
theorem Follow_l1 (out : List Int) (i : Nat) (h0 h1 : Int) (f0 : Int) (f1 f2 : List ByteArray) (r : List Int) (hl : f2.length ≤ 1000) (hout : out.length ≤ 10000000000000) :
    Ev (fun k => (textpatch_End.f f0 f1 f2).bind fun t => blame_Follow.l0 k o v (out ++ List.replicate f2.length v) t p h0 (wrap64 (h1 + 1))) r →
    Ev (fun k => blame_Follow.l1 k o v out p h0 h1 (f2.length : Int) (0 : Int) f0 f1 f2) r := by
  intro hE
  have key := Ev_up f2.length (fun k j => blame_Follow.l1 k o v (out ++ List.replicate j v) p h0 h1 (f2.length : Int) (j : Int) f0 f1 f2) (fun _ => r) (by
      obtain ⟨K, hK⟩ := hE
      refine ⟨K + 1, fun k hk => ?_⟩
      obtain ⟨m, rfl⟩ : ∃ m, k = m + 1 := ⟨k - 1, by omega⟩
      have h := hK m (by omega)
      simp only [blame_Follow.l1]
      rw [if_neg (by omega)]
      exact h) (by
      rintro j hj ⟨K, hK⟩
      refine ⟨K + 1, fun k hk => ?_⟩
      obtain ⟨m, rfl⟩ : ∃ m, k = m + 1 := ⟨k - 1, by omega⟩
      have h := hK m (by omega)
      simp only [blame_Follow.l1]
      rw [if_pos (by omega), if_pos (by simp; omega), wrap64_succ (by omega), List.append_assoc, show List.replicate j v ++ [v] = List.replicate (j + 1) v from List.replicate_succ'.symm]
      exact h) 0 (by omega)
  simpa using key
include ho hp in
theorem Follow_l0 : ∀ (i : Nat), i ≤ p.length → ∀ (out : List Int) (a : Nat), out.length ≤ 2000000 * i → okH o.length a (p.drop i) →
    Ev (fun k => blame_Follow.l0 k o v out (a : Int) p (p.length : Int) (i : Int)) (out ++ fol v o a (p.drop i)) := by
  intro i hi
  obtain ⟨d, hd⟩ : ∃ d, p.length = i + d := ⟨p.length - i, by omega⟩
  induction d generalizing i with
  | zero =>
    obtain rfl : i = p.length := by omega
    intro out a hout hok
    have ha := okH_le hok
    refine ⟨1, fun k hk => ?_⟩
    obtain ⟨m, rfl⟩ : ∃ m, k = m + 1 := ⟨k - 1, by omega⟩
    simp only [blame_Follow.l0]
    rw [if_neg (by omega), if_pos (by omega), if_pos (by omega), Int.toNat_natCast, if_pos (by simp; omega), List.drop_length]
    rfl
  | succ d ih =>
    intro out a hout hok
    have hil : i < p.length := by omega
    have e := List.drop_eq_getElem_cons hil
    rw [e] at hok
    obtain ⟨q, h1, h2, h3, h4, h5⟩ := hok
    have hrd : rd_T42 p (i : Int) = p[i] := by
      unfold rd_T42
      rw [Int.toNat_natCast, List.getD_eq_getElem?_getD, List.getElem?_eq_getElem hil]
      rfl
    have hr := ih (i + 1) (by omega) (by omega) (out ++ (o.take q).drop a ++ List.replicate p[i].f2.length v) (q + p[i].f1.length) (by
      simp only [List.length_append, List.length_drop, List.length_take, List.length_replicate]
      have := Nat.min_le_right q o.length
      omega) h5
    obtain ⟨K, hK⟩ := Follow_l1 v o p (out ++ (o.take q).drop a) i (p.length : Int) (i : Int) p[i].f0 p[i].f1 p[i].f2 (out ++ fol v o a (p.drop i)) h4 (by
      simp only [List.length_append, List.length_drop, List.length_take]
      have := Nat.min_le_right q o.length
      omega) (by
      obtain ⟨K, hK⟩ := hr
      refine ⟨K, fun k hk => ?_⟩
      have h := hK k hk
      unfold textpatch_End.f
      dsimp only at h ⊢
      rw [Option.bind_some, h1, wrap64_add (by omega), wrap64_succ (by omega), h, e, show fol v o a (p[i] :: p.drop (i + 1)) = (o.take p[i].f0.toNat).drop a ++ (List.replicate p[i].f2.length v ++ fol v o (p[i].f0.toNat + p[i].f1.length) (p.drop (i + 1))) from rfl, h1]
      simp only [Int.toNat_natCast, List.append_assoc])
    refine ⟨K + 1, fun k hk => ?_⟩
    obtain ⟨m, rfl⟩ : ∃ m, k = m + 1 := ⟨k - 1, by omega⟩
    have h := hK m (by omega)
    simp only [blame_Follow.l0]
    rw [hrd]
    rw [if_pos (by omega), if_pos (by omega), if_pos (by omega), if_pos (by omega), if_pos (by omega), if_pos (by omega)]
    rw [h1] at h ⊢
    simp only [Int.toNat_natCast] at h ⊢
    rw [if_pos (by simp; omega)]
    exact h
end
theorem Follow_ev (v : Int) (o : List Int) (p : List Hk) (ho : o.length ≤ 1000000) (hp : p.length ≤ 1000000) (h : okH o.length 0 p) : Ev (fun k => blame_Follow.f k o p v) (fol v o 0 p) := by
  obtain ⟨K, hK⟩ := Follow_l0 v o p ho hp 0 (by omega) [] 0 (by simp) h
  refine ⟨K, fun k hk => ?_⟩
  have := hK k hk
  unfold blame_Follow.f
  simpa using this
end Go.Proofs.Ytidnkaopndmigaa.PL
