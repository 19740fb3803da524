/- The plain law of BlameNewest: as many lines come from the last version as its script puts in. -/
import Derived.Test.YtidnkaopndmigaaQBlameNewest
import Derived.Test.YtidnkaopndmigaaAnnMore
import Derived.Test.YtidnkaopndmigaaAdded
namespace Go.Proofs.Ytidnkaopndmigaa.Pure
open Go.RowKit Go.Proofs.YtidnkaopndmigaaW.PrintWords Go.Proofs.YtidnkaopndmigaaW.PrintLast Go.Proofs.YtidnkaopndmigaaW.PrintMore Go.Proofs.Ytidnkaopndmigaa.P Go.Proofs.Ytidnkaopndmigaa.Opens Go.Proofs.Ytidnkaopndmigaa.PL
theorem BlameNewest_l1 (o : List Int) (n : Int) (ho : o.length ≤ 1000) (hn : 1 ≤ n ∧ n ≤ 16) : ∀ (d i : Nat), o.length = i + d → ∀ x8 : Int, 0 ≤ x8 → x8 ≤ 1000000 → x8 = (o.drop i).count (n - 1) →
    Ev (fun k => changeforgelaw2_BlameNewest.l1 k o n x8 (i : Int) 0 0) true := by
  obtain ⟨KA, hA⟩ := added_ev
  intro d
  induction d with
  | zero =>
    intro i hi x8 h0 h1 h2
    obtain rfl : i = o.length := by omega
    rw [List.drop_length, List.count_nil] at h2
    refine ⟨KA + 1, fun k hk => ?_⟩
    obtain ⟨m, rfl⟩ : ∃ m, k = m + 1 := ⟨k - 1, by omega⟩
    have a0 := hA m (by omega)
    dsimp only at a0
    simp only [changeforgelaw2_BlameNewest.l1]
    rw [if_neg (by omega), if_pos (by trivial), if_pos (by omega), a0, Option.bind_some]
  | succ d ih =>
    intro i hi x8 h0 h1 h2
    have hil : i < o.length := by omega
    have e := List.drop_eq_getElem_cons hil
    rw [e, List.count_cons] at h2
    by_cases h : o[i] = n - 1
    · obtain ⟨K, hK⟩ := ih (i + 1) (by omega) (x8 - 1) (by simp [h] at h2; omega) (by omega) (by simp [h] at h2; omega)
      refine ⟨K + 1, fun k hk => ?_⟩
      obtain ⟨m, rfl⟩ : ∃ m, k = m + 1 := ⟨k - 1, by omega⟩
      have a := hK m (by omega)
      simp only [changeforgelaw2_BlameNewest.l1]
      rw [if_pos (by omega), if_pos (by omega), rd_nat hil, wrap64_id (x := n - 1) (by omega) (by omega), if_pos h, wrap64_id (x := x8 - 1) (by omega) (by omega), wrap64_succ (by omega)]
      exact a
    · obtain ⟨K, hK⟩ := ih (i + 1) (by omega) x8 h0 h1 (by simp [h] at h2; omega)
      refine ⟨K + 1, fun k hk => ?_⟩
      obtain ⟨m, rfl⟩ : ∃ m, k = m + 1 := ⟨k - 1, by omega⟩
      have a := hK m (by omega)
      simp only [changeforgelaw2_BlameNewest.l1]
      rw [if_pos (by omega), if_pos (by omega), rd_nat hil, wrap64_id (x := n - 1) (by omega) (by omega), if_neg h, wrap64_succ (by omega)]
      exact a
theorem sumN_drop (p : List Hk) {i : Nat} (h : i < p.length) : sumN (p.drop i) = p[i].f2.length + sumN (p.drop (i + 1)) := by
  rw [List.drop_eq_getElem_cons h]
  rfl
theorem BlameNewest_l0 (o : List Int) (n : Int) (ho : o.length ≤ 1000) (hn : 1 ≤ n ∧ n ≤ 16) (p : List Hk) (hp : p.length ≤ 1000000) (hs : sumN p ≤ 1000000) (hc : o.count (n - 1) = sumN p) : ∀ (d i : Nat), p.length = i + d → ∀ x8 : Int, x8 + sumN (p.drop i) = sumN p → 0 ≤ x8 →
    Ev (fun k => changeforgelaw2_BlameNewest.l0 k o n x8 (i : Int) p 0 0) true := by
  intro d
  induction d with
  | zero =>
    intro i hi x8 hx h0
    obtain rfl : i = p.length := by omega
    rw [List.drop_length] at hx
    have hx : x8 + 0 = sumN p := hx
    obtain ⟨K, hK⟩ := BlameNewest_l1 o n ho hn o.length 0 (by omega) x8 h0 (by omega) (by rw [List.drop_zero, hc]; omega)
    refine ⟨K + 1, fun k hk => ?_⟩
    obtain ⟨m, rfl⟩ : ∃ m, k = m + 1 := ⟨k - 1, by omega⟩
    simp only [changeforgelaw2_BlameNewest.l0]
    rw [if_neg (by omega)]
    exact hK m (by omega)
  | succ d ih =>
    intro i hi x8 hx h0
    have hil : i < p.length := by omega
    rw [sumN_drop p hil] at hx
    obtain ⟨K, hK⟩ := ih (i + 1) (by omega) (x8 + p[i].f2.length) (by omega) (by omega)
    have hrd : rd_T42 p (i : Int) = p[i] := by
      unfold rd_T42
      rw [Int.toNat_natCast, List.getD_eq_getElem?_getD, List.getElem?_eq_getElem hil]
      rfl
    refine ⟨K + 1, fun k hk => ?_⟩
    obtain ⟨m, rfl⟩ : ∃ m, k = m + 1 := ⟨k - 1, by omega⟩
    have a := hK m (by omega)
    simp only [changeforgelaw2_BlameNewest.l0]
    rw [if_pos (by omega), if_pos (by omega), hrd, wrap64_id (x := x8 + (p[i].f2.length : Int)) (by omega) (by omega), wrap64_succ (by omega)]
    exact a
theorem newest_count (l : List (List ByteArray)) (hv : ∀ w ∈ l, okL w) (n : Nat) (hn : l.length = n + 2) :
    (annL 0 [] [] l).count ((n + 1 : Nat) : Int) = sumN (hs 0 (l[n]'(by omega)) (l[n + 1]'(by omega))) := by
  have e : l = l.take (n + 1) ++ [l[n + 1]'(by omega)] := by
    rw [List.take_append_getElem (by omega), List.take_of_length_le (by omega)]
  have eL : (l.take (n + 1)).getLastD [] = l[n]'(by omega) := by
    rw [List.getLastD_eq_getLast?, List.getLast?_eq_getElem?, List.length_take, Nat.min_eq_left (by omega), List.getElem?_take_of_lt (by omega), List.getElem?_eq_getElem (by omega)]
    rfl
  have ea : annL 0 [] [] l = ann ((n + 1 : Nat) : Int) (l[n]'(by omega)) (l[n + 1]'(by omega)) (annL 0 [] [] (l.take (n + 1))) := by
    conv => lhs; rw [e]
    rw [annL_append]
    simp only [annL]
    rw [eL, List.length_take, Nat.min_eq_left (by omega), Int.zero_add]
  rw [ea]
  refine ann_count _ 0 _ _ _ ?_ ?_
  · rw [annL_length _ _ _ _ rfl, eL]
  · intro p hp
    have := annL_bound (l.take (n + 1)) 0 [] [] (by omega) rfl (by simp) p hp
    rw [List.length_take, Nat.min_eq_left (by omega)] at this
    omega
theorem BlameNewest : BlameNewest.Pure := by
  intro l hw
  refine Ev.rounds (r := true) ?_
  obtain ⟨K1, h1⟩ := Annotate_ev l
  obtain ⟨KA, hA⟩ := added_ev
  by_cases hc : (aF l).2.1 = 0
  · obtain ⟨hl, hv, ea⟩ := aF_zero hc
    by_cases h2 : l.length < 2
    · refine ⟨max K1 KA + 1, fun k hk => ?_⟩
      obtain ⟨m, rfl⟩ : ∃ m, k = m + 1 := ⟨k - 1, by omega⟩
      have a0 := hA m (by omega)
      have a1 := h1 (m + 1) (by omega)
      dsimp only at a0 a1
      unfold changeforgelaw2_BlameNewest.f
      dsimp only
      rw [a1, Option.bind_some, if_pos hc, decide_eq_true (by omega : (l.length : Int) < 2)]
      simp only [changeforgelaw2_BlameNewest.j0]
      rw [if_pos (by trivial), a0, Option.bind_some]
    · obtain ⟨n, hn⟩ : ∃ n, l.length = n + 2 := ⟨l.length - 2, by omega⟩
      have o1 : okL (l[n]'(by omega)) := hv _ (List.getElem_mem _)
      have o2 : okL (l[n + 1]'(by omega)) := hv _ (List.getElem_mem _)
      have l1 := o1.1
      have l2 := o2.1
      obtain ⟨K2, a2⟩ := Script_ev (l[n]'(by omega)) (l[n + 1]'(by omega))
      have es : scrF (l[n]'(by omega)) (l[n + 1]'(by omega)) = (hs 0 (l[n]'(by omega)) (l[n + 1]'(by omega)), 0, 0) := by
        unfold scrF
        rw [if_pos (vTwo_zero.2 ⟨o1, o2⟩)]
      have hsl := hs_len 0 (l[n]'(by omega)) (l[n + 1]'(by omega))
      have hsn := sumN_le 0 (l[n]'(by omega)) (l[n + 1]'(by omega))
      have hol : (annL 0 [] [] l).length ≤ 120 := by
        rw [annL_length _ _ _ _ rfl, List.getLastD_eq_getLast?, List.getLast?_eq_getElem?, show l.length - 1 = n + 1 by omega, List.getElem?_eq_getElem (by omega)]
        exact l2
      obtain ⟨K3, a3⟩ := BlameNewest_l0 (annL 0 [] [] l) (l.length : Int) (by omega) (by omega) (hs 0 (l[n]'(by omega)) (l[n + 1]'(by omega))) (by omega) (by omega) (by
        rw [show ((l.length : Int) - 1) = ((n + 1 : Nat) : Int) by omega]
        exact newest_count l hv n hn) (hs 0 (l[n]'(by omega)) (l[n + 1]'(by omega))).length 0 (by omega) 0 (by simp) (by omega)
      refine ⟨max K1 (max K2 K3) + 1, fun k hk => ?_⟩
      obtain ⟨m, rfl⟩ : ∃ m, k = m + 1 := ⟨k - 1, by omega⟩
      have b1 := h1 (m + 1) (by omega)
      have b2 := a2 m (by omega)
      have b3 := a3 m (by omega)
      dsimp only at b1 b2 b3
      unfold changeforgelaw2_BlameNewest.f
      dsimp only
      rw [b1, Option.bind_some, if_pos hc, decide_eq_false (by omega : ¬ (l.length : Int) < 2)]
      simp only [changeforgelaw2_BlameNewest.j0]
      rw [if_neg (by simp), wrap64_id (x := (l.length : Int) - 2) (by omega) (by omega), wrap64_id (x := (l.length : Int) - 1) (by omega) (by omega), if_pos (by omega), if_pos (by omega), if_pos (by omega), if_pos (by omega), show (l.length : Int) - 2 = ((n : Nat) : Int) by omega, show (l.length : Int) - 1 = ((n + 1 : Nat) : Int) by omega, rdL_nat (show n < l.length by omega), rdL_nat (show n + 1 < l.length by omega), b2, Option.bind_some, es, ea]
      exact b3
  · refine ⟨max K1 KA + 1, fun k hk => ?_⟩
    obtain ⟨m, rfl⟩ : ∃ m, k = m + 1 := ⟨k - 1, by omega⟩
    have a0 := hA m (by omega)
    have a1 := h1 (m + 1) (by omega)
    dsimp only at a0 a1
    unfold changeforgelaw2_BlameNewest.f
    dsimp only
    rw [a1, Option.bind_some, if_neg hc]
    simp only [changeforgelaw2_BlameNewest.j0]
    rw [if_pos (by trivial), a0, Option.bind_some]
end Go.Proofs.Ytidnkaopndmigaa.Pure
