/- The program's functions as plain Lean functions, each with the proof that the program's call comes to what it says; written by a program of this session out of the translation. -/
import Derived.Test.YtidnkaopndmigaaPx0
namespace Go.Proofs.Ytidnkaopndmigaa.P
open Go.RowKit Go.Proofs.YtidnkaopndmigaaW.PrintWords Go.Proofs.YtidnkaopndmigaaW.PrintLast Go.Proofs.YtidnkaopndmigaaW.PrintMore
attribute [local go_sem] max2_int min2_int max_two min_two max_three min_three max_four min_four   -- for this text's walks alone
set_option linter.unusedVariables false
set_option linter.unusedSimpArgs false

/-! ### changeforgeref1_suffixes: function 29 -/
mutual
def changeforgeref1_suffixes.l0 : Nat → List ByteArray → List ByteArray → List (List Int) → Int → Option ((List (List Int)))
  | 0, _, _, _, _ => none
  | k + 1, x0, x1, x5, x6 => if x6 ≥ 0 then (if 0 ≤ (wrap64 ((x0.length : Int) + 1)) then (if (wrap64 ((x0.length : Int) + 1) : Int).toNat ≤ 35184372088832 then (if 0 ≤ x6 then (if x6 < (x5.length : Int) then ((some (x5.set (x6 : Int).toNat (List.replicate (wrap64 ((x0.length : Int) + 1) : Int).toNat 0) : List (List Int))).bind fun y233 => (if x6 = (x1.length : Int) then (changeforgeref1_suffixes.l0 k x0 x1 y233 (wrap64 (x6 - 1))) else (changeforgeref1_suffixes.l1 k x0 x1 y233 x6 (wrap64 ((x0.length : Int) - 1))))) else (none)) else (none)) else (none)) else (none)) else (some x5)
def changeforgeref1_suffixes.l1 : Nat → List ByteArray → List ByteArray → List (List Int) → Int → Int → Option ((List (List Int)))
  | 0, _, _, _, _, _ => none
  | k + 1, x0, x1, x5, x6, x7 => if x7 ≥ 0 then (if 0 ≤ (wrap64 (x6 + 1)) then (if (wrap64 (x6 + 1)) < (x5.length : Int) then (if 0 ≤ x7 then (if x7 < ((rd_L4 x5 (wrap64 (x6 + 1))).length : Int) then (if 0 ≤ x6 then (if x6 < (x5.length : Int) then (if 0 ≤ (wrap64 (x7 + 1)) then (if (wrap64 (x7 + 1)) < ((rd_L4 x5 x6).length : Int) then (if (rd (rd_L4 x5 x6) (wrap64 (x7 + 1))) > (rd (rd_L4 x5 (wrap64 (x6 + 1))) x7) then (if x7 < (x0.length : Int) then (if x6 < (x1.length : Int) then (if (rdOf ByteArray.empty x0 x7).toList = (rdOf ByteArray.empty x1 x6).toList then (if (wrap64 (x7 + 1)) < ((rd_L4 x5 (wrap64 (x6 + 1))).length : Int) then (if (wrap64 ((rd (rd_L4 x5 (wrap64 (x6 + 1))) (wrap64 (x7 + 1))) + 1)) > (rd (rd_L4 x5 x6) (wrap64 (x7 + 1))) then (if x7 < ((rd_L4 x5 x6).length : Int) then (changeforgeref1_suffixes.l1 k x0 x1 (x5.set (x6 : Int).toNat ((rd_L4 x5 x6).set (x7 : Int).toNat (wrap64 ((rd (rd_L4 x5 (wrap64 (x6 + 1))) (wrap64 (x7 + 1))) + 1)))) x6 (wrap64 (x7 - 1))) else (none)) else (if x7 < ((rd_L4 x5 x6).length : Int) then (changeforgeref1_suffixes.l1 k x0 x1 (x5.set (x6 : Int).toNat ((rd_L4 x5 x6).set (x7 : Int).toNat (rd (rd_L4 x5 x6) (wrap64 (x7 + 1))))) x6 (wrap64 (x7 - 1))) else (none))) else (none)) else (if x7 < ((rd_L4 x5 x6).length : Int) then (changeforgeref1_suffixes.l1 k x0 x1 (x5.set (x6 : Int).toNat ((rd_L4 x5 x6).set (x7 : Int).toNat (rd (rd_L4 x5 x6) (wrap64 (x7 + 1))))) x6 (wrap64 (x7 - 1))) else (none))) else (none)) else (none)) else (if x7 < (x0.length : Int) then (if x6 < (x1.length : Int) then (if (rdOf ByteArray.empty x0 x7).toList = (rdOf ByteArray.empty x1 x6).toList then (if (wrap64 (x7 + 1)) < ((rd_L4 x5 (wrap64 (x6 + 1))).length : Int) then (if (wrap64 ((rd (rd_L4 x5 (wrap64 (x6 + 1))) (wrap64 (x7 + 1))) + 1)) > (rd (rd_L4 x5 (wrap64 (x6 + 1))) x7) then (if x7 < ((rd_L4 x5 x6).length : Int) then (changeforgeref1_suffixes.l1 k x0 x1 (x5.set (x6 : Int).toNat ((rd_L4 x5 x6).set (x7 : Int).toNat (wrap64 ((rd (rd_L4 x5 (wrap64 (x6 + 1))) (wrap64 (x7 + 1))) + 1)))) x6 (wrap64 (x7 - 1))) else (none)) else (if x7 < ((rd_L4 x5 x6).length : Int) then (changeforgeref1_suffixes.l1 k x0 x1 (x5.set (x6 : Int).toNat ((rd_L4 x5 x6).set (x7 : Int).toNat (rd (rd_L4 x5 (wrap64 (x6 + 1))) x7))) x6 (wrap64 (x7 - 1))) else (none))) else (none)) else (if x7 < ((rd_L4 x5 x6).length : Int) then (changeforgeref1_suffixes.l1 k x0 x1 (x5.set (x6 : Int).toNat ((rd_L4 x5 x6).set (x7 : Int).toNat (rd (rd_L4 x5 (wrap64 (x6 + 1))) x7))) x6 (wrap64 (x7 - 1))) else (none))) else (none)) else (none))) else (none)) else (none)) else (none)) else (none)) else (none)) else (none)) else (none)) else (none)) else (changeforgeref1_suffixes.l0 k x0 x1 x5 (wrap64 (x6 - 1)))
end
def changeforgeref1_suffixes.f (k : Nat) (l0 : List ByteArray) (l1 : List ByteArray) : Option ((List (List Int))) := if 0 ≤ (wrap64 ((l1.length : Int) + 1)) then (if (wrap64 ((l1.length : Int) + 1) : Int).toNat ≤ 11728124029610 then (changeforgeref1_suffixes.l0 k l0 l1 (List.replicate (wrap64 ((l1.length : Int) + 1) : Int).toNat []) (l1.length : Int)) else (none)) else (none)
namespace changeforgeref1_suffixes_Q
end changeforgeref1_suffixes_Q
open changeforgeref1_suffixes_Q
theorem changeforgeref1_suffixes.mono_l : ∀ k, (∀ y0 y1 y2 y3, LeO (changeforgeref1_suffixes.l0 k y0 y1 y2 y3) (changeforgeref1_suffixes.l0 (k + 1) y0 y1 y2 y3)) ∧ (∀ y0 y1 y2 y3 y4, LeO (changeforgeref1_suffixes.l1 k y0 y1 y2 y3 y4) (changeforgeref1_suffixes.l1 (k + 1) y0 y1 y2 y3 y4))
  | 0 => ⟨fun _ _ _ _ r h => by simp [changeforgeref1_suffixes.l0] at h, fun _ _ _ _ _ r h => by simp [changeforgeref1_suffixes.l1] at h⟩
  | k + 1 => by
    obtain ⟨ih0, ih1⟩ := changeforgeref1_suffixes.mono_l k
    refine ⟨?_, ?_⟩
    · intro y0 y1 y2 y3
      unfold changeforgeref1_suffixes.l0
      repeat' first
      | (with_reducible exact ih0 _ _ _ _)
      | (with_reducible exact ih1 _ _ _ _ _)
      | (with_reducible exact LeO.refl _)
      | (with_reducible exact LeO.none _)
      | (with_reducible refine LeO.ite ?_ ?_)
      | (with_reducible refine LeO.bind ?_ (fun _ => ?_))
      | exact ih0 _ _ _ _
      | exact ih1 _ _ _ _ _
      | exact LeO.none _
      | refine LeO.ite ?_ ?_
      | refine LeO.bind ?_ (fun _ => ?_)
    · intro y0 y1 y2 y3 y4
      unfold changeforgeref1_suffixes.l1
      repeat' first
      | (with_reducible exact ih0 _ _ _ _)
      | (with_reducible exact ih1 _ _ _ _ _)
      | (with_reducible exact LeO.refl _)
      | (with_reducible exact LeO.none _)
      | (with_reducible refine LeO.ite ?_ ?_)
      | (with_reducible refine LeO.bind ?_ (fun _ => ?_))
      | exact ih0 _ _ _ _
      | exact ih1 _ _ _ _ _
      | exact LeO.none _
      | refine LeO.ite ?_ ?_
      | refine LeO.bind ?_ (fun _ => ?_)
theorem changeforgeref1_suffixes.mono : ∀ a0 a1 k, LeO (changeforgeref1_suffixes.f k a0 a1) (changeforgeref1_suffixes.f (k + 1) a0 a1) := by
 intro a0 a1 k
 obtain ⟨ih0, ih1⟩ := changeforgeref1_suffixes.mono_l k
 unfold changeforgeref1_suffixes.f
 repeat' first
  | (with_reducible exact ih0 _ _ _ _)
  | (with_reducible exact ih1 _ _ _ _ _)
  | (with_reducible exact LeO.refl _)
  | (with_reducible exact LeO.none _)
  | (with_reducible refine LeO.ite ?_ ?_)
  | (with_reducible refine LeO.bind ?_ (fun _ => ?_))
  | exact ih0 _ _ _ _
  | exact ih1 _ _ _ _ _
  | exact LeO.none _
  | refine LeO.ite ?_ ?_
  | refine LeO.bind ?_ (fun _ => ?_)
set_option maxHeartbeats 8000000 in
set_option maxRecDepth 100000 in
theorem changeforgeref1_suffixes.calls (k : Nat) (A0 : Option Addr) (c0 : Nat) (l0 : List ByteArray) (A1 : Option Addr) (c1 : Nat) (l1 : List ByteArray) (r : List (List Int)) (w : World) (hr0 : Kd.C Kd.string w A0 l0.length l0) (hc0 : l0.length ≤ c0) (hr1 : Kd.C Kd.string w A1 l1.length l1) (hc1 : l1.length ≤ c1) (h : changeforgeref1_suffixes.f k l0 l1 = some r) :
    Calls Try.prog 29 #[.slice A0 l0.length c0, .slice A1 l1.length c1] w fun e w' => ∃ v0_ : Value, e = .returned (v0_) ∧ Kd.S (Kd.slice 3 (Kd.int .i64)) 23 w' w.heap.size (fun _ => True) v0_ r ∧ Below w.heap.size w w' := by
 have HR0 := Aside0.mk hr0
 have HC0 := Aside0.mk hc0
 clear hr0 hc0
 have HR1 := Aside0.mk hr1
 have HC1 := Aside0.mk hc1
 clear hr1 hc1
 have HB := Aside0.mk (Below.refl w.heap.size w)
 have H : (if 0 ≤ (wrap64 ((l1.length : Int) + 1)) then (if (wrap64 ((l1.length : Int) + 1) : Int).toNat ≤ 11728124029610 then (changeforgeref1_suffixes.l0 k l0 l1 (List.replicate (wrap64 ((l1.length : Int) + 1) : Int).toNat []) (l1.length : Int)) else (none)) else (none)) = some r := h
 clear h
 obtain ⟨ji3, hji3⟩ : ∃ j_ : Int, (wrap64 ((l1.length : Int) + 1)) = j_ := ⟨_, rfl⟩
 replace H : (if 0 ≤ (ji3) then (if (ji3 : Int).toNat ≤ 11728124029610 then (changeforgeref1_suffixes.l0 k l0 l1 (List.replicate (ji3 : Int).toNat []) (l1.length : Int)) else (none)) else (none)) = some r := by first | (rw [hji3] at H; exact H) | (simp only [hji3] at H ⊢; exact H)
 have hji3w : (IntKind.i64.wrap ((l1.length : Int) + 1)) = ji3 := (i64_w _).trans hji3
 by_cases c4 : 0 ≤ (ji3)
 · rw [if_pos c4] at H
   have c4b0 := eq_true c4
   have c4b1 : decide (0 ≤ (ji3)) = true := decide_eq_true c4
   clear c4
   by_cases c5 : (ji3 : Int).toNat ≤ 11728124029610
   · rw [if_pos c5] at H
     have c5b0 := eq_true c5
     have c5b1 : decide ((ji3 : Int).toNat ≤ 11728124029610) = true := decide_eq_true c5
     clear c5
     obtain ⟨y227, hy227⟩ : ∃ y_ : List (List Int), y_ = (List.replicate (ji3 : Int).toNat []) := ⟨_, rfl⟩
     replace H : (changeforgeref1_suffixes.l0 k l0 l1 y227 (l1.length : Int)) = some r := by first | (rw [hy227]; with_reducible exact H) | (have H2_ := (Option.bind_some _ _).symm.trans H; rw [hy227]; with_reducible exact H2_) | (have H2_ := (Option.bind_some _ _).symm.trans H; with_reducible exact H2_) | with_reducible exact H | (rw [hy227]; exact H) | exact H
     have Ny227 := Aside0.mk hy227
     clear hy227
     have H' := Aside0.mk H
     clear H
     go_enter Try.func29, Try.ntmps29
     go_wp2_with (first | ((with_reducible refine gate_dst (N := 12) rfl ?_); refine Kd.S_make (Kd.slice 3 (Kd.int .i64)) _ 23 rfl (N := 12) rfl 58 _ _ rfl ji3 rfl rfl Try.underlying58 (.slice none 0 0) 24 info23 rfl (by decide) (by omega) [] (ok := fun _ => True) (okp := fun _ => True) ⟨_, rfl, Kd.R_nil _ _ _ _ _⟩ (fun _ hk => hk) trivial (of_decide_eq_true (by first | (with_reducible assumption) | assumption)) (Nat.le_trans (Nat.mul_le_mul_right _ (of_decide_eq_true (by first | (with_reducible assumption) | assumption) : ji3.toNat ≤ 11728124029610)) (by omega)) (Below.refl _ _) (Nat.le_refl _) ?_; intro v228 w6 ho7 hb hg_ hnew_; clear hg_ hnew_; (first | rw [← Ny227.out] at ho7 | (simp only [Int.reduceToNat] at ho7; rw [← Ny227.out] at ho7)); have n0_ := Aside0.mk (Kd.S_lower ho7 (below_size (hbw HB.out))); have n1_ := Aside0.mk (below_step (hbw HB.out) hb); clear HB; have HO229 := n0_; have HB := n1_; clear n0_ n1_; clear hb ho7))
     repeat (go_quiet (first | ((with_reducible refine gate_dst (N := 12) rfl ?_); refine Kd.S_make (Kd.slice 3 (Kd.int .i64)) _ 23 rfl (N := 12) rfl 58 _ _ rfl ji3 rfl rfl Try.underlying58 (.slice none 0 0) 24 info23 rfl (by decide) (by omega) [] (ok := fun _ => True) (okp := fun _ => True) ⟨_, rfl, Kd.R_nil _ _ _ _ _⟩ (fun _ hk => hk) trivial (of_decide_eq_true (by first | (with_reducible assumption) | assumption)) (Nat.le_trans (Nat.mul_le_mul_right _ (of_decide_eq_true (by first | (with_reducible assumption) | assumption) : ji3.toNat ≤ 11728124029610)) (by omega)) (Below.refl _ _) (Nat.le_refl _) ?_; intro v228 w6 ho7 hb hg_ hnew_; clear hg_ hnew_; (first | rw [← Ny227.out] at ho7 | (simp only [Int.reduceToNat] at ho7; rw [← Ny227.out] at ho7)); have n0_ := Aside0.mk (Kd.S_lower ho7 (below_size (hbw HB.out))); have n1_ := Aside0.mk (below_step (hbw HB.out) hb); clear HB; have HO229 := n0_; have HB := n1_; clear n0_ n1_; clear hb ho7)); try go_wp2_with (first | ((with_reducible refine gate_dst (N := 12) rfl ?_); refine Kd.S_make (Kd.slice 3 (Kd.int .i64)) _ 23 rfl (N := 12) rfl 58 _ _ rfl ji3 rfl rfl Try.underlying58 (.slice none 0 0) 24 info23 rfl (by decide) (by omega) [] (ok := fun _ => True) (okp := fun _ => True) ⟨_, rfl, Kd.R_nil _ _ _ _ _⟩ (fun _ hk => hk) trivial (of_decide_eq_true (by first | (with_reducible assumption) | assumption)) (Nat.le_trans (Nat.mul_le_mul_right _ (of_decide_eq_true (by first | (with_reducible assumption) | assumption) : ji3.toNat ≤ 11728124029610)) (by omega)) (Below.refl _ _) (Nat.le_refl _) ?_; intro v228 w6 ho7 hb hg_ hnew_; clear hg_ hnew_; (first | rw [← Ny227.out] at ho7 | (simp only [Int.reduceToNat] at ho7; rw [← Ny227.out] at ho7)); have n0_ := Aside0.mk (Kd.S_lower ho7 (below_size (hbw HB.out))); have n1_ := Aside0.mk (below_step (hbw HB.out) hb); clear HB; have HO229 := n0_; have HB := n1_; clear n0_ n1_; clear hb ho7)))
     go_loopg [6] k (fun kq v6 w' => ∃ (x5_1 : List (List Int)) (x6_1 : Int), v6 = .int .i64 x6_1 ∧ Aside0 (changeforgeref1_suffixes.l0 kq l0 l1 x5_1 x6_1 = some r) ∧ Aside0 (kq ≤ k) ∧ Aside0 (Kd.S (Kd.slice 3 (Kd.int .i64)) 23 w' w.heap.size (fun _ => True) v228 x5_1) ∧ Aside0 (Below w.heap.size w w'))
     case atStart => exact ⟨(y227), ((l1.length : Int)), (by first | rfl | (simp; done) | (simp [*]; done)), H', ⟨Nat.le_refl _⟩, ⟨by (with_reducible repeat (first | apply Kd.S_alloc | apply Kd.S_drewN | apply Kd.S_drew)); exact HO229.out⟩, ⟨by repeat (first | (with_reducible first | exact HB.out | apply below_alloc | apply pw_below_drewN | apply below_drew1) | exact HB.out)⟩⟩
     clear H'
     try clear c1
     try clear c2
     try clear p2
     try clear c4
     try clear c4b0
     try clear c4b1
     try clear c5
     try clear c5b0
     try clear c5b1
     try clear p6
     obtain ⟨x5_1, x6_1, rfl, HA, HK1, HO_5, HB⟩ := hrel
     cases gk with
     | zero => exact absurd HA.out (by simp [changeforgeref1_suffixes.l0])
     | succ k1 =>
     have H := HA.out
     clear HA
     simp only [changeforgeref1_suffixes.l0] at H
     by_cases c8 : x6_1 ≥ 0
     · rw [if_pos c8] at H
       have c8b0 : decide (0 ≤ x6_1) = true := decide_eq_true c8
       clear c8
       obtain ⟨ji9, hji9⟩ : ∃ j_ : Int, (wrap64 ((l0.length : Int) + 1)) = j_ := ⟨_, rfl⟩
       replace H : (if 0 ≤ (ji9) then (if (ji9 : Int).toNat ≤ 35184372088832 then (if 0 ≤ x6_1 then (if x6_1 < (x5_1.length : Int) then ((some (x5_1.set (x6_1 : Int).toNat (List.replicate (ji9 : Int).toNat 0) : List (List Int))).bind fun y233 => (if x6_1 = (l1.length : Int) then (changeforgeref1_suffixes.l0 k1 l0 l1 y233 (wrap64 (x6_1 - 1))) else (changeforgeref1_suffixes.l1 k1 l0 l1 y233 x6_1 (wrap64 ((l0.length : Int) - 1))))) else (none)) else (none)) else (none)) else (none)) = some r := by first | (rw [hji9] at H; exact H) | (simp only [hji9] at H ⊢; exact H)
       have hji9w : (IntKind.i64.wrap ((l0.length : Int) + 1)) = ji9 := (i64_w _).trans hji9
       by_cases c10 : 0 ≤ (ji9)
       · rw [if_pos c10] at H
         have c10b0 := eq_true c10
         have c10b1 : decide (0 ≤ (ji9)) = true := decide_eq_true c10
         clear c10
         by_cases c11 : (ji9 : Int).toNat ≤ 35184372088832
         · rw [if_pos c11] at H
           have c11b0 := eq_true c11
           have c11b1 : decide ((ji9 : Int).toNat ≤ 35184372088832) = true := decide_eq_true c11
           clear c11
           obtain ⟨y230, hy230⟩ : ∃ y_ : List Int, y_ = (List.replicate (ji9 : Int).toNat 0) := ⟨_, rfl⟩
           replace H : (if 0 ≤ x6_1 then (if x6_1 < (x5_1.length : Int) then ((some (x5_1.set (x6_1 : Int).toNat y230 : List (List Int))).bind fun y233 => (if x6_1 = (l1.length : Int) then (changeforgeref1_suffixes.l0 k1 l0 l1 y233 (wrap64 (x6_1 - 1))) else (changeforgeref1_suffixes.l1 k1 l0 l1 y233 x6_1 (wrap64 ((l0.length : Int) - 1))))) else (none)) else (none)) = some r := by first | (rw [hy230]; with_reducible exact H) | (have H2_ := (Option.bind_some _ _).symm.trans H; rw [hy230]; with_reducible exact H2_) | (have H2_ := (Option.bind_some _ _).symm.trans H; with_reducible exact H2_) | with_reducible exact H | (rw [hy230]; exact H) | exact H
           have Ny230 := Aside0.mk hy230
           clear hy230
           by_cases c12 : 0 ≤ x6_1
           · rw [if_pos c12] at H
             have c12b0 : decide (0 ≤ x6_1) = true := decide_eq_true c12
             clear c12
             by_cases c13 : x6_1 < (x5_1.length : Int)
             · rw [if_pos c13] at H
               have c13b0 : decide (x6_1 < (x5_1.length : Int)) = true := decide_eq_true c13
               clear c13
               obtain ⟨y233, hy233⟩ : ∃ y_ : List (List Int), y_ = (x5_1.set (x6_1 : Int).toNat y230) := ⟨_, rfl⟩
               replace H : (if x6_1 = (l1.length : Int) then (changeforgeref1_suffixes.l0 k1 l0 l1 y233 (wrap64 (x6_1 - 1))) else (changeforgeref1_suffixes.l1 k1 l0 l1 y233 x6_1 (wrap64 ((l0.length : Int) - 1)))) = some r := by first | (rw [hy233]; with_reducible exact H) | (have H2_ := (Option.bind_some _ _).symm.trans H; rw [hy233]; with_reducible exact H2_) | (have H2_ := (Option.bind_some _ _).symm.trans H; with_reducible exact H2_) | with_reducible exact H | (rw [hy233]; exact H) | exact H
               have Ny233 := Aside0.mk hy233
               clear hy233
               by_cases c15 : x6_1 = (l1.length : Int)
               · rw [if_pos c15] at H
                 have c15b0 : (x6_1 == (l1.length : Int)) = true := beq_iff_eq.mpr c15
                 have c15b1 : (x6_1 != (l1.length : Int)) = false := bne_eq_false_iff_eq.mpr c15
                 clear c15
                 have H' := Aside0.mk H
                 clear H
                 go_wp2_with (first | ((with_reducible refine gate_dst (N := 24) rfl ?_); refine Kd.R_make (Kd.int .i64) _ 3 rfl (N := 24) rfl 23 _ _ rfl ji9 rfl rfl Try.underlying23 (.int .i64 0) 8 info3 rfl (by decide) (by omega) 0 (ok := fun _ => True) (okp := fun _ => True) rfl (fun _ hk => hk) trivial (of_decide_eq_true (by first | (with_reducible assumption) | assumption)) (Nat.le_trans (Nat.mul_le_mul_right _ (of_decide_eq_true (by first | (with_reducible assumption) | assumption) : ji9.toNat ≤ 35184372088832)) (by omega)) (Below.refl _ _) (Nat.le_refl _) ?_; intro v231 w16 ho17 hb hg_ hnew_; clear hg_ hnew_; (first | rw [← Ny230.out] at ho17 | (simp only [Int.reduceToNat] at ho17; rw [← Ny230.out] at ho17)); have n0_ := Aside0.mk (Kd.S_elder' (kdS HO_5.out) (Kd.R_base ho17) hb); have n1_ := Aside0.mk (Kd.R_lower ho17 (below_size (hbw HB.out))); have n2_ := Aside0.mk (below_step (hbw HB.out) hb); clear HO_5; clear HB; have HO_5 := n0_; have HO232 := n1_; have HB := n2_; clear n0_ n1_ n2_; clear hb ho17; have p14 : 0 ≤ (x6_1 : Int) := of_decide_eq_true (by first | (with_reducible assumption) | assumption); have q14 : (x6_1 : Int) < ((x5_1.length : Int) : Int) := of_decide_eq_true (by first | (with_reducible assumption) | assumption); obtain ⟨go14, co14, eo14, gb14, gl14, cl14, HG14⟩ := Kd.S_form HO_5.out (by omega); (first | cases eo14 | (injection eo14 with ea_ en_ ec_; (first | subst ea_ | (injection ea_ with ea_; subst ea_)); subst ec_; clear en_)); have GB14 := Aside0.mk gb14; have GG14 := Aside0.mk HG14; clear gb14 gl14 HG14; obtain ⟨_, ce14, hcl14, hM14, hcc14, hfr14, _, _⟩ := Kd.S_elem HO_5.out [] (x6_1 : Int) p14 q14; obtain ⟨ve14_0, rfl, ge14_0⟩ := id hM14; have hx14_0 := hcc14 0 _ rfl; have hf14_0 := hfr14 0; (try simp only [show ((Kd.slice 3 (Kd.int .i64))).sz = 1 from rfl, Nat.mul_one, Nat.add_zero] at hx14_0); (try simp only [show ((Kd.slice 3 (Kd.int .i64))).sz = 1 from rfl, Nat.mul_one, Nat.add_zero] at hf14_0); clear hcl14 hcc14 hfr14 hM14; replace p14 := eq_true p14; replace q14 := eq_true q14; have n_ := Aside0.mk (Kd.S_mono (ok' := (fun k_ => some k_ ≠ (v231 : Value).ownBlock)) HO_5.out (fun k_ hk => hk.2)); clear HO_5; have HO_5 := n_; clear n_; have HX18 := Aside0.mk (show Kd.S (Kd.slice 3 (Kd.int .i64)) 23 w16 w.heap.size (fun k_ => ((fun _ => True)) k_ ∧ ¬ ((fun k_ => some k_ = (v231 : Value).ownBlock)) k_) (.slice (some ⟨go14, 0, none⟩) x5_1.length co14) x5_1 from (by (with_reducible repeat (first | apply Kd.S_alloc | apply Kd.S_drewN | apply Kd.S_drew)); exact Kd.S_mono HO_5.out (fun k_ hk => ⟨trivial, fun e_ => hk e_⟩))); obtain ⟨oki18, ce18, hcl18, hM18, hcc18, hfr18, hoki18, hH18⟩ := Kd.S_elem HX18.out [] (x6_1 : Int) (of_decide_eq_true (by first | (with_reducible assumption) | assumption)) (by have h_ : (x6_1 : Int) < ((x5_1.length : Int) : Int) := of_decide_eq_true (by first | (with_reducible assumption) | assumption); first | exact h_ | (have e_ := (Kd.S_reads' HO_5.out).1; omega) | simpa using h_); obtain ⟨ve18_0, rfl, ge18_0⟩ := id hM18; have HP18 := Kd.S_seg hH18 (of_decide_eq_true (by first | (with_reducible assumption) | assumption)) (by have h_ : (x6_1 : Int) < ((x5_1.length : Int) : Int) := of_decide_eq_true (by first | (with_reducible assumption) | assumption); first | exact h_ | (have e_ := (Kd.S_reads' HO_5.out).1; omega) | simpa using h_) (seg := [v231]) (j := 0) (show 1 ≤ 1 from by decide) (x' := y230) (Kd.M_row (Kd.R_mono (Kd.R_tight rfl (Kd.R_mono (ok' := fun k_ => ((fun _ => True)) k_ ∧ k_ ≠ go14) (Kd.R_apart' (HO232.out) (Kd.S_typed HO_5.out) (by decide)) (fun k_ hk => ⟨trivial, fun e_ => (hk.2) (by rw [e_]; rfl)⟩))) (fun _ h_ => Or.inr (h_)))) (fun _ hk => hk) (fun k_ hk_ => ((Kd.R_mono (ok' := fun k_ => ((fun _ => True)) k_ ∧ k_ ≠ go14) (Kd.R_apart' (HO232.out) (Kd.S_typed HO_5.out) (by decide)) (fun k_ hk => ⟨trivial, fun e_ => (hk.2) (by rw [e_]; rfl)⟩))).1 k_ hk_.symm); have hx18_0 := hcc18 0 _ rfl; (try simp only [show ((Kd.slice 3 (Kd.int .i64))).sz = 1 from rfl, Nat.mul_one, Nat.add_zero] at hx18_0); have hf18_0 := hfr18 0; (try simp only [show ((Kd.slice 3 (Kd.int .i64))).sz = 1 from rfl, Nat.mul_one, Nat.add_zero] at hf18_0); clear hcl18 hcc18 hfr18 hM18 hoki18 hH18; (try simp only [show ((Kd.slice 3 (Kd.int .i64))).sz = 1 from rfl, Nat.mul_one, Nat.add_zero] at HP18)) | ((with_reducible refine gate_store (t := 23) (p := 25) rfl ?_); (try (rw [drewN_self w16]; generalize hq_ : World.drewN w16 _ = w16; have n0_ := Aside0.mk (Kd.S_at hq_ HO_5.out); have n1_ := Aside0.mk (below_at hq_ HB.out); clear hq_ HO_5 HB; have HO_5 := n0_; have HB := n1_; clear n0_ n1_; (try (have n_ := Aside0.mk (Kd.S_mono (ok' := (fun k_ => some k_ ≠ (v231 : Value).ownBlock)) HO_5.out (fun k_ hk => hk.2)); clear HO_5; have HO_5 := n_; clear n_)); (try (have HX18 := Aside0.mk (show Kd.S (Kd.slice 3 (Kd.int .i64)) 23 w16 w.heap.size (fun k_ => ((fun _ => True)) k_ ∧ ¬ ((fun k_ => some k_ = (v231 : Value).ownBlock)) k_) (.slice (some ⟨go14, 0, none⟩) x5_1.length co14) x5_1 from (by (with_reducible repeat (first | apply Kd.S_alloc | apply Kd.S_drewN | apply Kd.S_drew)); exact Kd.S_mono HO_5.out (fun k_ hk => ⟨trivial, fun e_ => hk e_⟩))))); (try (obtain ⟨oki18, ce18, hcl18, hM18, hcc18, hfr18, hoki18, hH18⟩ := Kd.S_elem HX18.out [] (x6_1 : Int) (of_decide_eq_true (by first | (with_reducible assumption) | assumption)) (by have h_ : (x6_1 : Int) < ((x5_1.length : Int) : Int) := of_decide_eq_true (by first | (with_reducible assumption) | assumption); first | exact h_ | (have e_ := (Kd.S_reads' HO_5.out).1; omega) | simpa using h_))); (try (obtain ⟨ve18_0, rfl, ge18_0⟩ := id hM18)); (try (have HP18 := Kd.S_seg hH18 (of_decide_eq_true (by first | (with_reducible assumption) | assumption)) (by have h_ : (x6_1 : Int) < ((x5_1.length : Int) : Int) := of_decide_eq_true (by first | (with_reducible assumption) | assumption); first | exact h_ | (have e_ := (Kd.S_reads' HO_5.out).1; omega) | simpa using h_) (seg := [v231]) (j := 0) (show 1 ≤ 1 from by decide) (x' := y230) (Kd.M_row (Kd.R_mono (Kd.R_tight rfl (Kd.R_mono (ok' := fun k_ => ((fun _ => True)) k_ ∧ k_ ≠ go14) (Kd.R_apart' (HO232.out) (Kd.S_typed HO_5.out) (by decide)) (fun k_ hk => ⟨trivial, fun e_ => (hk.2) (by rw [e_]; rfl)⟩))) (fun _ h_ => Or.inr (h_)))) (fun _ hk => hk) (fun k_ hk_ => ((Kd.R_mono (ok' := fun k_ => ((fun _ => True)) k_ ∧ k_ ≠ go14) (Kd.R_apart' (HO232.out) (Kd.S_typed HO_5.out) (by decide)) (fun k_ hk => ⟨trivial, fun e_ => (hk.2) (by rw [e_]; rfl)⟩))).1 k_ hk_.symm))); (try (have hx18_0 := hcc18 0 _ rfl)); (try (try simp only [show ((Kd.slice 3 (Kd.int .i64))).sz = 1 from rfl, Nat.mul_one, Nat.add_zero] at hx18_0)); (try (have hf18_0 := hfr18 0)); (try (try simp only [show ((Kd.slice 3 (Kd.int .i64))).sz = 1 from rfl, Nat.mul_one, Nat.add_zero] at hf18_0)); (try (clear hcl18 hcc18 hfr18 hM18 hoki18 hH18)); (try (try simp only [show ((Kd.slice 3 (Kd.int .i64))).sz = 1 from rfl, Nat.mul_one, Nat.add_zero] at HP18)))); refine store_event (t := 23) (p := 25) (v := ?vo_w19) (w1 := (w16.setCell ⟨go14, (x6_1 : Int).toNat, none⟩ (v231))) ?hg ?ho ?hn ?hr ?_; (case ho => rfl); (case hg => rfl); (case hn => rfl); (case hr => first | (go_simp; done) | (go_simp; rfl) | (obtain ⟨_, _, hv_⟩ := Kd.R_slice HO232.out; subst hv_; go_simp; done)); intro w19 hw; have hg : w16.grownBy w19 (some go14) := (by rw [hw]; exact HP18.2); have hp_ : Kd.S (Kd.slice 3 (Kd.int .i64)) 23 w19 w.heap.size (fun _ => True) (.slice (some ⟨go14, 0, none⟩) x5_1.length co14) y233 := (by rw [hw, Ny233.out]; exact HP18.1); clear HP18; have n0_ := Aside0.mk (hp_); have n1_ := Aside0.mk ((by rw [hw]; exact below_set (HB.out) GB14.out : Below w.heap.size w w19)); clear HO_5; clear HB; clear HO232; have HO_5 := n0_; have HB := n1_; clear n0_ n1_; clear hg hw hp_))
                 repeat (go_quiet (first | ((with_reducible refine gate_dst (N := 24) rfl ?_); refine Kd.R_make (Kd.int .i64) _ 3 rfl (N := 24) rfl 23 _ _ rfl ji9 rfl rfl Try.underlying23 (.int .i64 0) 8 info3 rfl (by decide) (by omega) 0 (ok := fun _ => True) (okp := fun _ => True) rfl (fun _ hk => hk) trivial (of_decide_eq_true (by first | (with_reducible assumption) | assumption)) (Nat.le_trans (Nat.mul_le_mul_right _ (of_decide_eq_true (by first | (with_reducible assumption) | assumption) : ji9.toNat ≤ 35184372088832)) (by omega)) (Below.refl _ _) (Nat.le_refl _) ?_; intro v231 w16 ho17 hb hg_ hnew_; clear hg_ hnew_; (first | rw [← Ny230.out] at ho17 | (simp only [Int.reduceToNat] at ho17; rw [← Ny230.out] at ho17)); have n0_ := Aside0.mk (Kd.S_elder' (kdS HO_5.out) (Kd.R_base ho17) hb); have n1_ := Aside0.mk (Kd.R_lower ho17 (below_size (hbw HB.out))); have n2_ := Aside0.mk (below_step (hbw HB.out) hb); clear HO_5; clear HB; have HO_5 := n0_; have HO232 := n1_; have HB := n2_; clear n0_ n1_ n2_; clear hb ho17; have p14 : 0 ≤ (x6_1 : Int) := of_decide_eq_true (by first | (with_reducible assumption) | assumption); have q14 : (x6_1 : Int) < ((x5_1.length : Int) : Int) := of_decide_eq_true (by first | (with_reducible assumption) | assumption); obtain ⟨go14, co14, eo14, gb14, gl14, cl14, HG14⟩ := Kd.S_form HO_5.out (by omega); (first | cases eo14 | (injection eo14 with ea_ en_ ec_; (first | subst ea_ | (injection ea_ with ea_; subst ea_)); subst ec_; clear en_)); have GB14 := Aside0.mk gb14; have GG14 := Aside0.mk HG14; clear gb14 gl14 HG14; obtain ⟨_, ce14, hcl14, hM14, hcc14, hfr14, _, _⟩ := Kd.S_elem HO_5.out [] (x6_1 : Int) p14 q14; obtain ⟨ve14_0, rfl, ge14_0⟩ := id hM14; have hx14_0 := hcc14 0 _ rfl; have hf14_0 := hfr14 0; (try simp only [show ((Kd.slice 3 (Kd.int .i64))).sz = 1 from rfl, Nat.mul_one, Nat.add_zero] at hx14_0); (try simp only [show ((Kd.slice 3 (Kd.int .i64))).sz = 1 from rfl, Nat.mul_one, Nat.add_zero] at hf14_0); clear hcl14 hcc14 hfr14 hM14; replace p14 := eq_true p14; replace q14 := eq_true q14; have n_ := Aside0.mk (Kd.S_mono (ok' := (fun k_ => some k_ ≠ (v231 : Value).ownBlock)) HO_5.out (fun k_ hk => hk.2)); clear HO_5; have HO_5 := n_; clear n_; have HX18 := Aside0.mk (show Kd.S (Kd.slice 3 (Kd.int .i64)) 23 w16 w.heap.size (fun k_ => ((fun _ => True)) k_ ∧ ¬ ((fun k_ => some k_ = (v231 : Value).ownBlock)) k_) (.slice (some ⟨go14, 0, none⟩) x5_1.length co14) x5_1 from (by (with_reducible repeat (first | apply Kd.S_alloc | apply Kd.S_drewN | apply Kd.S_drew)); exact Kd.S_mono HO_5.out (fun k_ hk => ⟨trivial, fun e_ => hk e_⟩))); obtain ⟨oki18, ce18, hcl18, hM18, hcc18, hfr18, hoki18, hH18⟩ := Kd.S_elem HX18.out [] (x6_1 : Int) (of_decide_eq_true (by first | (with_reducible assumption) | assumption)) (by have h_ : (x6_1 : Int) < ((x5_1.length : Int) : Int) := of_decide_eq_true (by first | (with_reducible assumption) | assumption); first | exact h_ | (have e_ := (Kd.S_reads' HO_5.out).1; omega) | simpa using h_); obtain ⟨ve18_0, rfl, ge18_0⟩ := id hM18; have HP18 := Kd.S_seg hH18 (of_decide_eq_true (by first | (with_reducible assumption) | assumption)) (by have h_ : (x6_1 : Int) < ((x5_1.length : Int) : Int) := of_decide_eq_true (by first | (with_reducible assumption) | assumption); first | exact h_ | (have e_ := (Kd.S_reads' HO_5.out).1; omega) | simpa using h_) (seg := [v231]) (j := 0) (show 1 ≤ 1 from by decide) (x' := y230) (Kd.M_row (Kd.R_mono (Kd.R_tight rfl (Kd.R_mono (ok' := fun k_ => ((fun _ => True)) k_ ∧ k_ ≠ go14) (Kd.R_apart' (HO232.out) (Kd.S_typed HO_5.out) (by decide)) (fun k_ hk => ⟨trivial, fun e_ => (hk.2) (by rw [e_]; rfl)⟩))) (fun _ h_ => Or.inr (h_)))) (fun _ hk => hk) (fun k_ hk_ => ((Kd.R_mono (ok' := fun k_ => ((fun _ => True)) k_ ∧ k_ ≠ go14) (Kd.R_apart' (HO232.out) (Kd.S_typed HO_5.out) (by decide)) (fun k_ hk => ⟨trivial, fun e_ => (hk.2) (by rw [e_]; rfl)⟩))).1 k_ hk_.symm); have hx18_0 := hcc18 0 _ rfl; (try simp only [show ((Kd.slice 3 (Kd.int .i64))).sz = 1 from rfl, Nat.mul_one, Nat.add_zero] at hx18_0); have hf18_0 := hfr18 0; (try simp only [show ((Kd.slice 3 (Kd.int .i64))).sz = 1 from rfl, Nat.mul_one, Nat.add_zero] at hf18_0); clear hcl18 hcc18 hfr18 hM18 hoki18 hH18; (try simp only [show ((Kd.slice 3 (Kd.int .i64))).sz = 1 from rfl, Nat.mul_one, Nat.add_zero] at HP18)) | ((with_reducible refine gate_store (t := 23) (p := 25) rfl ?_); (try (rw [drewN_self w16]; generalize hq_ : World.drewN w16 _ = w16; have n0_ := Aside0.mk (Kd.S_at hq_ HO_5.out); have n1_ := Aside0.mk (below_at hq_ HB.out); clear hq_ HO_5 HB; have HO_5 := n0_; have HB := n1_; clear n0_ n1_; (try (have n_ := Aside0.mk (Kd.S_mono (ok' := (fun k_ => some k_ ≠ (v231 : Value).ownBlock)) HO_5.out (fun k_ hk => hk.2)); clear HO_5; have HO_5 := n_; clear n_)); (try (have HX18 := Aside0.mk (show Kd.S (Kd.slice 3 (Kd.int .i64)) 23 w16 w.heap.size (fun k_ => ((fun _ => True)) k_ ∧ ¬ ((fun k_ => some k_ = (v231 : Value).ownBlock)) k_) (.slice (some ⟨go14, 0, none⟩) x5_1.length co14) x5_1 from (by (with_reducible repeat (first | apply Kd.S_alloc | apply Kd.S_drewN | apply Kd.S_drew)); exact Kd.S_mono HO_5.out (fun k_ hk => ⟨trivial, fun e_ => hk e_⟩))))); (try (obtain ⟨oki18, ce18, hcl18, hM18, hcc18, hfr18, hoki18, hH18⟩ := Kd.S_elem HX18.out [] (x6_1 : Int) (of_decide_eq_true (by first | (with_reducible assumption) | assumption)) (by have h_ : (x6_1 : Int) < ((x5_1.length : Int) : Int) := of_decide_eq_true (by first | (with_reducible assumption) | assumption); first | exact h_ | (have e_ := (Kd.S_reads' HO_5.out).1; omega) | simpa using h_))); (try (obtain ⟨ve18_0, rfl, ge18_0⟩ := id hM18)); (try (have HP18 := Kd.S_seg hH18 (of_decide_eq_true (by first | (with_reducible assumption) | assumption)) (by have h_ : (x6_1 : Int) < ((x5_1.length : Int) : Int) := of_decide_eq_true (by first | (with_reducible assumption) | assumption); first | exact h_ | (have e_ := (Kd.S_reads' HO_5.out).1; omega) | simpa using h_) (seg := [v231]) (j := 0) (show 1 ≤ 1 from by decide) (x' := y230) (Kd.M_row (Kd.R_mono (Kd.R_tight rfl (Kd.R_mono (ok' := fun k_ => ((fun _ => True)) k_ ∧ k_ ≠ go14) (Kd.R_apart' (HO232.out) (Kd.S_typed HO_5.out) (by decide)) (fun k_ hk => ⟨trivial, fun e_ => (hk.2) (by rw [e_]; rfl)⟩))) (fun _ h_ => Or.inr (h_)))) (fun _ hk => hk) (fun k_ hk_ => ((Kd.R_mono (ok' := fun k_ => ((fun _ => True)) k_ ∧ k_ ≠ go14) (Kd.R_apart' (HO232.out) (Kd.S_typed HO_5.out) (by decide)) (fun k_ hk => ⟨trivial, fun e_ => (hk.2) (by rw [e_]; rfl)⟩))).1 k_ hk_.symm))); (try (have hx18_0 := hcc18 0 _ rfl)); (try (try simp only [show ((Kd.slice 3 (Kd.int .i64))).sz = 1 from rfl, Nat.mul_one, Nat.add_zero] at hx18_0)); (try (have hf18_0 := hfr18 0)); (try (try simp only [show ((Kd.slice 3 (Kd.int .i64))).sz = 1 from rfl, Nat.mul_one, Nat.add_zero] at hf18_0)); (try (clear hcl18 hcc18 hfr18 hM18 hoki18 hH18)); (try (try simp only [show ((Kd.slice 3 (Kd.int .i64))).sz = 1 from rfl, Nat.mul_one, Nat.add_zero] at HP18)))); refine store_event (t := 23) (p := 25) (v := ?vo_w19) (w1 := (w16.setCell ⟨go14, (x6_1 : Int).toNat, none⟩ (v231))) ?hg ?ho ?hn ?hr ?_; (case ho => rfl); (case hg => rfl); (case hn => rfl); (case hr => first | (go_simp; done) | (go_simp; rfl) | (obtain ⟨_, _, hv_⟩ := Kd.R_slice HO232.out; subst hv_; go_simp; done)); intro w19 hw; have hg : w16.grownBy w19 (some go14) := (by rw [hw]; exact HP18.2); have hp_ : Kd.S (Kd.slice 3 (Kd.int .i64)) 23 w19 w.heap.size (fun _ => True) (.slice (some ⟨go14, 0, none⟩) x5_1.length co14) y233 := (by rw [hw, Ny233.out]; exact HP18.1); clear HP18; have n0_ := Aside0.mk (hp_); have n1_ := Aside0.mk ((by rw [hw]; exact below_set (HB.out) GB14.out : Below w.heap.size w w19)); clear HO_5; clear HB; clear HO232; have HO_5 := n0_; have HB := n1_; clear n0_ n1_; clear hg hw hp_)); try go_wp2_with (first | ((with_reducible refine gate_dst (N := 24) rfl ?_); refine Kd.R_make (Kd.int .i64) _ 3 rfl (N := 24) rfl 23 _ _ rfl ji9 rfl rfl Try.underlying23 (.int .i64 0) 8 info3 rfl (by decide) (by omega) 0 (ok := fun _ => True) (okp := fun _ => True) rfl (fun _ hk => hk) trivial (of_decide_eq_true (by first | (with_reducible assumption) | assumption)) (Nat.le_trans (Nat.mul_le_mul_right _ (of_decide_eq_true (by first | (with_reducible assumption) | assumption) : ji9.toNat ≤ 35184372088832)) (by omega)) (Below.refl _ _) (Nat.le_refl _) ?_; intro v231 w16 ho17 hb hg_ hnew_; clear hg_ hnew_; (first | rw [← Ny230.out] at ho17 | (simp only [Int.reduceToNat] at ho17; rw [← Ny230.out] at ho17)); have n0_ := Aside0.mk (Kd.S_elder' (kdS HO_5.out) (Kd.R_base ho17) hb); have n1_ := Aside0.mk (Kd.R_lower ho17 (below_size (hbw HB.out))); have n2_ := Aside0.mk (below_step (hbw HB.out) hb); clear HO_5; clear HB; have HO_5 := n0_; have HO232 := n1_; have HB := n2_; clear n0_ n1_ n2_; clear hb ho17; have p14 : 0 ≤ (x6_1 : Int) := of_decide_eq_true (by first | (with_reducible assumption) | assumption); have q14 : (x6_1 : Int) < ((x5_1.length : Int) : Int) := of_decide_eq_true (by first | (with_reducible assumption) | assumption); obtain ⟨go14, co14, eo14, gb14, gl14, cl14, HG14⟩ := Kd.S_form HO_5.out (by omega); (first | cases eo14 | (injection eo14 with ea_ en_ ec_; (first | subst ea_ | (injection ea_ with ea_; subst ea_)); subst ec_; clear en_)); have GB14 := Aside0.mk gb14; have GG14 := Aside0.mk HG14; clear gb14 gl14 HG14; obtain ⟨_, ce14, hcl14, hM14, hcc14, hfr14, _, _⟩ := Kd.S_elem HO_5.out [] (x6_1 : Int) p14 q14; obtain ⟨ve14_0, rfl, ge14_0⟩ := id hM14; have hx14_0 := hcc14 0 _ rfl; have hf14_0 := hfr14 0; (try simp only [show ((Kd.slice 3 (Kd.int .i64))).sz = 1 from rfl, Nat.mul_one, Nat.add_zero] at hx14_0); (try simp only [show ((Kd.slice 3 (Kd.int .i64))).sz = 1 from rfl, Nat.mul_one, Nat.add_zero] at hf14_0); clear hcl14 hcc14 hfr14 hM14; replace p14 := eq_true p14; replace q14 := eq_true q14; have n_ := Aside0.mk (Kd.S_mono (ok' := (fun k_ => some k_ ≠ (v231 : Value).ownBlock)) HO_5.out (fun k_ hk => hk.2)); clear HO_5; have HO_5 := n_; clear n_; have HX18 := Aside0.mk (show Kd.S (Kd.slice 3 (Kd.int .i64)) 23 w16 w.heap.size (fun k_ => ((fun _ => True)) k_ ∧ ¬ ((fun k_ => some k_ = (v231 : Value).ownBlock)) k_) (.slice (some ⟨go14, 0, none⟩) x5_1.length co14) x5_1 from (by (with_reducible repeat (first | apply Kd.S_alloc | apply Kd.S_drewN | apply Kd.S_drew)); exact Kd.S_mono HO_5.out (fun k_ hk => ⟨trivial, fun e_ => hk e_⟩))); obtain ⟨oki18, ce18, hcl18, hM18, hcc18, hfr18, hoki18, hH18⟩ := Kd.S_elem HX18.out [] (x6_1 : Int) (of_decide_eq_true (by first | (with_reducible assumption) | assumption)) (by have h_ : (x6_1 : Int) < ((x5_1.length : Int) : Int) := of_decide_eq_true (by first | (with_reducible assumption) | assumption); first | exact h_ | (have e_ := (Kd.S_reads' HO_5.out).1; omega) | simpa using h_); obtain ⟨ve18_0, rfl, ge18_0⟩ := id hM18; have HP18 := Kd.S_seg hH18 (of_decide_eq_true (by first | (with_reducible assumption) | assumption)) (by have h_ : (x6_1 : Int) < ((x5_1.length : Int) : Int) := of_decide_eq_true (by first | (with_reducible assumption) | assumption); first | exact h_ | (have e_ := (Kd.S_reads' HO_5.out).1; omega) | simpa using h_) (seg := [v231]) (j := 0) (show 1 ≤ 1 from by decide) (x' := y230) (Kd.M_row (Kd.R_mono (Kd.R_tight rfl (Kd.R_mono (ok' := fun k_ => ((fun _ => True)) k_ ∧ k_ ≠ go14) (Kd.R_apart' (HO232.out) (Kd.S_typed HO_5.out) (by decide)) (fun k_ hk => ⟨trivial, fun e_ => (hk.2) (by rw [e_]; rfl)⟩))) (fun _ h_ => Or.inr (h_)))) (fun _ hk => hk) (fun k_ hk_ => ((Kd.R_mono (ok' := fun k_ => ((fun _ => True)) k_ ∧ k_ ≠ go14) (Kd.R_apart' (HO232.out) (Kd.S_typed HO_5.out) (by decide)) (fun k_ hk => ⟨trivial, fun e_ => (hk.2) (by rw [e_]; rfl)⟩))).1 k_ hk_.symm); have hx18_0 := hcc18 0 _ rfl; (try simp only [show ((Kd.slice 3 (Kd.int .i64))).sz = 1 from rfl, Nat.mul_one, Nat.add_zero] at hx18_0); have hf18_0 := hfr18 0; (try simp only [show ((Kd.slice 3 (Kd.int .i64))).sz = 1 from rfl, Nat.mul_one, Nat.add_zero] at hf18_0); clear hcl18 hcc18 hfr18 hM18 hoki18 hH18; (try simp only [show ((Kd.slice 3 (Kd.int .i64))).sz = 1 from rfl, Nat.mul_one, Nat.add_zero] at HP18)) | ((with_reducible refine gate_store (t := 23) (p := 25) rfl ?_); (try (rw [drewN_self w16]; generalize hq_ : World.drewN w16 _ = w16; have n0_ := Aside0.mk (Kd.S_at hq_ HO_5.out); have n1_ := Aside0.mk (below_at hq_ HB.out); clear hq_ HO_5 HB; have HO_5 := n0_; have HB := n1_; clear n0_ n1_; (try (have n_ := Aside0.mk (Kd.S_mono (ok' := (fun k_ => some k_ ≠ (v231 : Value).ownBlock)) HO_5.out (fun k_ hk => hk.2)); clear HO_5; have HO_5 := n_; clear n_)); (try (have HX18 := Aside0.mk (show Kd.S (Kd.slice 3 (Kd.int .i64)) 23 w16 w.heap.size (fun k_ => ((fun _ => True)) k_ ∧ ¬ ((fun k_ => some k_ = (v231 : Value).ownBlock)) k_) (.slice (some ⟨go14, 0, none⟩) x5_1.length co14) x5_1 from (by (with_reducible repeat (first | apply Kd.S_alloc | apply Kd.S_drewN | apply Kd.S_drew)); exact Kd.S_mono HO_5.out (fun k_ hk => ⟨trivial, fun e_ => hk e_⟩))))); (try (obtain ⟨oki18, ce18, hcl18, hM18, hcc18, hfr18, hoki18, hH18⟩ := Kd.S_elem HX18.out [] (x6_1 : Int) (of_decide_eq_true (by first | (with_reducible assumption) | assumption)) (by have h_ : (x6_1 : Int) < ((x5_1.length : Int) : Int) := of_decide_eq_true (by first | (with_reducible assumption) | assumption); first | exact h_ | (have e_ := (Kd.S_reads' HO_5.out).1; omega) | simpa using h_))); (try (obtain ⟨ve18_0, rfl, ge18_0⟩ := id hM18)); (try (have HP18 := Kd.S_seg hH18 (of_decide_eq_true (by first | (with_reducible assumption) | assumption)) (by have h_ : (x6_1 : Int) < ((x5_1.length : Int) : Int) := of_decide_eq_true (by first | (with_reducible assumption) | assumption); first | exact h_ | (have e_ := (Kd.S_reads' HO_5.out).1; omega) | simpa using h_) (seg := [v231]) (j := 0) (show 1 ≤ 1 from by decide) (x' := y230) (Kd.M_row (Kd.R_mono (Kd.R_tight rfl (Kd.R_mono (ok' := fun k_ => ((fun _ => True)) k_ ∧ k_ ≠ go14) (Kd.R_apart' (HO232.out) (Kd.S_typed HO_5.out) (by decide)) (fun k_ hk => ⟨trivial, fun e_ => (hk.2) (by rw [e_]; rfl)⟩))) (fun _ h_ => Or.inr (h_)))) (fun _ hk => hk) (fun k_ hk_ => ((Kd.R_mono (ok' := fun k_ => ((fun _ => True)) k_ ∧ k_ ≠ go14) (Kd.R_apart' (HO232.out) (Kd.S_typed HO_5.out) (by decide)) (fun k_ hk => ⟨trivial, fun e_ => (hk.2) (by rw [e_]; rfl)⟩))).1 k_ hk_.symm))); (try (have hx18_0 := hcc18 0 _ rfl)); (try (try simp only [show ((Kd.slice 3 (Kd.int .i64))).sz = 1 from rfl, Nat.mul_one, Nat.add_zero] at hx18_0)); (try (have hf18_0 := hfr18 0)); (try (try simp only [show ((Kd.slice 3 (Kd.int .i64))).sz = 1 from rfl, Nat.mul_one, Nat.add_zero] at hf18_0)); (try (clear hcl18 hcc18 hfr18 hM18 hoki18 hH18)); (try (try simp only [show ((Kd.slice 3 (Kd.int .i64))).sz = 1 from rfl, Nat.mul_one, Nat.add_zero] at HP18)))); refine store_event (t := 23) (p := 25) (v := ?vo_w19) (w1 := (w16.setCell ⟨go14, (x6_1 : Int).toNat, none⟩ (v231))) ?hg ?ho ?hn ?hr ?_; (case ho => rfl); (case hg => rfl); (case hn => rfl); (case hr => first | (go_simp; done) | (go_simp; rfl) | (obtain ⟨_, _, hv_⟩ := Kd.R_slice HO232.out; subst hv_; go_simp; done)); intro w19 hw; have hg : w16.grownBy w19 (some go14) := (by rw [hw]; exact HP18.2); have hp_ : Kd.S (Kd.slice 3 (Kd.int .i64)) 23 w19 w.heap.size (fun _ => True) (.slice (some ⟨go14, 0, none⟩) x5_1.length co14) y233 := (by rw [hw, Ny233.out]; exact HP18.1); clear HP18; have n0_ := Aside0.mk (hp_); have n1_ := Aside0.mk ((by rw [hw]; exact below_set (HB.out) GB14.out : Below w.heap.size w w19)); clear HO_5; clear HB; clear HO232; have HO_5 := n0_; have HB := n1_; clear n0_ n1_; clear hg hw hp_)))
                 go_roundg k1
                 case measure => have := HK1.out; omega
                 case rel => exact ⟨(y233), (wrap64 (x6_1 - 1)), (by first | rfl | (simp; done) | (simp [*]; done)), H', ⟨by have := HK1.out; omega⟩, ⟨by (with_reducible repeat (first | apply Kd.S_alloc | apply Kd.S_drewN | apply Kd.S_drew)); exact HO_5.out⟩, ⟨by repeat (first | (with_reducible first | exact HB.out | apply below_alloc | apply pw_below_drewN | apply below_drew1) | exact HB.out)⟩⟩
               rw [if_neg c15] at H
               have c15b0 : (x6_1 == (l1.length : Int)) = false := beq_eq_false_iff_ne.mpr c15
               have c15b1 : (x6_1 != (l1.length : Int)) = true := bne_iff_ne.mpr c15
               have H' := Aside0.mk H
               clear H
               go_wp2_with (first | ((with_reducible refine gate_dst (N := 24) rfl ?_); refine Kd.R_make (Kd.int .i64) _ 3 rfl (N := 24) rfl 23 _ _ rfl ji9 rfl rfl Try.underlying23 (.int .i64 0) 8 info3 rfl (by decide) (by omega) 0 (ok := fun _ => True) (okp := fun _ => True) rfl (fun _ hk => hk) trivial (of_decide_eq_true (by first | (with_reducible assumption) | assumption)) (Nat.le_trans (Nat.mul_le_mul_right _ (of_decide_eq_true (by first | (with_reducible assumption) | assumption) : ji9.toNat ≤ 35184372088832)) (by omega)) (Below.refl _ _) (Nat.le_refl _) ?_; intro v231 w20 ho21 hb hg_ hnew_; clear hg_ hnew_; (first | rw [← Ny230.out] at ho21 | (simp only [Int.reduceToNat] at ho21; rw [← Ny230.out] at ho21)); have n0_ := Aside0.mk (Kd.S_elder' (kdS HO_5.out) (Kd.R_base ho21) hb); have n1_ := Aside0.mk (Kd.R_lower ho21 (below_size (hbw HB.out))); have n2_ := Aside0.mk (below_step (hbw HB.out) hb); clear HO_5; clear HB; have HO_5 := n0_; have HO232 := n1_; have HB := n2_; clear n0_ n1_ n2_; clear hb ho21; have p14 : 0 ≤ (x6_1 : Int) := of_decide_eq_true (by first | (with_reducible assumption) | assumption); have q14 : (x6_1 : Int) < ((x5_1.length : Int) : Int) := of_decide_eq_true (by first | (with_reducible assumption) | assumption); obtain ⟨go14, co14, eo14, gb14, gl14, cl14, HG14⟩ := Kd.S_form HO_5.out (by omega); (first | cases eo14 | (injection eo14 with ea_ en_ ec_; (first | subst ea_ | (injection ea_ with ea_; subst ea_)); subst ec_; clear en_)); have GB14 := Aside0.mk gb14; have GG14 := Aside0.mk HG14; clear gb14 gl14 HG14; obtain ⟨_, ce14, hcl14, hM14, hcc14, hfr14, _, _⟩ := Kd.S_elem HO_5.out [] (x6_1 : Int) p14 q14; obtain ⟨ve14_0, rfl, ge14_0⟩ := id hM14; have hx14_0 := hcc14 0 _ rfl; have hf14_0 := hfr14 0; (try simp only [show ((Kd.slice 3 (Kd.int .i64))).sz = 1 from rfl, Nat.mul_one, Nat.add_zero] at hx14_0); (try simp only [show ((Kd.slice 3 (Kd.int .i64))).sz = 1 from rfl, Nat.mul_one, Nat.add_zero] at hf14_0); clear hcl14 hcc14 hfr14 hM14; replace p14 := eq_true p14; replace q14 := eq_true q14; have n_ := Aside0.mk (Kd.S_mono (ok' := (fun k_ => some k_ ≠ (v231 : Value).ownBlock)) HO_5.out (fun k_ hk => hk.2)); clear HO_5; have HO_5 := n_; clear n_; have HX22 := Aside0.mk (show Kd.S (Kd.slice 3 (Kd.int .i64)) 23 w20 w.heap.size (fun k_ => ((fun _ => True)) k_ ∧ ¬ ((fun k_ => some k_ = (v231 : Value).ownBlock)) k_) (.slice (some ⟨go14, 0, none⟩) x5_1.length co14) x5_1 from (by (with_reducible repeat (first | apply Kd.S_alloc | apply Kd.S_drewN | apply Kd.S_drew)); exact Kd.S_mono HO_5.out (fun k_ hk => ⟨trivial, fun e_ => hk e_⟩))); obtain ⟨oki22, ce22, hcl22, hM22, hcc22, hfr22, hoki22, hH22⟩ := Kd.S_elem HX22.out [] (x6_1 : Int) (of_decide_eq_true (by first | (with_reducible assumption) | assumption)) (by have h_ : (x6_1 : Int) < ((x5_1.length : Int) : Int) := of_decide_eq_true (by first | (with_reducible assumption) | assumption); first | exact h_ | (have e_ := (Kd.S_reads' HO_5.out).1; omega) | simpa using h_); obtain ⟨ve22_0, rfl, ge22_0⟩ := id hM22; have HP22 := Kd.S_seg hH22 (of_decide_eq_true (by first | (with_reducible assumption) | assumption)) (by have h_ : (x6_1 : Int) < ((x5_1.length : Int) : Int) := of_decide_eq_true (by first | (with_reducible assumption) | assumption); first | exact h_ | (have e_ := (Kd.S_reads' HO_5.out).1; omega) | simpa using h_) (seg := [v231]) (j := 0) (show 1 ≤ 1 from by decide) (x' := y230) (Kd.M_row (Kd.R_mono (Kd.R_tight rfl (Kd.R_mono (ok' := fun k_ => ((fun _ => True)) k_ ∧ k_ ≠ go14) (Kd.R_apart' (HO232.out) (Kd.S_typed HO_5.out) (by decide)) (fun k_ hk => ⟨trivial, fun e_ => (hk.2) (by rw [e_]; rfl)⟩))) (fun _ h_ => Or.inr (h_)))) (fun _ hk => hk) (fun k_ hk_ => ((Kd.R_mono (ok' := fun k_ => ((fun _ => True)) k_ ∧ k_ ≠ go14) (Kd.R_apart' (HO232.out) (Kd.S_typed HO_5.out) (by decide)) (fun k_ hk => ⟨trivial, fun e_ => (hk.2) (by rw [e_]; rfl)⟩))).1 k_ hk_.symm); have hx22_0 := hcc22 0 _ rfl; (try simp only [show ((Kd.slice 3 (Kd.int .i64))).sz = 1 from rfl, Nat.mul_one, Nat.add_zero] at hx22_0); have hf22_0 := hfr22 0; (try simp only [show ((Kd.slice 3 (Kd.int .i64))).sz = 1 from rfl, Nat.mul_one, Nat.add_zero] at hf22_0); clear hcl22 hcc22 hfr22 hM22 hoki22 hH22; (try simp only [show ((Kd.slice 3 (Kd.int .i64))).sz = 1 from rfl, Nat.mul_one, Nat.add_zero] at HP22)) | ((with_reducible refine gate_store (t := 23) (p := 25) rfl ?_); (try (rw [drewN_self w20]; generalize hq_ : World.drewN w20 _ = w20; have n0_ := Aside0.mk (Kd.S_at hq_ HO_5.out); have n1_ := Aside0.mk (below_at hq_ HB.out); clear hq_ HO_5 HB; have HO_5 := n0_; have HB := n1_; clear n0_ n1_; (try (have n_ := Aside0.mk (Kd.S_mono (ok' := (fun k_ => some k_ ≠ (v231 : Value).ownBlock)) HO_5.out (fun k_ hk => hk.2)); clear HO_5; have HO_5 := n_; clear n_)); (try (have HX22 := Aside0.mk (show Kd.S (Kd.slice 3 (Kd.int .i64)) 23 w20 w.heap.size (fun k_ => ((fun _ => True)) k_ ∧ ¬ ((fun k_ => some k_ = (v231 : Value).ownBlock)) k_) (.slice (some ⟨go14, 0, none⟩) x5_1.length co14) x5_1 from (by (with_reducible repeat (first | apply Kd.S_alloc | apply Kd.S_drewN | apply Kd.S_drew)); exact Kd.S_mono HO_5.out (fun k_ hk => ⟨trivial, fun e_ => hk e_⟩))))); (try (obtain ⟨oki22, ce22, hcl22, hM22, hcc22, hfr22, hoki22, hH22⟩ := Kd.S_elem HX22.out [] (x6_1 : Int) (of_decide_eq_true (by first | (with_reducible assumption) | assumption)) (by have h_ : (x6_1 : Int) < ((x5_1.length : Int) : Int) := of_decide_eq_true (by first | (with_reducible assumption) | assumption); first | exact h_ | (have e_ := (Kd.S_reads' HO_5.out).1; omega) | simpa using h_))); (try (obtain ⟨ve22_0, rfl, ge22_0⟩ := id hM22)); (try (have HP22 := Kd.S_seg hH22 (of_decide_eq_true (by first | (with_reducible assumption) | assumption)) (by have h_ : (x6_1 : Int) < ((x5_1.length : Int) : Int) := of_decide_eq_true (by first | (with_reducible assumption) | assumption); first | exact h_ | (have e_ := (Kd.S_reads' HO_5.out).1; omega) | simpa using h_) (seg := [v231]) (j := 0) (show 1 ≤ 1 from by decide) (x' := y230) (Kd.M_row (Kd.R_mono (Kd.R_tight rfl (Kd.R_mono (ok' := fun k_ => ((fun _ => True)) k_ ∧ k_ ≠ go14) (Kd.R_apart' (HO232.out) (Kd.S_typed HO_5.out) (by decide)) (fun k_ hk => ⟨trivial, fun e_ => (hk.2) (by rw [e_]; rfl)⟩))) (fun _ h_ => Or.inr (h_)))) (fun _ hk => hk) (fun k_ hk_ => ((Kd.R_mono (ok' := fun k_ => ((fun _ => True)) k_ ∧ k_ ≠ go14) (Kd.R_apart' (HO232.out) (Kd.S_typed HO_5.out) (by decide)) (fun k_ hk => ⟨trivial, fun e_ => (hk.2) (by rw [e_]; rfl)⟩))).1 k_ hk_.symm))); (try (have hx22_0 := hcc22 0 _ rfl)); (try (try simp only [show ((Kd.slice 3 (Kd.int .i64))).sz = 1 from rfl, Nat.mul_one, Nat.add_zero] at hx22_0)); (try (have hf22_0 := hfr22 0)); (try (try simp only [show ((Kd.slice 3 (Kd.int .i64))).sz = 1 from rfl, Nat.mul_one, Nat.add_zero] at hf22_0)); (try (clear hcl22 hcc22 hfr22 hM22 hoki22 hH22)); (try (try simp only [show ((Kd.slice 3 (Kd.int .i64))).sz = 1 from rfl, Nat.mul_one, Nat.add_zero] at HP22)))); refine store_event (t := 23) (p := 25) (v := ?vo_w23) (w1 := (w20.setCell ⟨go14, (x6_1 : Int).toNat, none⟩ (v231))) ?hg ?ho ?hn ?hr ?_; (case ho => rfl); (case hg => rfl); (case hn => rfl); (case hr => first | (go_simp; done) | (go_simp; rfl) | (obtain ⟨_, _, hv_⟩ := Kd.R_slice HO232.out; subst hv_; go_simp; done)); intro w23 hw; have hg : w20.grownBy w23 (some go14) := (by rw [hw]; exact HP22.2); have hp_ : Kd.S (Kd.slice 3 (Kd.int .i64)) 23 w23 w.heap.size (fun _ => True) (.slice (some ⟨go14, 0, none⟩) x5_1.length co14) y233 := (by rw [hw, Ny233.out]; exact HP22.1); clear HP22; have n0_ := Aside0.mk (hp_); have n1_ := Aside0.mk ((by rw [hw]; exact below_set (HB.out) GB14.out : Below w.heap.size w w23)); clear HO_5; clear HB; clear HO232; have HO_5 := n0_; have HB := n1_; clear n0_ n1_; clear hg hw hp_))
               repeat (go_quiet (first | ((with_reducible refine gate_dst (N := 24) rfl ?_); refine Kd.R_make (Kd.int .i64) _ 3 rfl (N := 24) rfl 23 _ _ rfl ji9 rfl rfl Try.underlying23 (.int .i64 0) 8 info3 rfl (by decide) (by omega) 0 (ok := fun _ => True) (okp := fun _ => True) rfl (fun _ hk => hk) trivial (of_decide_eq_true (by first | (with_reducible assumption) | assumption)) (Nat.le_trans (Nat.mul_le_mul_right _ (of_decide_eq_true (by first | (with_reducible assumption) | assumption) : ji9.toNat ≤ 35184372088832)) (by omega)) (Below.refl _ _) (Nat.le_refl _) ?_; intro v231 w20 ho21 hb hg_ hnew_; clear hg_ hnew_; (first | rw [← Ny230.out] at ho21 | (simp only [Int.reduceToNat] at ho21; rw [← Ny230.out] at ho21)); have n0_ := Aside0.mk (Kd.S_elder' (kdS HO_5.out) (Kd.R_base ho21) hb); have n1_ := Aside0.mk (Kd.R_lower ho21 (below_size (hbw HB.out))); have n2_ := Aside0.mk (below_step (hbw HB.out) hb); clear HO_5; clear HB; have HO_5 := n0_; have HO232 := n1_; have HB := n2_; clear n0_ n1_ n2_; clear hb ho21; have p14 : 0 ≤ (x6_1 : Int) := of_decide_eq_true (by first | (with_reducible assumption) | assumption); have q14 : (x6_1 : Int) < ((x5_1.length : Int) : Int) := of_decide_eq_true (by first | (with_reducible assumption) | assumption); obtain ⟨go14, co14, eo14, gb14, gl14, cl14, HG14⟩ := Kd.S_form HO_5.out (by omega); (first | cases eo14 | (injection eo14 with ea_ en_ ec_; (first | subst ea_ | (injection ea_ with ea_; subst ea_)); subst ec_; clear en_)); have GB14 := Aside0.mk gb14; have GG14 := Aside0.mk HG14; clear gb14 gl14 HG14; obtain ⟨_, ce14, hcl14, hM14, hcc14, hfr14, _, _⟩ := Kd.S_elem HO_5.out [] (x6_1 : Int) p14 q14; obtain ⟨ve14_0, rfl, ge14_0⟩ := id hM14; have hx14_0 := hcc14 0 _ rfl; have hf14_0 := hfr14 0; (try simp only [show ((Kd.slice 3 (Kd.int .i64))).sz = 1 from rfl, Nat.mul_one, Nat.add_zero] at hx14_0); (try simp only [show ((Kd.slice 3 (Kd.int .i64))).sz = 1 from rfl, Nat.mul_one, Nat.add_zero] at hf14_0); clear hcl14 hcc14 hfr14 hM14; replace p14 := eq_true p14; replace q14 := eq_true q14; have n_ := Aside0.mk (Kd.S_mono (ok' := (fun k_ => some k_ ≠ (v231 : Value).ownBlock)) HO_5.out (fun k_ hk => hk.2)); clear HO_5; have HO_5 := n_; clear n_; have HX22 := Aside0.mk (show Kd.S (Kd.slice 3 (Kd.int .i64)) 23 w20 w.heap.size (fun k_ => ((fun _ => True)) k_ ∧ ¬ ((fun k_ => some k_ = (v231 : Value).ownBlock)) k_) (.slice (some ⟨go14, 0, none⟩) x5_1.length co14) x5_1 from (by (with_reducible repeat (first | apply Kd.S_alloc | apply Kd.S_drewN | apply Kd.S_drew)); exact Kd.S_mono HO_5.out (fun k_ hk => ⟨trivial, fun e_ => hk e_⟩))); obtain ⟨oki22, ce22, hcl22, hM22, hcc22, hfr22, hoki22, hH22⟩ := Kd.S_elem HX22.out [] (x6_1 : Int) (of_decide_eq_true (by first | (with_reducible assumption) | assumption)) (by have h_ : (x6_1 : Int) < ((x5_1.length : Int) : Int) := of_decide_eq_true (by first | (with_reducible assumption) | assumption); first | exact h_ | (have e_ := (Kd.S_reads' HO_5.out).1; omega) | simpa using h_); obtain ⟨ve22_0, rfl, ge22_0⟩ := id hM22; have HP22 := Kd.S_seg hH22 (of_decide_eq_true (by first | (with_reducible assumption) | assumption)) (by have h_ : (x6_1 : Int) < ((x5_1.length : Int) : Int) := of_decide_eq_true (by first | (with_reducible assumption) | assumption); first | exact h_ | (have e_ := (Kd.S_reads' HO_5.out).1; omega) | simpa using h_) (seg := [v231]) (j := 0) (show 1 ≤ 1 from by decide) (x' := y230) (Kd.M_row (Kd.R_mono (Kd.R_tight rfl (Kd.R_mono (ok' := fun k_ => ((fun _ => True)) k_ ∧ k_ ≠ go14) (Kd.R_apart' (HO232.out) (Kd.S_typed HO_5.out) (by decide)) (fun k_ hk => ⟨trivial, fun e_ => (hk.2) (by rw [e_]; rfl)⟩))) (fun _ h_ => Or.inr (h_)))) (fun _ hk => hk) (fun k_ hk_ => ((Kd.R_mono (ok' := fun k_ => ((fun _ => True)) k_ ∧ k_ ≠ go14) (Kd.R_apart' (HO232.out) (Kd.S_typed HO_5.out) (by decide)) (fun k_ hk => ⟨trivial, fun e_ => (hk.2) (by rw [e_]; rfl)⟩))).1 k_ hk_.symm); have hx22_0 := hcc22 0 _ rfl; (try simp only [show ((Kd.slice 3 (Kd.int .i64))).sz = 1 from rfl, Nat.mul_one, Nat.add_zero] at hx22_0); have hf22_0 := hfr22 0; (try simp only [show ((Kd.slice 3 (Kd.int .i64))).sz = 1 from rfl, Nat.mul_one, Nat.add_zero] at hf22_0); clear hcl22 hcc22 hfr22 hM22 hoki22 hH22; (try simp only [show ((Kd.slice 3 (Kd.int .i64))).sz = 1 from rfl, Nat.mul_one, Nat.add_zero] at HP22)) | ((with_reducible refine gate_store (t := 23) (p := 25) rfl ?_); (try (rw [drewN_self w20]; generalize hq_ : World.drewN w20 _ = w20; have n0_ := Aside0.mk (Kd.S_at hq_ HO_5.out); have n1_ := Aside0.mk (below_at hq_ HB.out); clear hq_ HO_5 HB; have HO_5 := n0_; have HB := n1_; clear n0_ n1_; (try (have n_ := Aside0.mk (Kd.S_mono (ok' := (fun k_ => some k_ ≠ (v231 : Value).ownBlock)) HO_5.out (fun k_ hk => hk.2)); clear HO_5; have HO_5 := n_; clear n_)); (try (have HX22 := Aside0.mk (show Kd.S (Kd.slice 3 (Kd.int .i64)) 23 w20 w.heap.size (fun k_ => ((fun _ => True)) k_ ∧ ¬ ((fun k_ => some k_ = (v231 : Value).ownBlock)) k_) (.slice (some ⟨go14, 0, none⟩) x5_1.length co14) x5_1 from (by (with_reducible repeat (first | apply Kd.S_alloc | apply Kd.S_drewN | apply Kd.S_drew)); exact Kd.S_mono HO_5.out (fun k_ hk => ⟨trivial, fun e_ => hk e_⟩))))); (try (obtain ⟨oki22, ce22, hcl22, hM22, hcc22, hfr22, hoki22, hH22⟩ := Kd.S_elem HX22.out [] (x6_1 : Int) (of_decide_eq_true (by first | (with_reducible assumption) | assumption)) (by have h_ : (x6_1 : Int) < ((x5_1.length : Int) : Int) := of_decide_eq_true (by first | (with_reducible assumption) | assumption); first | exact h_ | (have e_ := (Kd.S_reads' HO_5.out).1; omega) | simpa using h_))); (try (obtain ⟨ve22_0, rfl, ge22_0⟩ := id hM22)); (try (have HP22 := Kd.S_seg hH22 (of_decide_eq_true (by first | (with_reducible assumption) | assumption)) (by have h_ : (x6_1 : Int) < ((x5_1.length : Int) : Int) := of_decide_eq_true (by first | (with_reducible assumption) | assumption); first | exact h_ | (have e_ := (Kd.S_reads' HO_5.out).1; omega) | simpa using h_) (seg := [v231]) (j := 0) (show 1 ≤ 1 from by decide) (x' := y230) (Kd.M_row (Kd.R_mono (Kd.R_tight rfl (Kd.R_mono (ok' := fun k_ => ((fun _ => True)) k_ ∧ k_ ≠ go14) (Kd.R_apart' (HO232.out) (Kd.S_typed HO_5.out) (by decide)) (fun k_ hk => ⟨trivial, fun e_ => (hk.2) (by rw [e_]; rfl)⟩))) (fun _ h_ => Or.inr (h_)))) (fun _ hk => hk) (fun k_ hk_ => ((Kd.R_mono (ok' := fun k_ => ((fun _ => True)) k_ ∧ k_ ≠ go14) (Kd.R_apart' (HO232.out) (Kd.S_typed HO_5.out) (by decide)) (fun k_ hk => ⟨trivial, fun e_ => (hk.2) (by rw [e_]; rfl)⟩))).1 k_ hk_.symm))); (try (have hx22_0 := hcc22 0 _ rfl)); (try (try simp only [show ((Kd.slice 3 (Kd.int .i64))).sz = 1 from rfl, Nat.mul_one, Nat.add_zero] at hx22_0)); (try (have hf22_0 := hfr22 0)); (try (try simp only [show ((Kd.slice 3 (Kd.int .i64))).sz = 1 from rfl, Nat.mul_one, Nat.add_zero] at hf22_0)); (try (clear hcl22 hcc22 hfr22 hM22 hoki22 hH22)); (try (try simp only [show ((Kd.slice 3 (Kd.int .i64))).sz = 1 from rfl, Nat.mul_one, Nat.add_zero] at HP22)))); refine store_event (t := 23) (p := 25) (v := ?vo_w23) (w1 := (w20.setCell ⟨go14, (x6_1 : Int).toNat, none⟩ (v231))) ?hg ?ho ?hn ?hr ?_; (case ho => rfl); (case hg => rfl); (case hn => rfl); (case hr => first | (go_simp; done) | (go_simp; rfl) | (obtain ⟨_, _, hv_⟩ := Kd.R_slice HO232.out; subst hv_; go_simp; done)); intro w23 hw; have hg : w20.grownBy w23 (some go14) := (by rw [hw]; exact HP22.2); have hp_ : Kd.S (Kd.slice 3 (Kd.int .i64)) 23 w23 w.heap.size (fun _ => True) (.slice (some ⟨go14, 0, none⟩) x5_1.length co14) y233 := (by rw [hw, Ny233.out]; exact HP22.1); clear HP22; have n0_ := Aside0.mk (hp_); have n1_ := Aside0.mk ((by rw [hw]; exact below_set (HB.out) GB14.out : Below w.heap.size w w23)); clear HO_5; clear HB; clear HO232; have HO_5 := n0_; have HB := n1_; clear n0_ n1_; clear hg hw hp_)); try go_wp2_with (first | ((with_reducible refine gate_dst (N := 24) rfl ?_); refine Kd.R_make (Kd.int .i64) _ 3 rfl (N := 24) rfl 23 _ _ rfl ji9 rfl rfl Try.underlying23 (.int .i64 0) 8 info3 rfl (by decide) (by omega) 0 (ok := fun _ => True) (okp := fun _ => True) rfl (fun _ hk => hk) trivial (of_decide_eq_true (by first | (with_reducible assumption) | assumption)) (Nat.le_trans (Nat.mul_le_mul_right _ (of_decide_eq_true (by first | (with_reducible assumption) | assumption) : ji9.toNat ≤ 35184372088832)) (by omega)) (Below.refl _ _) (Nat.le_refl _) ?_; intro v231 w20 ho21 hb hg_ hnew_; clear hg_ hnew_; (first | rw [← Ny230.out] at ho21 | (simp only [Int.reduceToNat] at ho21; rw [← Ny230.out] at ho21)); have n0_ := Aside0.mk (Kd.S_elder' (kdS HO_5.out) (Kd.R_base ho21) hb); have n1_ := Aside0.mk (Kd.R_lower ho21 (below_size (hbw HB.out))); have n2_ := Aside0.mk (below_step (hbw HB.out) hb); clear HO_5; clear HB; have HO_5 := n0_; have HO232 := n1_; have HB := n2_; clear n0_ n1_ n2_; clear hb ho21; have p14 : 0 ≤ (x6_1 : Int) := of_decide_eq_true (by first | (with_reducible assumption) | assumption); have q14 : (x6_1 : Int) < ((x5_1.length : Int) : Int) := of_decide_eq_true (by first | (with_reducible assumption) | assumption); obtain ⟨go14, co14, eo14, gb14, gl14, cl14, HG14⟩ := Kd.S_form HO_5.out (by omega); (first | cases eo14 | (injection eo14 with ea_ en_ ec_; (first | subst ea_ | (injection ea_ with ea_; subst ea_)); subst ec_; clear en_)); have GB14 := Aside0.mk gb14; have GG14 := Aside0.mk HG14; clear gb14 gl14 HG14; obtain ⟨_, ce14, hcl14, hM14, hcc14, hfr14, _, _⟩ := Kd.S_elem HO_5.out [] (x6_1 : Int) p14 q14; obtain ⟨ve14_0, rfl, ge14_0⟩ := id hM14; have hx14_0 := hcc14 0 _ rfl; have hf14_0 := hfr14 0; (try simp only [show ((Kd.slice 3 (Kd.int .i64))).sz = 1 from rfl, Nat.mul_one, Nat.add_zero] at hx14_0); (try simp only [show ((Kd.slice 3 (Kd.int .i64))).sz = 1 from rfl, Nat.mul_one, Nat.add_zero] at hf14_0); clear hcl14 hcc14 hfr14 hM14; replace p14 := eq_true p14; replace q14 := eq_true q14; have n_ := Aside0.mk (Kd.S_mono (ok' := (fun k_ => some k_ ≠ (v231 : Value).ownBlock)) HO_5.out (fun k_ hk => hk.2)); clear HO_5; have HO_5 := n_; clear n_; have HX22 := Aside0.mk (show Kd.S (Kd.slice 3 (Kd.int .i64)) 23 w20 w.heap.size (fun k_ => ((fun _ => True)) k_ ∧ ¬ ((fun k_ => some k_ = (v231 : Value).ownBlock)) k_) (.slice (some ⟨go14, 0, none⟩) x5_1.length co14) x5_1 from (by (with_reducible repeat (first | apply Kd.S_alloc | apply Kd.S_drewN | apply Kd.S_drew)); exact Kd.S_mono HO_5.out (fun k_ hk => ⟨trivial, fun e_ => hk e_⟩))); obtain ⟨oki22, ce22, hcl22, hM22, hcc22, hfr22, hoki22, hH22⟩ := Kd.S_elem HX22.out [] (x6_1 : Int) (of_decide_eq_true (by first | (with_reducible assumption) | assumption)) (by have h_ : (x6_1 : Int) < ((x5_1.length : Int) : Int) := of_decide_eq_true (by first | (with_reducible assumption) | assumption); first | exact h_ | (have e_ := (Kd.S_reads' HO_5.out).1; omega) | simpa using h_); obtain ⟨ve22_0, rfl, ge22_0⟩ := id hM22; have HP22 := Kd.S_seg hH22 (of_decide_eq_true (by first | (with_reducible assumption) | assumption)) (by have h_ : (x6_1 : Int) < ((x5_1.length : Int) : Int) := of_decide_eq_true (by first | (with_reducible assumption) | assumption); first | exact h_ | (have e_ := (Kd.S_reads' HO_5.out).1; omega) | simpa using h_) (seg := [v231]) (j := 0) (show 1 ≤ 1 from by decide) (x' := y230) (Kd.M_row (Kd.R_mono (Kd.R_tight rfl (Kd.R_mono (ok' := fun k_ => ((fun _ => True)) k_ ∧ k_ ≠ go14) (Kd.R_apart' (HO232.out) (Kd.S_typed HO_5.out) (by decide)) (fun k_ hk => ⟨trivial, fun e_ => (hk.2) (by rw [e_]; rfl)⟩))) (fun _ h_ => Or.inr (h_)))) (fun _ hk => hk) (fun k_ hk_ => ((Kd.R_mono (ok' := fun k_ => ((fun _ => True)) k_ ∧ k_ ≠ go14) (Kd.R_apart' (HO232.out) (Kd.S_typed HO_5.out) (by decide)) (fun k_ hk => ⟨trivial, fun e_ => (hk.2) (by rw [e_]; rfl)⟩))).1 k_ hk_.symm); have hx22_0 := hcc22 0 _ rfl; (try simp only [show ((Kd.slice 3 (Kd.int .i64))).sz = 1 from rfl, Nat.mul_one, Nat.add_zero] at hx22_0); have hf22_0 := hfr22 0; (try simp only [show ((Kd.slice 3 (Kd.int .i64))).sz = 1 from rfl, Nat.mul_one, Nat.add_zero] at hf22_0); clear hcl22 hcc22 hfr22 hM22 hoki22 hH22; (try simp only [show ((Kd.slice 3 (Kd.int .i64))).sz = 1 from rfl, Nat.mul_one, Nat.add_zero] at HP22)) | ((with_reducible refine gate_store (t := 23) (p := 25) rfl ?_); (try (rw [drewN_self w20]; generalize hq_ : World.drewN w20 _ = w20; have n0_ := Aside0.mk (Kd.S_at hq_ HO_5.out); have n1_ := Aside0.mk (below_at hq_ HB.out); clear hq_ HO_5 HB; have HO_5 := n0_; have HB := n1_; clear n0_ n1_; (try (have n_ := Aside0.mk (Kd.S_mono (ok' := (fun k_ => some k_ ≠ (v231 : Value).ownBlock)) HO_5.out (fun k_ hk => hk.2)); clear HO_5; have HO_5 := n_; clear n_)); (try (have HX22 := Aside0.mk (show Kd.S (Kd.slice 3 (Kd.int .i64)) 23 w20 w.heap.size (fun k_ => ((fun _ => True)) k_ ∧ ¬ ((fun k_ => some k_ = (v231 : Value).ownBlock)) k_) (.slice (some ⟨go14, 0, none⟩) x5_1.length co14) x5_1 from (by (with_reducible repeat (first | apply Kd.S_alloc | apply Kd.S_drewN | apply Kd.S_drew)); exact Kd.S_mono HO_5.out (fun k_ hk => ⟨trivial, fun e_ => hk e_⟩))))); (try (obtain ⟨oki22, ce22, hcl22, hM22, hcc22, hfr22, hoki22, hH22⟩ := Kd.S_elem HX22.out [] (x6_1 : Int) (of_decide_eq_true (by first | (with_reducible assumption) | assumption)) (by have h_ : (x6_1 : Int) < ((x5_1.length : Int) : Int) := of_decide_eq_true (by first | (with_reducible assumption) | assumption); first | exact h_ | (have e_ := (Kd.S_reads' HO_5.out).1; omega) | simpa using h_))); (try (obtain ⟨ve22_0, rfl, ge22_0⟩ := id hM22)); (try (have HP22 := Kd.S_seg hH22 (of_decide_eq_true (by first | (with_reducible assumption) | assumption)) (by have h_ : (x6_1 : Int) < ((x5_1.length : Int) : Int) := of_decide_eq_true (by first | (with_reducible assumption) | assumption); first | exact h_ | (have e_ := (Kd.S_reads' HO_5.out).1; omega) | simpa using h_) (seg := [v231]) (j := 0) (show 1 ≤ 1 from by decide) (x' := y230) (Kd.M_row (Kd.R_mono (Kd.R_tight rfl (Kd.R_mono (ok' := fun k_ => ((fun _ => True)) k_ ∧ k_ ≠ go14) (Kd.R_apart' (HO232.out) (Kd.S_typed HO_5.out) (by decide)) (fun k_ hk => ⟨trivial, fun e_ => (hk.2) (by rw [e_]; rfl)⟩))) (fun _ h_ => Or.inr (h_)))) (fun _ hk => hk) (fun k_ hk_ => ((Kd.R_mono (ok' := fun k_ => ((fun _ => True)) k_ ∧ k_ ≠ go14) (Kd.R_apart' (HO232.out) (Kd.S_typed HO_5.out) (by decide)) (fun k_ hk => ⟨trivial, fun e_ => (hk.2) (by rw [e_]; rfl)⟩))).1 k_ hk_.symm))); (try (have hx22_0 := hcc22 0 _ rfl)); (try (try simp only [show ((Kd.slice 3 (Kd.int .i64))).sz = 1 from rfl, Nat.mul_one, Nat.add_zero] at hx22_0)); (try (have hf22_0 := hfr22 0)); (try (try simp only [show ((Kd.slice 3 (Kd.int .i64))).sz = 1 from rfl, Nat.mul_one, Nat.add_zero] at hf22_0)); (try (clear hcl22 hcc22 hfr22 hM22 hoki22 hH22)); (try (try simp only [show ((Kd.slice 3 (Kd.int .i64))).sz = 1 from rfl, Nat.mul_one, Nat.add_zero] at HP22)))); refine store_event (t := 23) (p := 25) (v := ?vo_w23) (w1 := (w20.setCell ⟨go14, (x6_1 : Int).toNat, none⟩ (v231))) ?hg ?ho ?hn ?hr ?_; (case ho => rfl); (case hg => rfl); (case hn => rfl); (case hr => first | (go_simp; done) | (go_simp; rfl) | (obtain ⟨_, _, hv_⟩ := Kd.R_slice HO232.out; subst hv_; go_simp; done)); intro w23 hw; have hg : w20.grownBy w23 (some go14) := (by rw [hw]; exact HP22.2); have hp_ : Kd.S (Kd.slice 3 (Kd.int .i64)) 23 w23 w.heap.size (fun _ => True) (.slice (some ⟨go14, 0, none⟩) x5_1.length co14) y233 := (by rw [hw, Ny233.out]; exact HP22.1); clear HP22; have n0_ := Aside0.mk (hp_); have n1_ := Aside0.mk ((by rw [hw]; exact below_set (HB.out) GB14.out : Below w.heap.size w w23)); clear HO_5; clear HB; clear HO232; have HO_5 := n0_; have HB := n1_; clear n0_ n1_; clear hg hw hp_)))
               go_loopg [7] k1 (fun kq v7 w' => ∃ (x5_2 : List (List Int)) (x7_2 : Int), v7 = .int .i64 x7_2 ∧ Aside0 (changeforgeref1_suffixes.l1 kq l0 l1 x5_2 x6_1 x7_2 = some r) ∧ Aside0 (kq ≤ k1) ∧ Aside0 (Kd.S (Kd.slice 3 (Kd.int .i64)) 23 w' w.heap.size (fun _ => True) (.slice (some ⟨go14, 0, none⟩) x5_1.length co14) x5_2) ∧ Aside0 (Below w.heap.size w w'))
               case atStart => exact ⟨(y233), (wrap64 ((l0.length : Int) - 1)), (by first | rfl | (simp; done) | (simp [*]; done)), H', ⟨Nat.le_refl _⟩, ⟨by (with_reducible repeat (first | apply Kd.S_alloc | apply Kd.S_drewN | apply Kd.S_drew)); exact HO_5.out⟩, ⟨by repeat (first | (with_reducible first | exact HB.out | apply below_alloc | apply pw_below_drewN | apply below_drew1) | exact HB.out)⟩⟩
               clear H'
               try clear c1
               try clear p1
               try clear q1
               try clear hx1
               try clear c2
               try clear p2
               try clear hx2
               try clear hf2
               try clear c4
               try clear c4b0
               try clear c4b1
               try clear c5
               try clear c5b0
               try clear c5b1
               try clear p6
               try clear c8
               try clear c8b0
               try clear c10
               try clear c10b0
               try clear c10b1
               try clear c11
               try clear c11b0
               try clear c11b1
               try clear c12
               try clear c12b0
               try clear c13
               try clear c13b0
               try clear c14
               try clear p14
               try clear q14
               try clear hx14
               try clear hf14
               try clear c15
               try clear c15b0
               try clear c15b1
               try clear c18
               try clear hx18
               try clear hf18
               try clear c22
               try clear hx22
               try clear hf22
               try clear hx14_0
               try clear hx18_0
               try clear hx22_0
               try clear p14
               try clear p2
               try clear p6
               try clear q14
               obtain ⟨x5_2, x7_2, rfl, HA, HK2, HO_5, HB⟩ := hrel
               have hl5_2 := (Kd.S_reads' HO_5.out).1
               rw [hl5_2] at HO_5
               (try simp only [hl5_2])
               cases gk with
               | zero => exact absurd HA.out (by simp [changeforgeref1_suffixes.l1])
               | succ k2 =>
               have H := HA.out
               clear HA
               simp only [changeforgeref1_suffixes.l1] at H
               by_cases c24 : x7_2 ≥ 0
               · rw [if_pos c24] at H
                 have c24b0 : decide (0 ≤ x7_2) = true := decide_eq_true c24
                 clear c24
                 obtain ⟨ji25, hji25⟩ : ∃ j_ : Int, (wrap64 (x6_1 + 1)) = j_ := ⟨_, rfl⟩
                 replace H : (if 0 ≤ (ji25) then (if (ji25) < (x5_2.length : Int) then (if 0 ≤ x7_2 then (if x7_2 < ((rd_L4 x5_2 (ji25)).length : Int) then (if 0 ≤ x6_1 then (if x6_1 < (x5_2.length : Int) then (if 0 ≤ (wrap64 (x7_2 + 1)) then (if (wrap64 (x7_2 + 1)) < ((rd_L4 x5_2 x6_1).length : Int) then (if (rd (rd_L4 x5_2 x6_1) (wrap64 (x7_2 + 1))) > (rd (rd_L4 x5_2 (ji25)) x7_2) then (if x7_2 < (l0.length : Int) then (if x6_1 < (l1.length : Int) then (if (rdOf ByteArray.empty l0 x7_2).toList = (rdOf ByteArray.empty l1 x6_1).toList then (if (wrap64 (x7_2 + 1)) < ((rd_L4 x5_2 (ji25)).length : Int) then (if (wrap64 ((rd (rd_L4 x5_2 (ji25)) (wrap64 (x7_2 + 1))) + 1)) > (rd (rd_L4 x5_2 x6_1) (wrap64 (x7_2 + 1))) then (if x7_2 < ((rd_L4 x5_2 x6_1).length : Int) then (changeforgeref1_suffixes.l1 k2 l0 l1 (x5_2.set (x6_1 : Int).toNat ((rd_L4 x5_2 x6_1).set (x7_2 : Int).toNat (wrap64 ((rd (rd_L4 x5_2 (ji25)) (wrap64 (x7_2 + 1))) + 1)))) x6_1 (wrap64 (x7_2 - 1))) else (none)) else (if x7_2 < ((rd_L4 x5_2 x6_1).length : Int) then (changeforgeref1_suffixes.l1 k2 l0 l1 (x5_2.set (x6_1 : Int).toNat ((rd_L4 x5_2 x6_1).set (x7_2 : Int).toNat (rd (rd_L4 x5_2 x6_1) (wrap64 (x7_2 + 1))))) x6_1 (wrap64 (x7_2 - 1))) else (none))) else (none)) else (if x7_2 < ((rd_L4 x5_2 x6_1).length : Int) then (changeforgeref1_suffixes.l1 k2 l0 l1 (x5_2.set (x6_1 : Int).toNat ((rd_L4 x5_2 x6_1).set (x7_2 : Int).toNat (rd (rd_L4 x5_2 x6_1) (wrap64 (x7_2 + 1))))) x6_1 (wrap64 (x7_2 - 1))) else (none))) else (none)) else (none)) else (if x7_2 < (l0.length : Int) then (if x6_1 < (l1.length : Int) then (if (rdOf ByteArray.empty l0 x7_2).toList = (rdOf ByteArray.empty l1 x6_1).toList then (if (wrap64 (x7_2 + 1)) < ((rd_L4 x5_2 (ji25)).length : Int) then (if (wrap64 ((rd (rd_L4 x5_2 (ji25)) (wrap64 (x7_2 + 1))) + 1)) > (rd (rd_L4 x5_2 (ji25)) x7_2) then (if x7_2 < ((rd_L4 x5_2 x6_1).length : Int) then (changeforgeref1_suffixes.l1 k2 l0 l1 (x5_2.set (x6_1 : Int).toNat ((rd_L4 x5_2 x6_1).set (x7_2 : Int).toNat (wrap64 ((rd (rd_L4 x5_2 (ji25)) (wrap64 (x7_2 + 1))) + 1)))) x6_1 (wrap64 (x7_2 - 1))) else (none)) else (if x7_2 < ((rd_L4 x5_2 x6_1).length : Int) then (changeforgeref1_suffixes.l1 k2 l0 l1 (x5_2.set (x6_1 : Int).toNat ((rd_L4 x5_2 x6_1).set (x7_2 : Int).toNat (rd (rd_L4 x5_2 (ji25)) x7_2))) x6_1 (wrap64 (x7_2 - 1))) else (none))) else (none)) else (if x7_2 < ((rd_L4 x5_2 x6_1).length : Int) then (changeforgeref1_suffixes.l1 k2 l0 l1 (x5_2.set (x6_1 : Int).toNat ((rd_L4 x5_2 x6_1).set (x7_2 : Int).toNat (rd (rd_L4 x5_2 (ji25)) x7_2))) x6_1 (wrap64 (x7_2 - 1))) else (none))) else (none)) else (none))) else (none)) else (none)) else (none)) else (none)) else (none)) else (none)) else (none)) else (none)) = some r := by first | (rw [hji25] at H; exact H) | (simp only [hji25] at H ⊢; exact H)
                 have hji25w : (IntKind.i64.wrap (x6_1 + 1)) = ji25 := (i64_w _).trans hji25
                 by_cases c26 : 0 ≤ (ji25)
                 · rw [if_pos c26] at H
                   have c26b0 : decide (0 ≤ (ji25)) = true := decide_eq_true c26
                   clear c26
                   by_cases c27 : (ji25) < (x5_2.length : Int)
                   · rw [if_pos c27] at H
                     have c27b0 : decide ((ji25) < (x5_2.length : Int)) = true := decide_eq_true c27
                     (try (have c27b0h := c27b0; simp only [hl5_2] at c27b0h))
                     clear c27
                     by_cases c28 : 0 ≤ x7_2
                     · rw [if_pos c28] at H
                       have c28b0 : decide (0 ≤ x7_2) = true := decide_eq_true c28
                       clear c28
                       by_cases c29 : x7_2 < ((rd_L4 x5_2 (ji25)).length : Int)
                       · rw [if_pos c29] at H
                         have c29b0 : decide (x7_2 < ((rd_L4 x5_2 (ji25)).length : Int)) = true := decide_eq_true c29
                         (try (have c29b0h := c29b0; simp only [hl5_2] at c29b0h))
                         clear c29
                         by_cases c30 : 0 ≤ x6_1
                         · rw [if_pos c30] at H
                           have c30b0 : decide (0 ≤ x6_1) = true := decide_eq_true c30
                           clear c30
                           by_cases c31 : x6_1 < (x5_2.length : Int)
                           · rw [if_pos c31] at H
                             have c31b0 : decide (x6_1 < (x5_2.length : Int)) = true := decide_eq_true c31
                             (try (have c31b0h := c31b0; simp only [hl5_2] at c31b0h))
                             clear c31
                             obtain ⟨ji32, hji32⟩ : ∃ j_ : Int, (wrap64 (x7_2 + 1)) = j_ := ⟨_, rfl⟩
                             replace H : (if 0 ≤ (ji32) then (if (ji32) < ((rd_L4 x5_2 x6_1).length : Int) then (if (rd (rd_L4 x5_2 x6_1) (ji32)) > (rd (rd_L4 x5_2 (ji25)) x7_2) then (if x7_2 < (l0.length : Int) then (if x6_1 < (l1.length : Int) then (if (rdOf ByteArray.empty l0 x7_2).toList = (rdOf ByteArray.empty l1 x6_1).toList then (if (ji32) < ((rd_L4 x5_2 (ji25)).length : Int) then (if (wrap64 ((rd (rd_L4 x5_2 (ji25)) (ji32)) + 1)) > (rd (rd_L4 x5_2 x6_1) (ji32)) then (if x7_2 < ((rd_L4 x5_2 x6_1).length : Int) then (changeforgeref1_suffixes.l1 k2 l0 l1 (x5_2.set (x6_1 : Int).toNat ((rd_L4 x5_2 x6_1).set (x7_2 : Int).toNat (wrap64 ((rd (rd_L4 x5_2 (ji25)) (ji32)) + 1)))) x6_1 (wrap64 (x7_2 - 1))) else (none)) else (if x7_2 < ((rd_L4 x5_2 x6_1).length : Int) then (changeforgeref1_suffixes.l1 k2 l0 l1 (x5_2.set (x6_1 : Int).toNat ((rd_L4 x5_2 x6_1).set (x7_2 : Int).toNat (rd (rd_L4 x5_2 x6_1) (ji32)))) x6_1 (wrap64 (x7_2 - 1))) else (none))) else (none)) else (if x7_2 < ((rd_L4 x5_2 x6_1).length : Int) then (changeforgeref1_suffixes.l1 k2 l0 l1 (x5_2.set (x6_1 : Int).toNat ((rd_L4 x5_2 x6_1).set (x7_2 : Int).toNat (rd (rd_L4 x5_2 x6_1) (ji32)))) x6_1 (wrap64 (x7_2 - 1))) else (none))) else (none)) else (none)) else (if x7_2 < (l0.length : Int) then (if x6_1 < (l1.length : Int) then (if (rdOf ByteArray.empty l0 x7_2).toList = (rdOf ByteArray.empty l1 x6_1).toList then (if (ji32) < ((rd_L4 x5_2 (ji25)).length : Int) then (if (wrap64 ((rd (rd_L4 x5_2 (ji25)) (ji32)) + 1)) > (rd (rd_L4 x5_2 (ji25)) x7_2) then (if x7_2 < ((rd_L4 x5_2 x6_1).length : Int) then (changeforgeref1_suffixes.l1 k2 l0 l1 (x5_2.set (x6_1 : Int).toNat ((rd_L4 x5_2 x6_1).set (x7_2 : Int).toNat (wrap64 ((rd (rd_L4 x5_2 (ji25)) (ji32)) + 1)))) x6_1 (wrap64 (x7_2 - 1))) else (none)) else (if x7_2 < ((rd_L4 x5_2 x6_1).length : Int) then (changeforgeref1_suffixes.l1 k2 l0 l1 (x5_2.set (x6_1 : Int).toNat ((rd_L4 x5_2 x6_1).set (x7_2 : Int).toNat (rd (rd_L4 x5_2 (ji25)) x7_2))) x6_1 (wrap64 (x7_2 - 1))) else (none))) else (none)) else (if x7_2 < ((rd_L4 x5_2 x6_1).length : Int) then (changeforgeref1_suffixes.l1 k2 l0 l1 (x5_2.set (x6_1 : Int).toNat ((rd_L4 x5_2 x6_1).set (x7_2 : Int).toNat (rd (rd_L4 x5_2 (ji25)) x7_2))) x6_1 (wrap64 (x7_2 - 1))) else (none))) else (none)) else (none))) else (none)) else (none)) = some r := by first | (rw [hji32] at H; exact H) | (simp only [hji32] at H ⊢; exact H)
                             have hji32w : (IntKind.i64.wrap (x7_2 + 1)) = ji32 := (i64_w _).trans hji32
                             by_cases c33 : 0 ≤ (ji32)
                             · rw [if_pos c33] at H
                               have c33b0 : decide (0 ≤ (ji32)) = true := decide_eq_true c33
                               clear c33
                               by_cases c34 : (ji32) < ((rd_L4 x5_2 x6_1).length : Int)
                               · rw [if_pos c34] at H
                                 have c34b0 : decide ((ji32) < ((rd_L4 x5_2 x6_1).length : Int)) = true := decide_eq_true c34
                                 (try (have c34b0h := c34b0; simp only [hl5_2] at c34b0h))
                                 clear c34
                                 by_cases c35 : (rd (rd_L4 x5_2 x6_1) (ji32)) > (rd (rd_L4 x5_2 (ji25)) x7_2)
                                 · rw [if_pos c35] at H
                                   have c35b0 : decide ((rd (rd_L4 x5_2 (ji25)) x7_2) < (rd (rd_L4 x5_2 x6_1) (ji32))) = true := decide_eq_true c35
                                   clear c35
                                   by_cases c36 : x7_2 < (l0.length : Int)
                                   · rw [if_pos c36] at H
                                     have c36b0 : decide (x7_2 < (l0.length : Int)) = true := decide_eq_true c36
                                     (try (have c36b0h := c36b0; simp only [hl5_2] at c36b0h))
                                     clear c36
                                     by_cases c37 : x6_1 < (l1.length : Int)
                                     · rw [if_pos c37] at H
                                       have c37b0 : decide (x6_1 < (l1.length : Int)) = true := decide_eq_true c37
                                       (try (have c37b0h := c37b0; simp only [hl5_2] at c37b0h))
                                       clear c37
                                       by_cases c38 : (rdOf ByteArray.empty l0 x7_2).toList = (rdOf ByteArray.empty l1 x6_1).toList
                                       · rw [if_pos c38] at H
                                         have c38b0 : ((rdOf ByteArray.empty l0 x7_2).toList == (rdOf ByteArray.empty l1 x6_1).toList) = true := beq_iff_eq.mpr c38
                                         have c38b1 : ((rdOf ByteArray.empty l0 x7_2).toList != (rdOf ByteArray.empty l1 x6_1).toList) = false := bne_eq_false_iff_eq.mpr c38
                                         clear c38
                                         by_cases c39 : (ji32) < ((rd_L4 x5_2 (ji25)).length : Int)
                                         · rw [if_pos c39] at H
                                           have c39b0 : decide ((ji32) < ((rd_L4 x5_2 (ji25)).length : Int)) = true := decide_eq_true c39
                                           (try (have c39b0h := c39b0; simp only [hl5_2] at c39b0h))
                                           clear c39
                                           by_cases c40 : (wrap64 ((rd (rd_L4 x5_2 (ji25)) (ji32)) + 1)) > (rd (rd_L4 x5_2 x6_1) (ji32))
                                           · rw [if_pos c40] at H
                                             have c40b0 : decide ((rd (rd_L4 x5_2 x6_1) (ji32)) < (wrap64 ((rd (rd_L4 x5_2 (ji25)) (ji32)) + 1))) = true := decide_eq_true c40
                                             clear c40
                                             by_cases c41 : x7_2 < ((rd_L4 x5_2 x6_1).length : Int)
                                             · rw [if_pos c41] at H
                                               have c41b0 : decide (x7_2 < ((rd_L4 x5_2 x6_1).length : Int)) = true := decide_eq_true c41
                                               (try (have c41b0h := c41b0; simp only [hl5_2] at c41b0h))
                                               clear c41
                                               obtain ⟨y247, hy247⟩ : ∃ y_ : List Int, y_ = ((rd_L4 x5_2 x6_1).set (x7_2 : Int).toNat (wrap64 ((rd (rd_L4 x5_2 (ji25)) (ji32)) + 1))) := ⟨_, rfl⟩
                                               replace H : (changeforgeref1_suffixes.l1 k2 l0 l1 (x5_2.set (x6_1 : Int).toNat y247) x6_1 (wrap64 (x7_2 - 1))) = some r := by first | (rw [hy247]; with_reducible exact H) | (have H2_ := (Option.bind_some _ _).symm.trans H; rw [hy247]; with_reducible exact H2_) | (have H2_ := (Option.bind_some _ _).symm.trans H; with_reducible exact H2_) | with_reducible exact H | (rw [hy247]; exact H) | exact H
                                               have Ny247 := Aside0.mk hy247
                                               clear hy247
                                               obtain ⟨y249, hy249⟩ : ∃ y_ : List (List Int), y_ = (x5_2.set (x6_1 : Int).toNat y247) := ⟨_, rfl⟩
                                               replace H : (changeforgeref1_suffixes.l1 k2 l0 l1 y249 x6_1 (wrap64 (x7_2 - 1))) = some r := by first | (rw [hy249]; with_reducible exact H) | (have H2_ := (Option.bind_some _ _).symm.trans H; rw [hy249]; with_reducible exact H2_) | (have H2_ := (Option.bind_some _ _).symm.trans H; with_reducible exact H2_) | with_reducible exact H | (rw [hy249]; exact H) | exact H
                                               have Ny249 := Aside0.mk hy249
                                               clear hy249
                                               have H' := Aside0.mk H
                                               clear H
                                               have p234 : 0 ≤ ((ji25) : Int) := of_decide_eq_true (by first | (with_reducible assumption) | assumption)
                                               have q234 : (ji25) < (x5_2.length : Int) := of_decide_eq_true (by first | (with_reducible assumption) | assumption)
                                               obtain ⟨ad234, A234_0, c234_0, e234, hx234_0, hl234_0, hi234_0⟩ := at_L4 (Kd.S_reads' HO_5.out).2.2 (ji25) p234 q234
                                               obtain rfl : (⟨go14, 0, none⟩ : Addr) = ad234 := (by injection e234)
                                               obtain ⟨ce234, hce234, hMe234, hcc234⟩ := Kd.S_get HO_5.out [] (ji25) p234 (by first | exact q234 | exact of_decide_eq_true (by first | (with_reducible assumption) | assumption) | (have e_ := (Kd.S_reads' HO_5.out).1; omega))
                                               obtain ⟨ve234_0, rfl, ge234_0⟩ := hMe234
                                               have hv234_0 := hcc234 0 _ rfl
                                               rw [Nat.add_zero, show ((Kd.slice 3 (Kd.int .i64))).sz = 1 from rfl, Nat.mul_one] at hv234_0
                                               replace hv234_0 := Option.some.inj (hv234_0.symm.trans hx234_0)
                                               rw [hv234_0] at ge234_0
                                               have HL234_0 := Aside0.mk (show Kd.R (Kd.int .i64) 3 _ _ _ _ (rd_L4 x5_2 (ji25)) from ge234_0)
                                               clear hv234_0 ge234_0
                                               have HX234_0 := Aside0.mk hx234_0
                                               clear hcc234 hce234
                                               (first | simp only [add_plain] at hx234_0 | simp only [add_at] at hx234_0 | simp only [Addr.add, Nat.zero_add] at hx234_0 | skip)
                                               have HR234_0 := Aside0.mk hi234_0
                                               have HC234_0 := Aside0.mk hl234_0
                                               clear hi234_0 hl234_0
                                               replace p234 := eq_true p234
                                               replace q234 := eq_true q234
                                               have p235 : 0 ≤ (x7_2 : Int) := of_decide_eq_true (by first | (with_reducible assumption) | assumption)
                                               have q235 : x7_2 < ((rd_L4 x5_2 (ji25)).length : Int) := of_decide_eq_true (by first | (with_reducible assumption) | assumption)
                                               obtain ⟨ad235, e235, hx235_0⟩ := Kd.at_int (by repeat (first | (with_reducible exact HR234_0.out) | (with_reducible refine Kd.C_alloc ?_ _) | (with_reducible refine Kd.C_drewN ?_ _) | (with_reducible refine Kd.C_drew ?_) | exact HR234_0.out)) x7_2 p235 q235
                                               cases e235
                                               replace p235 := eq_true p235
                                               replace q235 := eq_true q235
                                               have p236 : 0 ≤ (x6_1 : Int) := of_decide_eq_true (by first | (with_reducible assumption) | assumption)
                                               have q236 : x6_1 < (x5_2.length : Int) := of_decide_eq_true (by first | (with_reducible assumption) | assumption)
                                               obtain ⟨ad236, A236_0, c236_0, e236, hx236_0, hl236_0, hi236_0⟩ := at_L4 (Kd.S_reads' HO_5.out).2.2 x6_1 p236 q236
                                               obtain rfl : (⟨go14, 0, none⟩ : Addr) = ad236 := (by injection e236)
                                               obtain ⟨ce236, hce236, hMe236, hcc236⟩ := Kd.S_get HO_5.out [] x6_1 p236 (by first | exact q236 | exact of_decide_eq_true (by first | (with_reducible assumption) | assumption) | (have e_ := (Kd.S_reads' HO_5.out).1; omega))
                                               obtain ⟨ve236_0, rfl, ge236_0⟩ := hMe236
                                               have hv236_0 := hcc236 0 _ rfl
                                               rw [Nat.add_zero, show ((Kd.slice 3 (Kd.int .i64))).sz = 1 from rfl, Nat.mul_one] at hv236_0
                                               replace hv236_0 := Option.some.inj (hv236_0.symm.trans hx236_0)
                                               rw [hv236_0] at ge236_0
                                               have HL236_0 := Aside0.mk (show Kd.R (Kd.int .i64) 3 _ _ _ _ (rd_L4 x5_2 x6_1) from ge236_0)
                                               clear hv236_0 ge236_0
                                               have HX236_0 := Aside0.mk hx236_0
                                               clear hcc236 hce236
                                               (first | simp only [add_plain] at hx236_0 | simp only [add_at] at hx236_0 | simp only [Addr.add, Nat.zero_add] at hx236_0 | skip)
                                               have HR236_0 := Aside0.mk hi236_0
                                               have HC236_0 := Aside0.mk hl236_0
                                               clear hi236_0 hl236_0
                                               replace p236 := eq_true p236
                                               replace q236 := eq_true q236
                                               have p237 : 0 ≤ ((ji32) : Int) := of_decide_eq_true (by first | (with_reducible assumption) | assumption)
                                               have q237 : (ji32) < ((rd_L4 x5_2 x6_1).length : Int) := of_decide_eq_true (by first | (with_reducible assumption) | assumption)
                                               obtain ⟨ad237, e237, hx237_0⟩ := Kd.at_int (by repeat (first | (with_reducible exact HR236_0.out) | (with_reducible refine Kd.C_alloc ?_ _) | (with_reducible refine Kd.C_drewN ?_ _) | (with_reducible refine Kd.C_drew ?_) | exact HR236_0.out)) (ji32) p237 q237
                                               cases e237
                                               replace p237 := eq_true p237
                                               replace q237 := eq_true q237
                                               have p238 : 0 ≤ (x6_1 : Int) := of_decide_eq_true (by first | (with_reducible assumption) | assumption)
                                               have q238 : x6_1 < (x5_2.length : Int) := of_decide_eq_true (by first | (with_reducible assumption) | assumption)
                                               obtain ⟨ad238, A238_0, c238_0, e238, hx238_0, hl238_0, hi238_0⟩ := at_L4 (Kd.S_reads' HO_5.out).2.2 x6_1 p238 q238
                                               obtain rfl : (⟨go14, 0, none⟩ : Addr) = ad238 := (by injection e238)
                                               obtain ⟨ce238, hce238, hMe238, hcc238⟩ := Kd.S_get HO_5.out [] x6_1 p238 (by first | exact q238 | exact of_decide_eq_true (by first | (with_reducible assumption) | assumption) | (have e_ := (Kd.S_reads' HO_5.out).1; omega))
                                               obtain ⟨ve238_0, rfl, ge238_0⟩ := hMe238
                                               have hv238_0 := hcc238 0 _ rfl
                                               rw [Nat.add_zero, show ((Kd.slice 3 (Kd.int .i64))).sz = 1 from rfl, Nat.mul_one] at hv238_0
                                               replace hv238_0 := Option.some.inj (hv238_0.symm.trans hx238_0)
                                               rw [hv238_0] at ge238_0
                                               have HL238_0 := Aside0.mk (show Kd.R (Kd.int .i64) 3 _ _ _ _ (rd_L4 x5_2 x6_1) from ge238_0)
                                               clear hv238_0 ge238_0
                                               have HX238_0 := Aside0.mk hx238_0
                                               clear hcc238 hce238
                                               (first | simp only [add_plain] at hx238_0 | simp only [add_at] at hx238_0 | simp only [Addr.add, Nat.zero_add] at hx238_0 | skip)
                                               have HR238_0 := Aside0.mk hi238_0
                                               have HC238_0 := Aside0.mk hl238_0
                                               clear hi238_0 hl238_0
                                               replace p238 := eq_true p238
                                               replace q238 := eq_true q238
                                               have ea_ := Option.some.inj (hx236_0.symm.trans hx238_0)
                                               injection ea_ with ea_ en_ ec_
                                               subst ea_
                                               subst ec_
                                               clear en_
                                               have p239 : 0 ≤ ((ji32) : Int) := of_decide_eq_true (by first | (with_reducible assumption) | assumption)
                                               have q239 : (ji32) < ((rd_L4 x5_2 x6_1).length : Int) := of_decide_eq_true (by first | (with_reducible assumption) | assumption)
                                               obtain ⟨ad239, e239, hx239_0⟩ := Kd.at_int (by repeat (first | (with_reducible exact HR238_0.out) | (with_reducible refine Kd.C_alloc ?_ _) | (with_reducible refine Kd.C_drewN ?_ _) | (with_reducible refine Kd.C_drew ?_) | exact HR238_0.out)) (ji32) p239 q239
                                               cases e239
                                               replace p239 := eq_true p239
                                               replace q239 := eq_true q239
                                               have p240 : 0 ≤ (x7_2 : Int) := of_decide_eq_true (by first | (with_reducible assumption) | assumption)
                                               have q240 : x7_2 < (l0.length : Int) := of_decide_eq_true (by first | (with_reducible assumption) | assumption)
                                               obtain ⟨ad240, e240, hx240_0⟩ := Kd.at_string HR0.out x7_2 p240 q240
                                               cases e240
                                               replace hx240_0 := (HB.out.cell (World.block_lt_of_cell? w _ hx240_0)).trans hx240_0
                                               replace p240 := eq_true p240
                                               replace q240 := eq_true q240
                                               have p241 : 0 ≤ (x6_1 : Int) := of_decide_eq_true (by first | (with_reducible assumption) | assumption)
                                               have q241 : x6_1 < (l1.length : Int) := of_decide_eq_true (by first | (with_reducible assumption) | assumption)
                                               obtain ⟨ad241, e241, hx241_0⟩ := Kd.at_string HR1.out x6_1 p241 q241
                                               cases e241
                                               replace hx241_0 := (HB.out.cell (World.block_lt_of_cell? w _ hx241_0)).trans hx241_0
                                               replace p241 := eq_true p241
                                               replace q241 := eq_true q241
                                               have p242 : 0 ≤ ((ji25) : Int) := of_decide_eq_true (by first | (with_reducible assumption) | assumption)
                                               have q242 : (ji25) < (x5_2.length : Int) := of_decide_eq_true (by first | (with_reducible assumption) | assumption)
                                               obtain ⟨ad242, A242_0, c242_0, e242, hx242_0, hl242_0, hi242_0⟩ := at_L4 (Kd.S_reads' HO_5.out).2.2 (ji25) p242 q242
                                               obtain rfl : (⟨go14, 0, none⟩ : Addr) = ad242 := (by injection e242)
                                               obtain ⟨ce242, hce242, hMe242, hcc242⟩ := Kd.S_get HO_5.out [] (ji25) p242 (by first | exact q242 | exact of_decide_eq_true (by first | (with_reducible assumption) | assumption) | (have e_ := (Kd.S_reads' HO_5.out).1; omega))
                                               obtain ⟨ve242_0, rfl, ge242_0⟩ := hMe242
                                               have hv242_0 := hcc242 0 _ rfl
                                               rw [Nat.add_zero, show ((Kd.slice 3 (Kd.int .i64))).sz = 1 from rfl, Nat.mul_one] at hv242_0
                                               replace hv242_0 := Option.some.inj (hv242_0.symm.trans hx242_0)
                                               rw [hv242_0] at ge242_0
                                               have HL242_0 := Aside0.mk (show Kd.R (Kd.int .i64) 3 _ _ _ _ (rd_L4 x5_2 (ji25)) from ge242_0)
                                               clear hv242_0 ge242_0
                                               have HX242_0 := Aside0.mk hx242_0
                                               clear hcc242 hce242
                                               (first | simp only [add_plain] at hx242_0 | simp only [add_at] at hx242_0 | simp only [Addr.add, Nat.zero_add] at hx242_0 | skip)
                                               have HR242_0 := Aside0.mk hi242_0
                                               have HC242_0 := Aside0.mk hl242_0
                                               clear hi242_0 hl242_0
                                               replace p242 := eq_true p242
                                               replace q242 := eq_true q242
                                               have ea_ := Option.some.inj (hx234_0.symm.trans hx242_0)
                                               injection ea_ with ea_ en_ ec_
                                               subst ea_
                                               subst ec_
                                               clear en_
                                               have p243 : 0 ≤ ((ji32) : Int) := of_decide_eq_true (by first | (with_reducible assumption) | assumption)
                                               have q243 : (ji32) < ((rd_L4 x5_2 (ji25)).length : Int) := of_decide_eq_true (by first | (with_reducible assumption) | assumption)
                                               obtain ⟨ad243, e243, hx243_0⟩ := Kd.at_int (by repeat (first | (with_reducible exact HR242_0.out) | (with_reducible refine Kd.C_alloc ?_ _) | (with_reducible refine Kd.C_drewN ?_ _) | (with_reducible refine Kd.C_drew ?_) | exact HR242_0.out)) (ji32) p243 q243
                                               cases e243
                                               replace p243 := eq_true p243
                                               replace q243 := eq_true q243
                                               have p244 : 0 ≤ ((ji25) : Int) := of_decide_eq_true (by first | (with_reducible assumption) | assumption)
                                               have q244 : (ji25) < (x5_2.length : Int) := of_decide_eq_true (by first | (with_reducible assumption) | assumption)
                                               obtain ⟨ad244, A244_0, c244_0, e244, hx244_0, hl244_0, hi244_0⟩ := at_L4 (Kd.S_reads' HO_5.out).2.2 (ji25) p244 q244
                                               obtain rfl : (⟨go14, 0, none⟩ : Addr) = ad244 := (by injection e244)
                                               obtain ⟨ce244, hce244, hMe244, hcc244⟩ := Kd.S_get HO_5.out [] (ji25) p244 (by first | exact q244 | exact of_decide_eq_true (by first | (with_reducible assumption) | assumption) | (have e_ := (Kd.S_reads' HO_5.out).1; omega))
                                               obtain ⟨ve244_0, rfl, ge244_0⟩ := hMe244
                                               have hv244_0 := hcc244 0 _ rfl
                                               rw [Nat.add_zero, show ((Kd.slice 3 (Kd.int .i64))).sz = 1 from rfl, Nat.mul_one] at hv244_0
                                               replace hv244_0 := Option.some.inj (hv244_0.symm.trans hx244_0)
                                               rw [hv244_0] at ge244_0
                                               have HL244_0 := Aside0.mk (show Kd.R (Kd.int .i64) 3 _ _ _ _ (rd_L4 x5_2 (ji25)) from ge244_0)
                                               clear hv244_0 ge244_0
                                               have HX244_0 := Aside0.mk hx244_0
                                               clear hcc244 hce244
                                               (first | simp only [add_plain] at hx244_0 | simp only [add_at] at hx244_0 | simp only [Addr.add, Nat.zero_add] at hx244_0 | skip)
                                               have HR244_0 := Aside0.mk hi244_0
                                               have HC244_0 := Aside0.mk hl244_0
                                               clear hi244_0 hl244_0
                                               replace p244 := eq_true p244
                                               replace q244 := eq_true q244
                                               have ea_ := Option.some.inj (hx234_0.symm.trans hx244_0)
                                               injection ea_ with ea_ en_ ec_
                                               subst ea_
                                               subst ec_
                                               clear en_
                                               have p245 : 0 ≤ ((ji32) : Int) := of_decide_eq_true (by first | (with_reducible assumption) | assumption)
                                               have q245 : (ji32) < ((rd_L4 x5_2 (ji25)).length : Int) := of_decide_eq_true (by first | (with_reducible assumption) | assumption)
                                               obtain ⟨ad245, e245, hx245_0⟩ := Kd.at_int (by repeat (first | (with_reducible exact HR244_0.out) | (with_reducible refine Kd.C_alloc ?_ _) | (with_reducible refine Kd.C_drewN ?_ _) | (with_reducible refine Kd.C_drew ?_) | exact HR244_0.out)) (ji32) p245 q245
                                               cases e245
                                               replace p245 := eq_true p245
                                               replace q245 := eq_true q245
                                               have p246 : 0 ≤ (x6_1 : Int) := of_decide_eq_true (by first | (with_reducible assumption) | assumption)
                                               have q246 : x6_1 < (x5_2.length : Int) := of_decide_eq_true (by first | (with_reducible assumption) | assumption)
                                               obtain ⟨ad246, A246_0, c246_0, e246, hx246_0, hl246_0, hi246_0⟩ := at_L4 (Kd.S_reads' HO_5.out).2.2 x6_1 p246 q246
                                               obtain rfl : (⟨go14, 0, none⟩ : Addr) = ad246 := (by injection e246)
                                               obtain ⟨ce246, hce246, hMe246, hcc246⟩ := Kd.S_get HO_5.out [] x6_1 p246 (by first | exact q246 | exact of_decide_eq_true (by first | (with_reducible assumption) | assumption) | (have e_ := (Kd.S_reads' HO_5.out).1; omega))
                                               obtain ⟨ve246_0, rfl, ge246_0⟩ := hMe246
                                               have hv246_0 := hcc246 0 _ rfl
                                               rw [Nat.add_zero, show ((Kd.slice 3 (Kd.int .i64))).sz = 1 from rfl, Nat.mul_one] at hv246_0
                                               replace hv246_0 := Option.some.inj (hv246_0.symm.trans hx246_0)
                                               rw [hv246_0] at ge246_0
                                               have HL246_0 := Aside0.mk (show Kd.R (Kd.int .i64) 3 _ _ _ _ (rd_L4 x5_2 x6_1) from ge246_0)
                                               clear hv246_0 ge246_0
                                               have HX246_0 := Aside0.mk hx246_0
                                               clear hcc246 hce246
                                               (first | simp only [add_plain] at hx246_0 | simp only [add_at] at hx246_0 | simp only [Addr.add, Nat.zero_add] at hx246_0 | skip)
                                               have HR246_0 := Aside0.mk hi246_0
                                               have HC246_0 := Aside0.mk hl246_0
                                               clear hi246_0 hl246_0
                                               replace p246 := eq_true p246
                                               replace q246 := eq_true q246
                                               have ea_ := Option.some.inj (hx236_0.symm.trans hx246_0)
                                               injection ea_ with ea_ en_ ec_
                                               subst ea_
                                               subst ec_
                                               clear en_
                                               have p42 : 0 ≤ (x7_2 : Int) := of_decide_eq_true (by first | (with_reducible assumption) | assumption)
                                               have q42 : (x7_2 : Int) < (((rd_L4 x5_2 x6_1).length : Int) : Int) := of_decide_eq_true (by first | (with_reducible assumption) | assumption)
                                               obtain ⟨go42, co42, eo42, gb42, gl42, cl42, HG42⟩ := Kd.R_form HL246_0.out (by omega)
                                               (first | cases eo42 | (injection eo42 with ea_ en_ ec_; (first | subst ea_ | (injection ea_ with ea_; subst ea_)); subst ec_; clear en_))
                                               have GB42 := Aside0.mk gb42
                                               have GG42 := Aside0.mk HG42
                                               clear gb42 gl42 HG42
                                               (first | simp only [add_plain] at hx239_0 | skip)
                                               obtain ⟨hx42_0, hf42_0⟩ := Kd.R_celln 0 HL246_0.out (x7_2 : Int) p42 q42
                                               replace p42 := eq_true p42
                                               replace q42 := eq_true q42
                                               have hq43 : (x6_1 : Int) < (x5_2.length : Int) := (by have h_ : (x6_1 : Int) < ((x5_2.length : Int) : Int) := of_decide_eq_true (by first | (with_reducible assumption) | assumption); first | exact h_ | (have e_ := (Kd.S_reads' HO_5.out).1; omega) | simpa only [List.length_set, List.length_set] using h_)
                                               obtain ⟨oki43, ce43, hcl43, hM43, hcc43, hok43, hbk43⟩ := Kd.S_borrow HO_5.out [] (x6_1 : Int) (of_decide_eq_true (by first | (with_reducible assumption) | assumption)) hq43
                                               obtain ⟨ve43_0, rfl, ge43_0⟩ := hM43
                                               have hv43 := hcc43 0 _ rfl
                                               rw [Nat.add_zero, show ((Kd.slice 3 (Kd.int .i64))).sz = 1 from rfl, Nat.mul_one] at hv43
                                               replace hv43 := Option.some.inj (hv43.symm.trans HX246_0.out)
                                               subst hv43
                                               clear hcc43 hcl43
                                               replace ge43_0 := (show Kd.R (Kd.int .i64) 3 _ _ _ _ (rd_L4 x5_2 x6_1) from ge43_0)
                                               have HP43 := Kd.R_putg ge43_0 (x7_2 : Int) (wrap64 ((rd (rd_L4 x5_2 (ji25)) (ji32)) + 1))
                                               go_wp2_with (first | ((with_reducible refine gate_store (t := 3) (p := 102) rfl ?_); (try (rw [drewN_self wr]; generalize hq_ : World.drewN wr _ = wr; have n0_ := Aside0.mk (Kd.S_at hq_ HO_5.out); have n1_ := Aside0.mk (Kd.R_at hq_ HL234_0.out); have n2_ := Aside0.mk (Kd.R_at hq_ HL236_0.out); have n3_ := Aside0.mk (Kd.R_at hq_ HL238_0.out); have n4_ := Aside0.mk (Kd.R_at hq_ HL242_0.out); have n5_ := Aside0.mk (Kd.R_at hq_ HL244_0.out); have n6_ := Aside0.mk (Kd.R_at hq_ HL246_0.out); have n7_ := Aside0.mk (Kd.C_at hq_ HR234_0.out); have n8_ := Aside0.mk (Kd.C_at hq_ HR236_0.out); have n9_ := Aside0.mk (Kd.C_at hq_ HR238_0.out); have n10_ := Aside0.mk (Kd.C_at hq_ HR242_0.out); have n11_ := Aside0.mk (Kd.C_at hq_ HR244_0.out); have n12_ := Aside0.mk (Kd.C_at hq_ HR246_0.out); have n13_ := Aside0.mk (cell_at hq_ HX234_0.out); have n14_ := Aside0.mk (cell_at hq_ HX236_0.out); have n15_ := Aside0.mk (cell_at hq_ HX238_0.out); have n16_ := Aside0.mk (cell_at hq_ HX242_0.out); have n17_ := Aside0.mk (cell_at hq_ HX244_0.out); have n18_ := Aside0.mk (cell_at hq_ HX246_0.out); have n19_ := Aside0.mk (below_at hq_ HB.out); clear hq_ HO_5 HL234_0 HL236_0 HL238_0 HL242_0 HL244_0 HL246_0 HR234_0 HR236_0 HR238_0 HR242_0 HR244_0 HR246_0 HX234_0 HX236_0 HX238_0 HX242_0 HX244_0 HX246_0 HB; have HO_5 := n0_; have HL234_0 := n1_; have HL236_0 := n2_; have HL238_0 := n3_; have HL242_0 := n4_; have HL244_0 := n5_; have HL246_0 := n6_; have HR234_0 := n7_; have HR236_0 := n8_; have HR238_0 := n9_; have HR242_0 := n10_; have HR244_0 := n11_; have HR246_0 := n12_; have HX234_0 := n13_; have HX236_0 := n14_; have HX238_0 := n15_; have HX242_0 := n16_; have HX244_0 := n17_; have HX246_0 := n18_; have HB := n19_; clear n0_ n1_ n2_ n3_ n4_ n5_ n6_ n7_ n8_ n9_ n10_ n11_ n12_ n13_ n14_ n15_ n16_ n17_ n18_ n19_; (try (have p42 : 0 ≤ (x7_2 : Int) := of_decide_eq_true (by first | (with_reducible assumption) | assumption))); (try (have q42 : (x7_2 : Int) < (((rd_L4 x5_2 x6_1).length : Int) : Int) := of_decide_eq_true (by first | (with_reducible assumption) | assumption))); (try (obtain ⟨go42, co42, eo42, gb42, gl42, cl42, HG42⟩ := Kd.R_form HL246_0.out (by omega))); (try (first | cases eo42 | (injection eo42 with ea_ en_ ec_; (first | subst ea_ | (injection ea_ with ea_; subst ea_)); subst ec_; clear en_))); (try (have GB42 := Aside0.mk gb42)); (try (have GG42 := Aside0.mk HG42)); (try (clear gb42 gl42 HG42)); (try (first | simp only [add_plain] at hx239_0 | skip)); (try (obtain ⟨hx42_0, hf42_0⟩ := Kd.R_celln 0 HL246_0.out (x7_2 : Int) p42 q42)); (try (replace p42 := eq_true p42)); (try (replace q42 := eq_true q42)); (try (have hq43 : (x6_1 : Int) < (x5_2.length : Int) := (by have h_ : (x6_1 : Int) < ((x5_2.length : Int) : Int) := of_decide_eq_true (by first | (with_reducible assumption) | assumption); first | exact h_ | (have e_ := (Kd.S_reads' HO_5.out).1; omega) | simpa only [List.length_set, List.length_set] using h_))); (try (obtain ⟨oki43, ce43, hcl43, hM43, hcc43, hok43, hbk43⟩ := Kd.S_borrow HO_5.out [] (x6_1 : Int) (of_decide_eq_true (by first | (with_reducible assumption) | assumption)) hq43)); (try (obtain ⟨ve43_0, rfl, ge43_0⟩ := hM43)); (try (have hv43 := hcc43 0 _ rfl)); (try (rw [Nat.add_zero, show ((Kd.slice 3 (Kd.int .i64))).sz = 1 from rfl, Nat.mul_one] at hv43)); (try (replace hv43 := Option.some.inj (hv43.symm.trans HX246_0.out))); (try (subst hv43)); (try (clear hcc43 hcl43)); (try (replace ge43_0 := (show Kd.R (Kd.int .i64) 3 _ _ _ _ (rd_L4 x5_2 x6_1) from ge43_0))); (try (have HP43 := Kd.R_putg ge43_0 (x7_2 : Int) (wrap64 ((rd (rd_L4 x5_2 (ji25)) (ji32)) + 1)))))); refine store_event (t := 3) (p := 102) (v := ?vo_w44) (w1 := (wr.setCell ⟨go42, (x7_2 : Int).toNat, none⟩ (.int .i64 (wrap64 ((rd (rd_L4 x5_2 (ji25)) (ji32)) + 1))))) ?hg ?ho ?hn ?hr ?_; (case ho => rfl); (case hg => rfl); (case hn => rfl); (case hr => first | (go_simp; done) | (go_simp; rfl)); intro w44 hw; have hg : wr.grownBy w44 (some go42) := (by rw [hw]; exact HP43.2); have hz_ : Kd.R (Kd.int .i64) 3 w44 w.heap.size oki43 (.slice (some ⟨go42, 0, none⟩) (rd_L4 x5_2 x6_1).length c236_0) y247 := (by rw [hw, Ny247.out]; exact HP43.1); have hp_ : Kd.S (Kd.slice 3 (Kd.int .i64)) 23 w44 w.heap.size (fun _ => True) (.slice (some ⟨go14, 0, none⟩) x5_2.length co14) y249 := (by rw [Ny249.out]; exact hbk43 hg (fun k_ e_ => by injection e_ with e_; subst e_; exact ge43_0.1 _ rfl) (Kd.M_row hz_)); have hm_ := Kd.R_mono hz_ hok43; clear HP43 hbk43; have n0_ := Aside0.mk (hp_); have n1_ := Aside0.mk ((by rw [hw]; exact below_set (HB.out) GB42.out : Below w.heap.size w w44)); have n2_ := Aside0.mk (hm_); have n3_ := Aside0.mk ((Kd.R_reads' hm_).2.1); clear HO_5; clear HB; clear HL234_0; clear HL236_0; clear HL238_0; clear HL242_0; clear HL244_0; clear HL246_0; have HO_5 := n0_; have HB := n1_; have HL276 := n2_; have HC248 := n3_; clear n0_ n1_ n2_ n3_; clear hg hw hp_ hz_ hm_ hok43))
                                               repeat (go_quiet (first | ((with_reducible refine gate_store (t := 3) (p := 102) rfl ?_); (try (rw [drewN_self wr]; generalize hq_ : World.drewN wr _ = wr; have n0_ := Aside0.mk (Kd.S_at hq_ HO_5.out); have n1_ := Aside0.mk (Kd.R_at hq_ HL234_0.out); have n2_ := Aside0.mk (Kd.R_at hq_ HL236_0.out); have n3_ := Aside0.mk (Kd.R_at hq_ HL238_0.out); have n4_ := Aside0.mk (Kd.R_at hq_ HL242_0.out); have n5_ := Aside0.mk (Kd.R_at hq_ HL244_0.out); have n6_ := Aside0.mk (Kd.R_at hq_ HL246_0.out); have n7_ := Aside0.mk (Kd.C_at hq_ HR234_0.out); have n8_ := Aside0.mk (Kd.C_at hq_ HR236_0.out); have n9_ := Aside0.mk (Kd.C_at hq_ HR238_0.out); have n10_ := Aside0.mk (Kd.C_at hq_ HR242_0.out); have n11_ := Aside0.mk (Kd.C_at hq_ HR244_0.out); have n12_ := Aside0.mk (Kd.C_at hq_ HR246_0.out); have n13_ := Aside0.mk (cell_at hq_ HX234_0.out); have n14_ := Aside0.mk (cell_at hq_ HX236_0.out); have n15_ := Aside0.mk (cell_at hq_ HX238_0.out); have n16_ := Aside0.mk (cell_at hq_ HX242_0.out); have n17_ := Aside0.mk (cell_at hq_ HX244_0.out); have n18_ := Aside0.mk (cell_at hq_ HX246_0.out); have n19_ := Aside0.mk (below_at hq_ HB.out); clear hq_ HO_5 HL234_0 HL236_0 HL238_0 HL242_0 HL244_0 HL246_0 HR234_0 HR236_0 HR238_0 HR242_0 HR244_0 HR246_0 HX234_0 HX236_0 HX238_0 HX242_0 HX244_0 HX246_0 HB; have HO_5 := n0_; have HL234_0 := n1_; have HL236_0 := n2_; have HL238_0 := n3_; have HL242_0 := n4_; have HL244_0 := n5_; have HL246_0 := n6_; have HR234_0 := n7_; have HR236_0 := n8_; have HR238_0 := n9_; have HR242_0 := n10_; have HR244_0 := n11_; have HR246_0 := n12_; have HX234_0 := n13_; have HX236_0 := n14_; have HX238_0 := n15_; have HX242_0 := n16_; have HX244_0 := n17_; have HX246_0 := n18_; have HB := n19_; clear n0_ n1_ n2_ n3_ n4_ n5_ n6_ n7_ n8_ n9_ n10_ n11_ n12_ n13_ n14_ n15_ n16_ n17_ n18_ n19_; (try (have p42 : 0 ≤ (x7_2 : Int) := of_decide_eq_true (by first | (with_reducible assumption) | assumption))); (try (have q42 : (x7_2 : Int) < (((rd_L4 x5_2 x6_1).length : Int) : Int) := of_decide_eq_true (by first | (with_reducible assumption) | assumption))); (try (obtain ⟨go42, co42, eo42, gb42, gl42, cl42, HG42⟩ := Kd.R_form HL246_0.out (by omega))); (try (first | cases eo42 | (injection eo42 with ea_ en_ ec_; (first | subst ea_ | (injection ea_ with ea_; subst ea_)); subst ec_; clear en_))); (try (have GB42 := Aside0.mk gb42)); (try (have GG42 := Aside0.mk HG42)); (try (clear gb42 gl42 HG42)); (try (first | simp only [add_plain] at hx239_0 | skip)); (try (obtain ⟨hx42_0, hf42_0⟩ := Kd.R_celln 0 HL246_0.out (x7_2 : Int) p42 q42)); (try (replace p42 := eq_true p42)); (try (replace q42 := eq_true q42)); (try (have hq43 : (x6_1 : Int) < (x5_2.length : Int) := (by have h_ : (x6_1 : Int) < ((x5_2.length : Int) : Int) := of_decide_eq_true (by first | (with_reducible assumption) | assumption); first | exact h_ | (have e_ := (Kd.S_reads' HO_5.out).1; omega) | simpa only [List.length_set, List.length_set] using h_))); (try (obtain ⟨oki43, ce43, hcl43, hM43, hcc43, hok43, hbk43⟩ := Kd.S_borrow HO_5.out [] (x6_1 : Int) (of_decide_eq_true (by first | (with_reducible assumption) | assumption)) hq43)); (try (obtain ⟨ve43_0, rfl, ge43_0⟩ := hM43)); (try (have hv43 := hcc43 0 _ rfl)); (try (rw [Nat.add_zero, show ((Kd.slice 3 (Kd.int .i64))).sz = 1 from rfl, Nat.mul_one] at hv43)); (try (replace hv43 := Option.some.inj (hv43.symm.trans HX246_0.out))); (try (subst hv43)); (try (clear hcc43 hcl43)); (try (replace ge43_0 := (show Kd.R (Kd.int .i64) 3 _ _ _ _ (rd_L4 x5_2 x6_1) from ge43_0))); (try (have HP43 := Kd.R_putg ge43_0 (x7_2 : Int) (wrap64 ((rd (rd_L4 x5_2 (ji25)) (ji32)) + 1)))))); refine store_event (t := 3) (p := 102) (v := ?vo_w44) (w1 := (wr.setCell ⟨go42, (x7_2 : Int).toNat, none⟩ (.int .i64 (wrap64 ((rd (rd_L4 x5_2 (ji25)) (ji32)) + 1))))) ?hg ?ho ?hn ?hr ?_; (case ho => rfl); (case hg => rfl); (case hn => rfl); (case hr => first | (go_simp; done) | (go_simp; rfl)); intro w44 hw; have hg : wr.grownBy w44 (some go42) := (by rw [hw]; exact HP43.2); have hz_ : Kd.R (Kd.int .i64) 3 w44 w.heap.size oki43 (.slice (some ⟨go42, 0, none⟩) (rd_L4 x5_2 x6_1).length c236_0) y247 := (by rw [hw, Ny247.out]; exact HP43.1); have hp_ : Kd.S (Kd.slice 3 (Kd.int .i64)) 23 w44 w.heap.size (fun _ => True) (.slice (some ⟨go14, 0, none⟩) x5_2.length co14) y249 := (by rw [Ny249.out]; exact hbk43 hg (fun k_ e_ => by injection e_ with e_; subst e_; exact ge43_0.1 _ rfl) (Kd.M_row hz_)); have hm_ := Kd.R_mono hz_ hok43; clear HP43 hbk43; have n0_ := Aside0.mk (hp_); have n1_ := Aside0.mk ((by rw [hw]; exact below_set (HB.out) GB42.out : Below w.heap.size w w44)); have n2_ := Aside0.mk (hm_); have n3_ := Aside0.mk ((Kd.R_reads' hm_).2.1); clear HO_5; clear HB; clear HL234_0; clear HL236_0; clear HL238_0; clear HL242_0; clear HL244_0; clear HL246_0; have HO_5 := n0_; have HB := n1_; have HL276 := n2_; have HC248 := n3_; clear n0_ n1_ n2_ n3_; clear hg hw hp_ hz_ hm_ hok43)); try go_wp2_with (first | ((with_reducible refine gate_store (t := 3) (p := 102) rfl ?_); (try (rw [drewN_self wr]; generalize hq_ : World.drewN wr _ = wr; have n0_ := Aside0.mk (Kd.S_at hq_ HO_5.out); have n1_ := Aside0.mk (Kd.R_at hq_ HL234_0.out); have n2_ := Aside0.mk (Kd.R_at hq_ HL236_0.out); have n3_ := Aside0.mk (Kd.R_at hq_ HL238_0.out); have n4_ := Aside0.mk (Kd.R_at hq_ HL242_0.out); have n5_ := Aside0.mk (Kd.R_at hq_ HL244_0.out); have n6_ := Aside0.mk (Kd.R_at hq_ HL246_0.out); have n7_ := Aside0.mk (Kd.C_at hq_ HR234_0.out); have n8_ := Aside0.mk (Kd.C_at hq_ HR236_0.out); have n9_ := Aside0.mk (Kd.C_at hq_ HR238_0.out); have n10_ := Aside0.mk (Kd.C_at hq_ HR242_0.out); have n11_ := Aside0.mk (Kd.C_at hq_ HR244_0.out); have n12_ := Aside0.mk (Kd.C_at hq_ HR246_0.out); have n13_ := Aside0.mk (cell_at hq_ HX234_0.out); have n14_ := Aside0.mk (cell_at hq_ HX236_0.out); have n15_ := Aside0.mk (cell_at hq_ HX238_0.out); have n16_ := Aside0.mk (cell_at hq_ HX242_0.out); have n17_ := Aside0.mk (cell_at hq_ HX244_0.out); have n18_ := Aside0.mk (cell_at hq_ HX246_0.out); have n19_ := Aside0.mk (below_at hq_ HB.out); clear hq_ HO_5 HL234_0 HL236_0 HL238_0 HL242_0 HL244_0 HL246_0 HR234_0 HR236_0 HR238_0 HR242_0 HR244_0 HR246_0 HX234_0 HX236_0 HX238_0 HX242_0 HX244_0 HX246_0 HB; have HO_5 := n0_; have HL234_0 := n1_; have HL236_0 := n2_; have HL238_0 := n3_; have HL242_0 := n4_; have HL244_0 := n5_; have HL246_0 := n6_; have HR234_0 := n7_; have HR236_0 := n8_; have HR238_0 := n9_; have HR242_0 := n10_; have HR244_0 := n11_; have HR246_0 := n12_; have HX234_0 := n13_; have HX236_0 := n14_; have HX238_0 := n15_; have HX242_0 := n16_; have HX244_0 := n17_; have HX246_0 := n18_; have HB := n19_; clear n0_ n1_ n2_ n3_ n4_ n5_ n6_ n7_ n8_ n9_ n10_ n11_ n12_ n13_ n14_ n15_ n16_ n17_ n18_ n19_; (try (have p42 : 0 ≤ (x7_2 : Int) := of_decide_eq_true (by first | (with_reducible assumption) | assumption))); (try (have q42 : (x7_2 : Int) < (((rd_L4 x5_2 x6_1).length : Int) : Int) := of_decide_eq_true (by first | (with_reducible assumption) | assumption))); (try (obtain ⟨go42, co42, eo42, gb42, gl42, cl42, HG42⟩ := Kd.R_form HL246_0.out (by omega))); (try (first | cases eo42 | (injection eo42 with ea_ en_ ec_; (first | subst ea_ | (injection ea_ with ea_; subst ea_)); subst ec_; clear en_))); (try (have GB42 := Aside0.mk gb42)); (try (have GG42 := Aside0.mk HG42)); (try (clear gb42 gl42 HG42)); (try (first | simp only [add_plain] at hx239_0 | skip)); (try (obtain ⟨hx42_0, hf42_0⟩ := Kd.R_celln 0 HL246_0.out (x7_2 : Int) p42 q42)); (try (replace p42 := eq_true p42)); (try (replace q42 := eq_true q42)); (try (have hq43 : (x6_1 : Int) < (x5_2.length : Int) := (by have h_ : (x6_1 : Int) < ((x5_2.length : Int) : Int) := of_decide_eq_true (by first | (with_reducible assumption) | assumption); first | exact h_ | (have e_ := (Kd.S_reads' HO_5.out).1; omega) | simpa only [List.length_set, List.length_set] using h_))); (try (obtain ⟨oki43, ce43, hcl43, hM43, hcc43, hok43, hbk43⟩ := Kd.S_borrow HO_5.out [] (x6_1 : Int) (of_decide_eq_true (by first | (with_reducible assumption) | assumption)) hq43)); (try (obtain ⟨ve43_0, rfl, ge43_0⟩ := hM43)); (try (have hv43 := hcc43 0 _ rfl)); (try (rw [Nat.add_zero, show ((Kd.slice 3 (Kd.int .i64))).sz = 1 from rfl, Nat.mul_one] at hv43)); (try (replace hv43 := Option.some.inj (hv43.symm.trans HX246_0.out))); (try (subst hv43)); (try (clear hcc43 hcl43)); (try (replace ge43_0 := (show Kd.R (Kd.int .i64) 3 _ _ _ _ (rd_L4 x5_2 x6_1) from ge43_0))); (try (have HP43 := Kd.R_putg ge43_0 (x7_2 : Int) (wrap64 ((rd (rd_L4 x5_2 (ji25)) (ji32)) + 1)))))); refine store_event (t := 3) (p := 102) (v := ?vo_w44) (w1 := (wr.setCell ⟨go42, (x7_2 : Int).toNat, none⟩ (.int .i64 (wrap64 ((rd (rd_L4 x5_2 (ji25)) (ji32)) + 1))))) ?hg ?ho ?hn ?hr ?_; (case ho => rfl); (case hg => rfl); (case hn => rfl); (case hr => first | (go_simp; done) | (go_simp; rfl)); intro w44 hw; have hg : wr.grownBy w44 (some go42) := (by rw [hw]; exact HP43.2); have hz_ : Kd.R (Kd.int .i64) 3 w44 w.heap.size oki43 (.slice (some ⟨go42, 0, none⟩) (rd_L4 x5_2 x6_1).length c236_0) y247 := (by rw [hw, Ny247.out]; exact HP43.1); have hp_ : Kd.S (Kd.slice 3 (Kd.int .i64)) 23 w44 w.heap.size (fun _ => True) (.slice (some ⟨go14, 0, none⟩) x5_2.length co14) y249 := (by rw [Ny249.out]; exact hbk43 hg (fun k_ e_ => by injection e_ with e_; subst e_; exact ge43_0.1 _ rfl) (Kd.M_row hz_)); have hm_ := Kd.R_mono hz_ hok43; clear HP43 hbk43; have n0_ := Aside0.mk (hp_); have n1_ := Aside0.mk ((by rw [hw]; exact below_set (HB.out) GB42.out : Below w.heap.size w w44)); have n2_ := Aside0.mk (hm_); have n3_ := Aside0.mk ((Kd.R_reads' hm_).2.1); clear HO_5; clear HB; clear HL234_0; clear HL236_0; clear HL238_0; clear HL242_0; clear HL244_0; clear HL246_0; have HO_5 := n0_; have HB := n1_; have HL276 := n2_; have HC248 := n3_; clear n0_ n1_ n2_ n3_; clear hg hw hp_ hz_ hm_ hok43)))
                                               (try simp only [← hl5_2])
                                               go_roundg k2
                                               case measure => have := HK1.out; have := HK2.out; omega
                                               case rel => exact ⟨(y249), (wrap64 (x7_2 - 1)), (by first | rfl | (simp; done) | (simp [*]; done)), H', ⟨by have := HK1.out; have := HK2.out; omega⟩, ⟨by (try simp only [hl5_2]); (with_reducible repeat (first | apply Kd.S_alloc | apply Kd.S_drewN | apply Kd.S_drew)); exact HO_5.out⟩, ⟨by repeat (first | (with_reducible first | exact HB.out | apply below_alloc | apply pw_below_drewN | apply below_drew1) | exact HB.out)⟩⟩
                                             rw [if_neg c41] at H
                                             exact absurd H (by simp)
                                           rw [if_neg c40] at H
                                           have c40b0 : decide ((rd (rd_L4 x5_2 x6_1) (ji32)) < (wrap64 ((rd (rd_L4 x5_2 (ji25)) (ji32)) + 1))) = false := decide_eq_false c40
                                           clear c40
                                           by_cases c45 : x7_2 < ((rd_L4 x5_2 x6_1).length : Int)
                                           · rw [if_pos c45] at H
                                             have c45b0 : decide (x7_2 < ((rd_L4 x5_2 x6_1).length : Int)) = true := decide_eq_true c45
                                             (try (have c45b0h := c45b0; simp only [hl5_2] at c45b0h))
                                             clear c45
                                             obtain ⟨y251, hy251⟩ : ∃ y_ : List Int, y_ = ((rd_L4 x5_2 x6_1).set (x7_2 : Int).toNat (rd (rd_L4 x5_2 x6_1) (ji32))) := ⟨_, rfl⟩
                                             replace H : (changeforgeref1_suffixes.l1 k2 l0 l1 (x5_2.set (x6_1 : Int).toNat y251) x6_1 (wrap64 (x7_2 - 1))) = some r := by first | (rw [hy251]; with_reducible exact H) | (have H2_ := (Option.bind_some _ _).symm.trans H; rw [hy251]; with_reducible exact H2_) | (have H2_ := (Option.bind_some _ _).symm.trans H; with_reducible exact H2_) | with_reducible exact H | (rw [hy251]; exact H) | exact H
                                             have Ny251 := Aside0.mk hy251
                                             clear hy251
                                             obtain ⟨y253, hy253⟩ : ∃ y_ : List (List Int), y_ = (x5_2.set (x6_1 : Int).toNat y251) := ⟨_, rfl⟩
                                             replace H : (changeforgeref1_suffixes.l1 k2 l0 l1 y253 x6_1 (wrap64 (x7_2 - 1))) = some r := by first | (rw [hy253]; with_reducible exact H) | (have H2_ := (Option.bind_some _ _).symm.trans H; rw [hy253]; with_reducible exact H2_) | (have H2_ := (Option.bind_some _ _).symm.trans H; with_reducible exact H2_) | with_reducible exact H | (rw [hy253]; exact H) | exact H
                                             have Ny253 := Aside0.mk hy253
                                             clear hy253
                                             have H' := Aside0.mk H
                                             clear H
                                             have p234 : 0 ≤ ((ji25) : Int) := of_decide_eq_true (by first | (with_reducible assumption) | assumption)
                                             have q234 : (ji25) < (x5_2.length : Int) := of_decide_eq_true (by first | (with_reducible assumption) | assumption)
                                             obtain ⟨ad234, A234_0, c234_0, e234, hx234_0, hl234_0, hi234_0⟩ := at_L4 (Kd.S_reads' HO_5.out).2.2 (ji25) p234 q234
                                             obtain rfl : (⟨go14, 0, none⟩ : Addr) = ad234 := (by injection e234)
                                             obtain ⟨ce234, hce234, hMe234, hcc234⟩ := Kd.S_get HO_5.out [] (ji25) p234 (by first | exact q234 | exact of_decide_eq_true (by first | (with_reducible assumption) | assumption) | (have e_ := (Kd.S_reads' HO_5.out).1; omega))
                                             obtain ⟨ve234_0, rfl, ge234_0⟩ := hMe234
                                             have hv234_0 := hcc234 0 _ rfl
                                             rw [Nat.add_zero, show ((Kd.slice 3 (Kd.int .i64))).sz = 1 from rfl, Nat.mul_one] at hv234_0
                                             replace hv234_0 := Option.some.inj (hv234_0.symm.trans hx234_0)
                                             rw [hv234_0] at ge234_0
                                             have HL234_0 := Aside0.mk (show Kd.R (Kd.int .i64) 3 _ _ _ _ (rd_L4 x5_2 (ji25)) from ge234_0)
                                             clear hv234_0 ge234_0
                                             have HX234_0 := Aside0.mk hx234_0
                                             clear hcc234 hce234
                                             (first | simp only [add_plain] at hx234_0 | simp only [add_at] at hx234_0 | simp only [Addr.add, Nat.zero_add] at hx234_0 | skip)
                                             have HR234_0 := Aside0.mk hi234_0
                                             have HC234_0 := Aside0.mk hl234_0
                                             clear hi234_0 hl234_0
                                             replace p234 := eq_true p234
                                             replace q234 := eq_true q234
                                             have p235 : 0 ≤ (x7_2 : Int) := of_decide_eq_true (by first | (with_reducible assumption) | assumption)
                                             have q235 : x7_2 < ((rd_L4 x5_2 (ji25)).length : Int) := of_decide_eq_true (by first | (with_reducible assumption) | assumption)
                                             obtain ⟨ad235, e235, hx235_0⟩ := Kd.at_int (by repeat (first | (with_reducible exact HR234_0.out) | (with_reducible refine Kd.C_alloc ?_ _) | (with_reducible refine Kd.C_drewN ?_ _) | (with_reducible refine Kd.C_drew ?_) | exact HR234_0.out)) x7_2 p235 q235
                                             cases e235
                                             replace p235 := eq_true p235
                                             replace q235 := eq_true q235
                                             have p236 : 0 ≤ (x6_1 : Int) := of_decide_eq_true (by first | (with_reducible assumption) | assumption)
                                             have q236 : x6_1 < (x5_2.length : Int) := of_decide_eq_true (by first | (with_reducible assumption) | assumption)
                                             obtain ⟨ad236, A236_0, c236_0, e236, hx236_0, hl236_0, hi236_0⟩ := at_L4 (Kd.S_reads' HO_5.out).2.2 x6_1 p236 q236
                                             obtain rfl : (⟨go14, 0, none⟩ : Addr) = ad236 := (by injection e236)
                                             obtain ⟨ce236, hce236, hMe236, hcc236⟩ := Kd.S_get HO_5.out [] x6_1 p236 (by first | exact q236 | exact of_decide_eq_true (by first | (with_reducible assumption) | assumption) | (have e_ := (Kd.S_reads' HO_5.out).1; omega))
                                             obtain ⟨ve236_0, rfl, ge236_0⟩ := hMe236
                                             have hv236_0 := hcc236 0 _ rfl
                                             rw [Nat.add_zero, show ((Kd.slice 3 (Kd.int .i64))).sz = 1 from rfl, Nat.mul_one] at hv236_0
                                             replace hv236_0 := Option.some.inj (hv236_0.symm.trans hx236_0)
                                             rw [hv236_0] at ge236_0
                                             have HL236_0 := Aside0.mk (show Kd.R (Kd.int .i64) 3 _ _ _ _ (rd_L4 x5_2 x6_1) from ge236_0)
                                             clear hv236_0 ge236_0
                                             have HX236_0 := Aside0.mk hx236_0
                                             clear hcc236 hce236
                                             (first | simp only [add_plain] at hx236_0 | simp only [add_at] at hx236_0 | simp only [Addr.add, Nat.zero_add] at hx236_0 | skip)
                                             have HR236_0 := Aside0.mk hi236_0
                                             have HC236_0 := Aside0.mk hl236_0
                                             clear hi236_0 hl236_0
                                             replace p236 := eq_true p236
                                             replace q236 := eq_true q236
                                             have p237 : 0 ≤ ((ji32) : Int) := of_decide_eq_true (by first | (with_reducible assumption) | assumption)
                                             have q237 : (ji32) < ((rd_L4 x5_2 x6_1).length : Int) := of_decide_eq_true (by first | (with_reducible assumption) | assumption)
                                             obtain ⟨ad237, e237, hx237_0⟩ := Kd.at_int (by repeat (first | (with_reducible exact HR236_0.out) | (with_reducible refine Kd.C_alloc ?_ _) | (with_reducible refine Kd.C_drewN ?_ _) | (with_reducible refine Kd.C_drew ?_) | exact HR236_0.out)) (ji32) p237 q237
                                             cases e237
                                             replace p237 := eq_true p237
                                             replace q237 := eq_true q237
                                             have p238 : 0 ≤ (x6_1 : Int) := of_decide_eq_true (by first | (with_reducible assumption) | assumption)
                                             have q238 : x6_1 < (x5_2.length : Int) := of_decide_eq_true (by first | (with_reducible assumption) | assumption)
                                             obtain ⟨ad238, A238_0, c238_0, e238, hx238_0, hl238_0, hi238_0⟩ := at_L4 (Kd.S_reads' HO_5.out).2.2 x6_1 p238 q238
                                             obtain rfl : (⟨go14, 0, none⟩ : Addr) = ad238 := (by injection e238)
                                             obtain ⟨ce238, hce238, hMe238, hcc238⟩ := Kd.S_get HO_5.out [] x6_1 p238 (by first | exact q238 | exact of_decide_eq_true (by first | (with_reducible assumption) | assumption) | (have e_ := (Kd.S_reads' HO_5.out).1; omega))
                                             obtain ⟨ve238_0, rfl, ge238_0⟩ := hMe238
                                             have hv238_0 := hcc238 0 _ rfl
                                             rw [Nat.add_zero, show ((Kd.slice 3 (Kd.int .i64))).sz = 1 from rfl, Nat.mul_one] at hv238_0
                                             replace hv238_0 := Option.some.inj (hv238_0.symm.trans hx238_0)
                                             rw [hv238_0] at ge238_0
                                             have HL238_0 := Aside0.mk (show Kd.R (Kd.int .i64) 3 _ _ _ _ (rd_L4 x5_2 x6_1) from ge238_0)
                                             clear hv238_0 ge238_0
                                             have HX238_0 := Aside0.mk hx238_0
                                             clear hcc238 hce238
                                             (first | simp only [add_plain] at hx238_0 | simp only [add_at] at hx238_0 | simp only [Addr.add, Nat.zero_add] at hx238_0 | skip)
                                             have HR238_0 := Aside0.mk hi238_0
                                             have HC238_0 := Aside0.mk hl238_0
                                             clear hi238_0 hl238_0
                                             replace p238 := eq_true p238
                                             replace q238 := eq_true q238
                                             have ea_ := Option.some.inj (hx236_0.symm.trans hx238_0)
                                             injection ea_ with ea_ en_ ec_
                                             subst ea_
                                             subst ec_
                                             clear en_
                                             have p239 : 0 ≤ ((ji32) : Int) := of_decide_eq_true (by first | (with_reducible assumption) | assumption)
                                             have q239 : (ji32) < ((rd_L4 x5_2 x6_1).length : Int) := of_decide_eq_true (by first | (with_reducible assumption) | assumption)
                                             obtain ⟨ad239, e239, hx239_0⟩ := Kd.at_int (by repeat (first | (with_reducible exact HR238_0.out) | (with_reducible refine Kd.C_alloc ?_ _) | (with_reducible refine Kd.C_drewN ?_ _) | (with_reducible refine Kd.C_drew ?_) | exact HR238_0.out)) (ji32) p239 q239
                                             cases e239
                                             replace p239 := eq_true p239
                                             replace q239 := eq_true q239
                                             have p240 : 0 ≤ (x7_2 : Int) := of_decide_eq_true (by first | (with_reducible assumption) | assumption)
                                             have q240 : x7_2 < (l0.length : Int) := of_decide_eq_true (by first | (with_reducible assumption) | assumption)
                                             obtain ⟨ad240, e240, hx240_0⟩ := Kd.at_string HR0.out x7_2 p240 q240
                                             cases e240
                                             replace hx240_0 := (HB.out.cell (World.block_lt_of_cell? w _ hx240_0)).trans hx240_0
                                             replace p240 := eq_true p240
                                             replace q240 := eq_true q240
                                             have p241 : 0 ≤ (x6_1 : Int) := of_decide_eq_true (by first | (with_reducible assumption) | assumption)
                                             have q241 : x6_1 < (l1.length : Int) := of_decide_eq_true (by first | (with_reducible assumption) | assumption)
                                             obtain ⟨ad241, e241, hx241_0⟩ := Kd.at_string HR1.out x6_1 p241 q241
                                             cases e241
                                             replace hx241_0 := (HB.out.cell (World.block_lt_of_cell? w _ hx241_0)).trans hx241_0
                                             replace p241 := eq_true p241
                                             replace q241 := eq_true q241
                                             have p242 : 0 ≤ ((ji25) : Int) := of_decide_eq_true (by first | (with_reducible assumption) | assumption)
                                             have q242 : (ji25) < (x5_2.length : Int) := of_decide_eq_true (by first | (with_reducible assumption) | assumption)
                                             obtain ⟨ad242, A242_0, c242_0, e242, hx242_0, hl242_0, hi242_0⟩ := at_L4 (Kd.S_reads' HO_5.out).2.2 (ji25) p242 q242
                                             obtain rfl : (⟨go14, 0, none⟩ : Addr) = ad242 := (by injection e242)
                                             obtain ⟨ce242, hce242, hMe242, hcc242⟩ := Kd.S_get HO_5.out [] (ji25) p242 (by first | exact q242 | exact of_decide_eq_true (by first | (with_reducible assumption) | assumption) | (have e_ := (Kd.S_reads' HO_5.out).1; omega))
                                             obtain ⟨ve242_0, rfl, ge242_0⟩ := hMe242
                                             have hv242_0 := hcc242 0 _ rfl
                                             rw [Nat.add_zero, show ((Kd.slice 3 (Kd.int .i64))).sz = 1 from rfl, Nat.mul_one] at hv242_0
                                             replace hv242_0 := Option.some.inj (hv242_0.symm.trans hx242_0)
                                             rw [hv242_0] at ge242_0
                                             have HL242_0 := Aside0.mk (show Kd.R (Kd.int .i64) 3 _ _ _ _ (rd_L4 x5_2 (ji25)) from ge242_0)
                                             clear hv242_0 ge242_0
                                             have HX242_0 := Aside0.mk hx242_0
                                             clear hcc242 hce242
                                             (first | simp only [add_plain] at hx242_0 | simp only [add_at] at hx242_0 | simp only [Addr.add, Nat.zero_add] at hx242_0 | skip)
                                             have HR242_0 := Aside0.mk hi242_0
                                             have HC242_0 := Aside0.mk hl242_0
                                             clear hi242_0 hl242_0
                                             replace p242 := eq_true p242
                                             replace q242 := eq_true q242
                                             have ea_ := Option.some.inj (hx234_0.symm.trans hx242_0)
                                             injection ea_ with ea_ en_ ec_
                                             subst ea_
                                             subst ec_
                                             clear en_
                                             have p243 : 0 ≤ ((ji32) : Int) := of_decide_eq_true (by first | (with_reducible assumption) | assumption)
                                             have q243 : (ji32) < ((rd_L4 x5_2 (ji25)).length : Int) := of_decide_eq_true (by first | (with_reducible assumption) | assumption)
                                             obtain ⟨ad243, e243, hx243_0⟩ := Kd.at_int (by repeat (first | (with_reducible exact HR242_0.out) | (with_reducible refine Kd.C_alloc ?_ _) | (with_reducible refine Kd.C_drewN ?_ _) | (with_reducible refine Kd.C_drew ?_) | exact HR242_0.out)) (ji32) p243 q243
                                             cases e243
                                             replace p243 := eq_true p243
                                             replace q243 := eq_true q243
                                             have p250 : 0 ≤ (x6_1 : Int) := of_decide_eq_true (by first | (with_reducible assumption) | assumption)
                                             have q250 : x6_1 < (x5_2.length : Int) := of_decide_eq_true (by first | (with_reducible assumption) | assumption)
                                             obtain ⟨ad250, A250_0, c250_0, e250, hx250_0, hl250_0, hi250_0⟩ := at_L4 (Kd.S_reads' HO_5.out).2.2 x6_1 p250 q250
                                             obtain rfl : (⟨go14, 0, none⟩ : Addr) = ad250 := (by injection e250)
                                             obtain ⟨ce250, hce250, hMe250, hcc250⟩ := Kd.S_get HO_5.out [] x6_1 p250 (by first | exact q250 | exact of_decide_eq_true (by first | (with_reducible assumption) | assumption) | (have e_ := (Kd.S_reads' HO_5.out).1; omega))
                                             obtain ⟨ve250_0, rfl, ge250_0⟩ := hMe250
                                             have hv250_0 := hcc250 0 _ rfl
                                             rw [Nat.add_zero, show ((Kd.slice 3 (Kd.int .i64))).sz = 1 from rfl, Nat.mul_one] at hv250_0
                                             replace hv250_0 := Option.some.inj (hv250_0.symm.trans hx250_0)
                                             rw [hv250_0] at ge250_0
                                             have HL250_0 := Aside0.mk (show Kd.R (Kd.int .i64) 3 _ _ _ _ (rd_L4 x5_2 x6_1) from ge250_0)
                                             clear hv250_0 ge250_0
                                             have HX250_0 := Aside0.mk hx250_0
                                             clear hcc250 hce250
                                             (first | simp only [add_plain] at hx250_0 | simp only [add_at] at hx250_0 | simp only [Addr.add, Nat.zero_add] at hx250_0 | skip)
                                             have HR250_0 := Aside0.mk hi250_0
                                             have HC250_0 := Aside0.mk hl250_0
                                             clear hi250_0 hl250_0
                                             replace p250 := eq_true p250
                                             replace q250 := eq_true q250
                                             have ea_ := Option.some.inj (hx236_0.symm.trans hx250_0)
                                             injection ea_ with ea_ en_ ec_
                                             subst ea_
                                             subst ec_
                                             clear en_
                                             have p46 : 0 ≤ (x7_2 : Int) := of_decide_eq_true (by first | (with_reducible assumption) | assumption)
                                             have q46 : (x7_2 : Int) < (((rd_L4 x5_2 x6_1).length : Int) : Int) := of_decide_eq_true (by first | (with_reducible assumption) | assumption)
                                             obtain ⟨go46, co46, eo46, gb46, gl46, cl46, HG46⟩ := Kd.R_form HL250_0.out (by omega)
                                             (first | cases eo46 | (injection eo46 with ea_ en_ ec_; (first | subst ea_ | (injection ea_ with ea_; subst ea_)); subst ec_; clear en_))
                                             have GB46 := Aside0.mk gb46
                                             have GG46 := Aside0.mk HG46
                                             clear gb46 gl46 HG46
                                             (first | simp only [add_plain] at hx239_0 | skip)
                                             obtain ⟨hx46_0, hf46_0⟩ := Kd.R_celln 0 HL250_0.out (x7_2 : Int) p46 q46
                                             replace p46 := eq_true p46
                                             replace q46 := eq_true q46
                                             have hq47 : (x6_1 : Int) < (x5_2.length : Int) := (by have h_ : (x6_1 : Int) < ((x5_2.length : Int) : Int) := of_decide_eq_true (by first | (with_reducible assumption) | assumption); first | exact h_ | (have e_ := (Kd.S_reads' HO_5.out).1; omega) | simpa only [List.length_set, List.length_set] using h_)
                                             obtain ⟨oki47, ce47, hcl47, hM47, hcc47, hok47, hbk47⟩ := Kd.S_borrow HO_5.out [] (x6_1 : Int) (of_decide_eq_true (by first | (with_reducible assumption) | assumption)) hq47
                                             obtain ⟨ve47_0, rfl, ge47_0⟩ := hM47
                                             have hv47 := hcc47 0 _ rfl
                                             rw [Nat.add_zero, show ((Kd.slice 3 (Kd.int .i64))).sz = 1 from rfl, Nat.mul_one] at hv47
                                             replace hv47 := Option.some.inj (hv47.symm.trans HX250_0.out)
                                             subst hv47
                                             clear hcc47 hcl47
                                             replace ge47_0 := (show Kd.R (Kd.int .i64) 3 _ _ _ _ (rd_L4 x5_2 x6_1) from ge47_0)
                                             have HP47 := Kd.R_putg ge47_0 (x7_2 : Int) (rd (rd_L4 x5_2 x6_1) (ji32))
                                             go_wp2_with (first | ((with_reducible refine gate_store (t := 3) (p := 102) rfl ?_); (try (rw [drewN_self wr]; generalize hq_ : World.drewN wr _ = wr; have n0_ := Aside0.mk (Kd.S_at hq_ HO_5.out); have n1_ := Aside0.mk (Kd.R_at hq_ HL234_0.out); have n2_ := Aside0.mk (Kd.R_at hq_ HL236_0.out); have n3_ := Aside0.mk (Kd.R_at hq_ HL238_0.out); have n4_ := Aside0.mk (Kd.R_at hq_ HL242_0.out); have n5_ := Aside0.mk (Kd.R_at hq_ HL250_0.out); have n6_ := Aside0.mk (Kd.C_at hq_ HR234_0.out); have n7_ := Aside0.mk (Kd.C_at hq_ HR236_0.out); have n8_ := Aside0.mk (Kd.C_at hq_ HR238_0.out); have n9_ := Aside0.mk (Kd.C_at hq_ HR242_0.out); have n10_ := Aside0.mk (Kd.C_at hq_ HR250_0.out); have n11_ := Aside0.mk (cell_at hq_ HX234_0.out); have n12_ := Aside0.mk (cell_at hq_ HX236_0.out); have n13_ := Aside0.mk (cell_at hq_ HX238_0.out); have n14_ := Aside0.mk (cell_at hq_ HX242_0.out); have n15_ := Aside0.mk (cell_at hq_ HX250_0.out); have n16_ := Aside0.mk (below_at hq_ HB.out); clear hq_ HO_5 HL234_0 HL236_0 HL238_0 HL242_0 HL250_0 HR234_0 HR236_0 HR238_0 HR242_0 HR250_0 HX234_0 HX236_0 HX238_0 HX242_0 HX250_0 HB; have HO_5 := n0_; have HL234_0 := n1_; have HL236_0 := n2_; have HL238_0 := n3_; have HL242_0 := n4_; have HL250_0 := n5_; have HR234_0 := n6_; have HR236_0 := n7_; have HR238_0 := n8_; have HR242_0 := n9_; have HR250_0 := n10_; have HX234_0 := n11_; have HX236_0 := n12_; have HX238_0 := n13_; have HX242_0 := n14_; have HX250_0 := n15_; have HB := n16_; clear n0_ n1_ n2_ n3_ n4_ n5_ n6_ n7_ n8_ n9_ n10_ n11_ n12_ n13_ n14_ n15_ n16_; (try (have p46 : 0 ≤ (x7_2 : Int) := of_decide_eq_true (by first | (with_reducible assumption) | assumption))); (try (have q46 : (x7_2 : Int) < (((rd_L4 x5_2 x6_1).length : Int) : Int) := of_decide_eq_true (by first | (with_reducible assumption) | assumption))); (try (obtain ⟨go46, co46, eo46, gb46, gl46, cl46, HG46⟩ := Kd.R_form HL250_0.out (by omega))); (try (first | cases eo46 | (injection eo46 with ea_ en_ ec_; (first | subst ea_ | (injection ea_ with ea_; subst ea_)); subst ec_; clear en_))); (try (have GB46 := Aside0.mk gb46)); (try (have GG46 := Aside0.mk HG46)); (try (clear gb46 gl46 HG46)); (try (first | simp only [add_plain] at hx239_0 | skip)); (try (obtain ⟨hx46_0, hf46_0⟩ := Kd.R_celln 0 HL250_0.out (x7_2 : Int) p46 q46)); (try (replace p46 := eq_true p46)); (try (replace q46 := eq_true q46)); (try (have hq47 : (x6_1 : Int) < (x5_2.length : Int) := (by have h_ : (x6_1 : Int) < ((x5_2.length : Int) : Int) := of_decide_eq_true (by first | (with_reducible assumption) | assumption); first | exact h_ | (have e_ := (Kd.S_reads' HO_5.out).1; omega) | simpa only [List.length_set, List.length_set] using h_))); (try (obtain ⟨oki47, ce47, hcl47, hM47, hcc47, hok47, hbk47⟩ := Kd.S_borrow HO_5.out [] (x6_1 : Int) (of_decide_eq_true (by first | (with_reducible assumption) | assumption)) hq47)); (try (obtain ⟨ve47_0, rfl, ge47_0⟩ := hM47)); (try (have hv47 := hcc47 0 _ rfl)); (try (rw [Nat.add_zero, show ((Kd.slice 3 (Kd.int .i64))).sz = 1 from rfl, Nat.mul_one] at hv47)); (try (replace hv47 := Option.some.inj (hv47.symm.trans HX250_0.out))); (try (subst hv47)); (try (clear hcc47 hcl47)); (try (replace ge47_0 := (show Kd.R (Kd.int .i64) 3 _ _ _ _ (rd_L4 x5_2 x6_1) from ge47_0))); (try (have HP47 := Kd.R_putg ge47_0 (x7_2 : Int) (rd (rd_L4 x5_2 x6_1) (ji32)))))); refine store_event (t := 3) (p := 102) (v := ?vo_w48) (w1 := (wr.setCell ⟨go46, (x7_2 : Int).toNat, none⟩ (.int .i64 (rd (rd_L4 x5_2 x6_1) (ji32))))) ?hg ?ho ?hn ?hr ?_; (case ho => rfl); (case hg => rfl); (case hn => rfl); (case hr => first | (go_simp; done) | (go_simp; rfl)); intro w48 hw; have hg : wr.grownBy w48 (some go46) := (by rw [hw]; exact HP47.2); have hz_ : Kd.R (Kd.int .i64) 3 w48 w.heap.size oki47 (.slice (some ⟨go46, 0, none⟩) (rd_L4 x5_2 x6_1).length c236_0) y251 := (by rw [hw, Ny251.out]; exact HP47.1); have hp_ : Kd.S (Kd.slice 3 (Kd.int .i64)) 23 w48 w.heap.size (fun _ => True) (.slice (some ⟨go14, 0, none⟩) x5_2.length co14) y253 := (by rw [Ny253.out]; exact hbk47 hg (fun k_ e_ => by injection e_ with e_; subst e_; exact ge47_0.1 _ rfl) (Kd.M_row hz_)); have hm_ := Kd.R_mono hz_ hok47; clear HP47 hbk47; have n0_ := Aside0.mk (hp_); have n1_ := Aside0.mk ((by rw [hw]; exact below_set (HB.out) GB46.out : Below w.heap.size w w48)); have n2_ := Aside0.mk (hm_); have n3_ := Aside0.mk ((Kd.R_reads' hm_).2.1); clear HO_5; clear HB; clear HL234_0; clear HL236_0; clear HL238_0; clear HL242_0; clear HL250_0; have HO_5 := n0_; have HB := n1_; have HL277 := n2_; have HC252 := n3_; clear n0_ n1_ n2_ n3_; clear hg hw hp_ hz_ hm_ hok47))
                                             repeat (go_quiet (first | ((with_reducible refine gate_store (t := 3) (p := 102) rfl ?_); (try (rw [drewN_self wr]; generalize hq_ : World.drewN wr _ = wr; have n0_ := Aside0.mk (Kd.S_at hq_ HO_5.out); have n1_ := Aside0.mk (Kd.R_at hq_ HL234_0.out); have n2_ := Aside0.mk (Kd.R_at hq_ HL236_0.out); have n3_ := Aside0.mk (Kd.R_at hq_ HL238_0.out); have n4_ := Aside0.mk (Kd.R_at hq_ HL242_0.out); have n5_ := Aside0.mk (Kd.R_at hq_ HL250_0.out); have n6_ := Aside0.mk (Kd.C_at hq_ HR234_0.out); have n7_ := Aside0.mk (Kd.C_at hq_ HR236_0.out); have n8_ := Aside0.mk (Kd.C_at hq_ HR238_0.out); have n9_ := Aside0.mk (Kd.C_at hq_ HR242_0.out); have n10_ := Aside0.mk (Kd.C_at hq_ HR250_0.out); have n11_ := Aside0.mk (cell_at hq_ HX234_0.out); have n12_ := Aside0.mk (cell_at hq_ HX236_0.out); have n13_ := Aside0.mk (cell_at hq_ HX238_0.out); have n14_ := Aside0.mk (cell_at hq_ HX242_0.out); have n15_ := Aside0.mk (cell_at hq_ HX250_0.out); have n16_ := Aside0.mk (below_at hq_ HB.out); clear hq_ HO_5 HL234_0 HL236_0 HL238_0 HL242_0 HL250_0 HR234_0 HR236_0 HR238_0 HR242_0 HR250_0 HX234_0 HX236_0 HX238_0 HX242_0 HX250_0 HB; have HO_5 := n0_; have HL234_0 := n1_; have HL236_0 := n2_; have HL238_0 := n3_; have HL242_0 := n4_; have HL250_0 := n5_; have HR234_0 := n6_; have HR236_0 := n7_; have HR238_0 := n8_; have HR242_0 := n9_; have HR250_0 := n10_; have HX234_0 := n11_; have HX236_0 := n12_; have HX238_0 := n13_; have HX242_0 := n14_; have HX250_0 := n15_; have HB := n16_; clear n0_ n1_ n2_ n3_ n4_ n5_ n6_ n7_ n8_ n9_ n10_ n11_ n12_ n13_ n14_ n15_ n16_; (try (have p46 : 0 ≤ (x7_2 : Int) := of_decide_eq_true (by first | (with_reducible assumption) | assumption))); (try (have q46 : (x7_2 : Int) < (((rd_L4 x5_2 x6_1).length : Int) : Int) := of_decide_eq_true (by first | (with_reducible assumption) | assumption))); (try (obtain ⟨go46, co46, eo46, gb46, gl46, cl46, HG46⟩ := Kd.R_form HL250_0.out (by omega))); (try (first | cases eo46 | (injection eo46 with ea_ en_ ec_; (first | subst ea_ | (injection ea_ with ea_; subst ea_)); subst ec_; clear en_))); (try (have GB46 := Aside0.mk gb46)); (try (have GG46 := Aside0.mk HG46)); (try (clear gb46 gl46 HG46)); (try (first | simp only [add_plain] at hx239_0 | skip)); (try (obtain ⟨hx46_0, hf46_0⟩ := Kd.R_celln 0 HL250_0.out (x7_2 : Int) p46 q46)); (try (replace p46 := eq_true p46)); (try (replace q46 := eq_true q46)); (try (have hq47 : (x6_1 : Int) < (x5_2.length : Int) := (by have h_ : (x6_1 : Int) < ((x5_2.length : Int) : Int) := of_decide_eq_true (by first | (with_reducible assumption) | assumption); first | exact h_ | (have e_ := (Kd.S_reads' HO_5.out).1; omega) | simpa only [List.length_set, List.length_set] using h_))); (try (obtain ⟨oki47, ce47, hcl47, hM47, hcc47, hok47, hbk47⟩ := Kd.S_borrow HO_5.out [] (x6_1 : Int) (of_decide_eq_true (by first | (with_reducible assumption) | assumption)) hq47)); (try (obtain ⟨ve47_0, rfl, ge47_0⟩ := hM47)); (try (have hv47 := hcc47 0 _ rfl)); (try (rw [Nat.add_zero, show ((Kd.slice 3 (Kd.int .i64))).sz = 1 from rfl, Nat.mul_one] at hv47)); (try (replace hv47 := Option.some.inj (hv47.symm.trans HX250_0.out))); (try (subst hv47)); (try (clear hcc47 hcl47)); (try (replace ge47_0 := (show Kd.R (Kd.int .i64) 3 _ _ _ _ (rd_L4 x5_2 x6_1) from ge47_0))); (try (have HP47 := Kd.R_putg ge47_0 (x7_2 : Int) (rd (rd_L4 x5_2 x6_1) (ji32)))))); refine store_event (t := 3) (p := 102) (v := ?vo_w48) (w1 := (wr.setCell ⟨go46, (x7_2 : Int).toNat, none⟩ (.int .i64 (rd (rd_L4 x5_2 x6_1) (ji32))))) ?hg ?ho ?hn ?hr ?_; (case ho => rfl); (case hg => rfl); (case hn => rfl); (case hr => first | (go_simp; done) | (go_simp; rfl)); intro w48 hw; have hg : wr.grownBy w48 (some go46) := (by rw [hw]; exact HP47.2); have hz_ : Kd.R (Kd.int .i64) 3 w48 w.heap.size oki47 (.slice (some ⟨go46, 0, none⟩) (rd_L4 x5_2 x6_1).length c236_0) y251 := (by rw [hw, Ny251.out]; exact HP47.1); have hp_ : Kd.S (Kd.slice 3 (Kd.int .i64)) 23 w48 w.heap.size (fun _ => True) (.slice (some ⟨go14, 0, none⟩) x5_2.length co14) y253 := (by rw [Ny253.out]; exact hbk47 hg (fun k_ e_ => by injection e_ with e_; subst e_; exact ge47_0.1 _ rfl) (Kd.M_row hz_)); have hm_ := Kd.R_mono hz_ hok47; clear HP47 hbk47; have n0_ := Aside0.mk (hp_); have n1_ := Aside0.mk ((by rw [hw]; exact below_set (HB.out) GB46.out : Below w.heap.size w w48)); have n2_ := Aside0.mk (hm_); have n3_ := Aside0.mk ((Kd.R_reads' hm_).2.1); clear HO_5; clear HB; clear HL234_0; clear HL236_0; clear HL238_0; clear HL242_0; clear HL250_0; have HO_5 := n0_; have HB := n1_; have HL277 := n2_; have HC252 := n3_; clear n0_ n1_ n2_ n3_; clear hg hw hp_ hz_ hm_ hok47)); try go_wp2_with (first | ((with_reducible refine gate_store (t := 3) (p := 102) rfl ?_); (try (rw [drewN_self wr]; generalize hq_ : World.drewN wr _ = wr; have n0_ := Aside0.mk (Kd.S_at hq_ HO_5.out); have n1_ := Aside0.mk (Kd.R_at hq_ HL234_0.out); have n2_ := Aside0.mk (Kd.R_at hq_ HL236_0.out); have n3_ := Aside0.mk (Kd.R_at hq_ HL238_0.out); have n4_ := Aside0.mk (Kd.R_at hq_ HL242_0.out); have n5_ := Aside0.mk (Kd.R_at hq_ HL250_0.out); have n6_ := Aside0.mk (Kd.C_at hq_ HR234_0.out); have n7_ := Aside0.mk (Kd.C_at hq_ HR236_0.out); have n8_ := Aside0.mk (Kd.C_at hq_ HR238_0.out); have n9_ := Aside0.mk (Kd.C_at hq_ HR242_0.out); have n10_ := Aside0.mk (Kd.C_at hq_ HR250_0.out); have n11_ := Aside0.mk (cell_at hq_ HX234_0.out); have n12_ := Aside0.mk (cell_at hq_ HX236_0.out); have n13_ := Aside0.mk (cell_at hq_ HX238_0.out); have n14_ := Aside0.mk (cell_at hq_ HX242_0.out); have n15_ := Aside0.mk (cell_at hq_ HX250_0.out); have n16_ := Aside0.mk (below_at hq_ HB.out); clear hq_ HO_5 HL234_0 HL236_0 HL238_0 HL242_0 HL250_0 HR234_0 HR236_0 HR238_0 HR242_0 HR250_0 HX234_0 HX236_0 HX238_0 HX242_0 HX250_0 HB; have HO_5 := n0_; have HL234_0 := n1_; have HL236_0 := n2_; have HL238_0 := n3_; have HL242_0 := n4_; have HL250_0 := n5_; have HR234_0 := n6_; have HR236_0 := n7_; have HR238_0 := n8_; have HR242_0 := n9_; have HR250_0 := n10_; have HX234_0 := n11_; have HX236_0 := n12_; have HX238_0 := n13_; have HX242_0 := n14_; have HX250_0 := n15_; have HB := n16_; clear n0_ n1_ n2_ n3_ n4_ n5_ n6_ n7_ n8_ n9_ n10_ n11_ n12_ n13_ n14_ n15_ n16_; (try (have p46 : 0 ≤ (x7_2 : Int) := of_decide_eq_true (by first | (with_reducible assumption) | assumption))); (try (have q46 : (x7_2 : Int) < (((rd_L4 x5_2 x6_1).length : Int) : Int) := of_decide_eq_true (by first | (with_reducible assumption) | assumption))); (try (obtain ⟨go46, co46, eo46, gb46, gl46, cl46, HG46⟩ := Kd.R_form HL250_0.out (by omega))); (try (first | cases eo46 | (injection eo46 with ea_ en_ ec_; (first | subst ea_ | (injection ea_ with ea_; subst ea_)); subst ec_; clear en_))); (try (have GB46 := Aside0.mk gb46)); (try (have GG46 := Aside0.mk HG46)); (try (clear gb46 gl46 HG46)); (try (first | simp only [add_plain] at hx239_0 | skip)); (try (obtain ⟨hx46_0, hf46_0⟩ := Kd.R_celln 0 HL250_0.out (x7_2 : Int) p46 q46)); (try (replace p46 := eq_true p46)); (try (replace q46 := eq_true q46)); (try (have hq47 : (x6_1 : Int) < (x5_2.length : Int) := (by have h_ : (x6_1 : Int) < ((x5_2.length : Int) : Int) := of_decide_eq_true (by first | (with_reducible assumption) | assumption); first | exact h_ | (have e_ := (Kd.S_reads' HO_5.out).1; omega) | simpa only [List.length_set, List.length_set] using h_))); (try (obtain ⟨oki47, ce47, hcl47, hM47, hcc47, hok47, hbk47⟩ := Kd.S_borrow HO_5.out [] (x6_1 : Int) (of_decide_eq_true (by first | (with_reducible assumption) | assumption)) hq47)); (try (obtain ⟨ve47_0, rfl, ge47_0⟩ := hM47)); (try (have hv47 := hcc47 0 _ rfl)); (try (rw [Nat.add_zero, show ((Kd.slice 3 (Kd.int .i64))).sz = 1 from rfl, Nat.mul_one] at hv47)); (try (replace hv47 := Option.some.inj (hv47.symm.trans HX250_0.out))); (try (subst hv47)); (try (clear hcc47 hcl47)); (try (replace ge47_0 := (show Kd.R (Kd.int .i64) 3 _ _ _ _ (rd_L4 x5_2 x6_1) from ge47_0))); (try (have HP47 := Kd.R_putg ge47_0 (x7_2 : Int) (rd (rd_L4 x5_2 x6_1) (ji32)))))); refine store_event (t := 3) (p := 102) (v := ?vo_w48) (w1 := (wr.setCell ⟨go46, (x7_2 : Int).toNat, none⟩ (.int .i64 (rd (rd_L4 x5_2 x6_1) (ji32))))) ?hg ?ho ?hn ?hr ?_; (case ho => rfl); (case hg => rfl); (case hn => rfl); (case hr => first | (go_simp; done) | (go_simp; rfl)); intro w48 hw; have hg : wr.grownBy w48 (some go46) := (by rw [hw]; exact HP47.2); have hz_ : Kd.R (Kd.int .i64) 3 w48 w.heap.size oki47 (.slice (some ⟨go46, 0, none⟩) (rd_L4 x5_2 x6_1).length c236_0) y251 := (by rw [hw, Ny251.out]; exact HP47.1); have hp_ : Kd.S (Kd.slice 3 (Kd.int .i64)) 23 w48 w.heap.size (fun _ => True) (.slice (some ⟨go14, 0, none⟩) x5_2.length co14) y253 := (by rw [Ny253.out]; exact hbk47 hg (fun k_ e_ => by injection e_ with e_; subst e_; exact ge47_0.1 _ rfl) (Kd.M_row hz_)); have hm_ := Kd.R_mono hz_ hok47; clear HP47 hbk47; have n0_ := Aside0.mk (hp_); have n1_ := Aside0.mk ((by rw [hw]; exact below_set (HB.out) GB46.out : Below w.heap.size w w48)); have n2_ := Aside0.mk (hm_); have n3_ := Aside0.mk ((Kd.R_reads' hm_).2.1); clear HO_5; clear HB; clear HL234_0; clear HL236_0; clear HL238_0; clear HL242_0; clear HL250_0; have HO_5 := n0_; have HB := n1_; have HL277 := n2_; have HC252 := n3_; clear n0_ n1_ n2_ n3_; clear hg hw hp_ hz_ hm_ hok47)))
                                             (try simp only [← hl5_2])
                                             go_roundg k2
                                             case measure => have := HK1.out; have := HK2.out; omega
                                             case rel => exact ⟨(y253), (wrap64 (x7_2 - 1)), (by first | rfl | (simp; done) | (simp [*]; done)), H', ⟨by have := HK1.out; have := HK2.out; omega⟩, ⟨by (try simp only [hl5_2]); (with_reducible repeat (first | apply Kd.S_alloc | apply Kd.S_drewN | apply Kd.S_drew)); exact HO_5.out⟩, ⟨by repeat (first | (with_reducible first | exact HB.out | apply below_alloc | apply pw_below_drewN | apply below_drew1) | exact HB.out)⟩⟩
                                           rw [if_neg c45] at H
                                           exact absurd H (by simp)
                                         rw [if_neg c39] at H
                                         exact absurd H (by simp)
                                       rw [if_neg c38] at H
                                       have c38b0 : ((rdOf ByteArray.empty l0 x7_2).toList == (rdOf ByteArray.empty l1 x6_1).toList) = false := beq_eq_false_iff_ne.mpr c38
                                       have c38b1 : ((rdOf ByteArray.empty l0 x7_2).toList != (rdOf ByteArray.empty l1 x6_1).toList) = true := bne_iff_ne.mpr c38
                                       by_cases c49 : x7_2 < ((rd_L4 x5_2 x6_1).length : Int)
                                       · rw [if_pos c49] at H
                                         have c49b0 : decide (x7_2 < ((rd_L4 x5_2 x6_1).length : Int)) = true := decide_eq_true c49
                                         (try (have c49b0h := c49b0; simp only [hl5_2] at c49b0h))
                                         clear c49
                                         obtain ⟨y255, hy255⟩ : ∃ y_ : List Int, y_ = ((rd_L4 x5_2 x6_1).set (x7_2 : Int).toNat (rd (rd_L4 x5_2 x6_1) (ji32))) := ⟨_, rfl⟩
                                         replace H : (changeforgeref1_suffixes.l1 k2 l0 l1 (x5_2.set (x6_1 : Int).toNat y255) x6_1 (wrap64 (x7_2 - 1))) = some r := by first | (rw [hy255]; with_reducible exact H) | (have H2_ := (Option.bind_some _ _).symm.trans H; rw [hy255]; with_reducible exact H2_) | (have H2_ := (Option.bind_some _ _).symm.trans H; with_reducible exact H2_) | with_reducible exact H | (rw [hy255]; exact H) | exact H
                                         have Ny255 := Aside0.mk hy255
                                         clear hy255
                                         obtain ⟨y257, hy257⟩ : ∃ y_ : List (List Int), y_ = (x5_2.set (x6_1 : Int).toNat y255) := ⟨_, rfl⟩
                                         replace H : (changeforgeref1_suffixes.l1 k2 l0 l1 y257 x6_1 (wrap64 (x7_2 - 1))) = some r := by first | (rw [hy257]; with_reducible exact H) | (have H2_ := (Option.bind_some _ _).symm.trans H; rw [hy257]; with_reducible exact H2_) | (have H2_ := (Option.bind_some _ _).symm.trans H; with_reducible exact H2_) | with_reducible exact H | (rw [hy257]; exact H) | exact H
                                         have Ny257 := Aside0.mk hy257
                                         clear hy257
                                         have H' := Aside0.mk H
                                         clear H
                                         have p234 : 0 ≤ ((ji25) : Int) := of_decide_eq_true (by first | (with_reducible assumption) | assumption)
                                         have q234 : (ji25) < (x5_2.length : Int) := of_decide_eq_true (by first | (with_reducible assumption) | assumption)
                                         obtain ⟨ad234, A234_0, c234_0, e234, hx234_0, hl234_0, hi234_0⟩ := at_L4 (Kd.S_reads' HO_5.out).2.2 (ji25) p234 q234
                                         obtain rfl : (⟨go14, 0, none⟩ : Addr) = ad234 := (by injection e234)
                                         obtain ⟨ce234, hce234, hMe234, hcc234⟩ := Kd.S_get HO_5.out [] (ji25) p234 (by first | exact q234 | exact of_decide_eq_true (by first | (with_reducible assumption) | assumption) | (have e_ := (Kd.S_reads' HO_5.out).1; omega))
                                         obtain ⟨ve234_0, rfl, ge234_0⟩ := hMe234
                                         have hv234_0 := hcc234 0 _ rfl
                                         rw [Nat.add_zero, show ((Kd.slice 3 (Kd.int .i64))).sz = 1 from rfl, Nat.mul_one] at hv234_0
                                         replace hv234_0 := Option.some.inj (hv234_0.symm.trans hx234_0)
                                         rw [hv234_0] at ge234_0
                                         have HL234_0 := Aside0.mk (show Kd.R (Kd.int .i64) 3 _ _ _ _ (rd_L4 x5_2 (ji25)) from ge234_0)
                                         clear hv234_0 ge234_0
                                         have HX234_0 := Aside0.mk hx234_0
                                         clear hcc234 hce234
                                         (first | simp only [add_plain] at hx234_0 | simp only [add_at] at hx234_0 | simp only [Addr.add, Nat.zero_add] at hx234_0 | skip)
                                         have HR234_0 := Aside0.mk hi234_0
                                         have HC234_0 := Aside0.mk hl234_0
                                         clear hi234_0 hl234_0
                                         replace p234 := eq_true p234
                                         replace q234 := eq_true q234
                                         have p235 : 0 ≤ (x7_2 : Int) := of_decide_eq_true (by first | (with_reducible assumption) | assumption)
                                         have q235 : x7_2 < ((rd_L4 x5_2 (ji25)).length : Int) := of_decide_eq_true (by first | (with_reducible assumption) | assumption)
                                         obtain ⟨ad235, e235, hx235_0⟩ := Kd.at_int (by repeat (first | (with_reducible exact HR234_0.out) | (with_reducible refine Kd.C_alloc ?_ _) | (with_reducible refine Kd.C_drewN ?_ _) | (with_reducible refine Kd.C_drew ?_) | exact HR234_0.out)) x7_2 p235 q235
                                         cases e235
                                         replace p235 := eq_true p235
                                         replace q235 := eq_true q235
                                         have p236 : 0 ≤ (x6_1 : Int) := of_decide_eq_true (by first | (with_reducible assumption) | assumption)
                                         have q236 : x6_1 < (x5_2.length : Int) := of_decide_eq_true (by first | (with_reducible assumption) | assumption)
                                         obtain ⟨ad236, A236_0, c236_0, e236, hx236_0, hl236_0, hi236_0⟩ := at_L4 (Kd.S_reads' HO_5.out).2.2 x6_1 p236 q236
                                         obtain rfl : (⟨go14, 0, none⟩ : Addr) = ad236 := (by injection e236)
                                         obtain ⟨ce236, hce236, hMe236, hcc236⟩ := Kd.S_get HO_5.out [] x6_1 p236 (by first | exact q236 | exact of_decide_eq_true (by first | (with_reducible assumption) | assumption) | (have e_ := (Kd.S_reads' HO_5.out).1; omega))
                                         obtain ⟨ve236_0, rfl, ge236_0⟩ := hMe236
                                         have hv236_0 := hcc236 0 _ rfl
                                         rw [Nat.add_zero, show ((Kd.slice 3 (Kd.int .i64))).sz = 1 from rfl, Nat.mul_one] at hv236_0
                                         replace hv236_0 := Option.some.inj (hv236_0.symm.trans hx236_0)
                                         rw [hv236_0] at ge236_0
                                         have HL236_0 := Aside0.mk (show Kd.R (Kd.int .i64) 3 _ _ _ _ (rd_L4 x5_2 x6_1) from ge236_0)
                                         clear hv236_0 ge236_0
                                         have HX236_0 := Aside0.mk hx236_0
                                         clear hcc236 hce236
                                         (first | simp only [add_plain] at hx236_0 | simp only [add_at] at hx236_0 | simp only [Addr.add, Nat.zero_add] at hx236_0 | skip)
                                         have HR236_0 := Aside0.mk hi236_0
                                         have HC236_0 := Aside0.mk hl236_0
                                         clear hi236_0 hl236_0
                                         replace p236 := eq_true p236
                                         replace q236 := eq_true q236
                                         have p237 : 0 ≤ ((ji32) : Int) := of_decide_eq_true (by first | (with_reducible assumption) | assumption)
                                         have q237 : (ji32) < ((rd_L4 x5_2 x6_1).length : Int) := of_decide_eq_true (by first | (with_reducible assumption) | assumption)
                                         obtain ⟨ad237, e237, hx237_0⟩ := Kd.at_int (by repeat (first | (with_reducible exact HR236_0.out) | (with_reducible refine Kd.C_alloc ?_ _) | (with_reducible refine Kd.C_drewN ?_ _) | (with_reducible refine Kd.C_drew ?_) | exact HR236_0.out)) (ji32) p237 q237
                                         cases e237
                                         replace p237 := eq_true p237
                                         replace q237 := eq_true q237
                                         have p238 : 0 ≤ (x6_1 : Int) := of_decide_eq_true (by first | (with_reducible assumption) | assumption)
                                         have q238 : x6_1 < (x5_2.length : Int) := of_decide_eq_true (by first | (with_reducible assumption) | assumption)
                                         obtain ⟨ad238, A238_0, c238_0, e238, hx238_0, hl238_0, hi238_0⟩ := at_L4 (Kd.S_reads' HO_5.out).2.2 x6_1 p238 q238
                                         obtain rfl : (⟨go14, 0, none⟩ : Addr) = ad238 := (by injection e238)
                                         obtain ⟨ce238, hce238, hMe238, hcc238⟩ := Kd.S_get HO_5.out [] x6_1 p238 (by first | exact q238 | exact of_decide_eq_true (by first | (with_reducible assumption) | assumption) | (have e_ := (Kd.S_reads' HO_5.out).1; omega))
                                         obtain ⟨ve238_0, rfl, ge238_0⟩ := hMe238
                                         have hv238_0 := hcc238 0 _ rfl
                                         rw [Nat.add_zero, show ((Kd.slice 3 (Kd.int .i64))).sz = 1 from rfl, Nat.mul_one] at hv238_0
                                         replace hv238_0 := Option.some.inj (hv238_0.symm.trans hx238_0)
                                         rw [hv238_0] at ge238_0
                                         have HL238_0 := Aside0.mk (show Kd.R (Kd.int .i64) 3 _ _ _ _ (rd_L4 x5_2 x6_1) from ge238_0)
                                         clear hv238_0 ge238_0
                                         have HX238_0 := Aside0.mk hx238_0
                                         clear hcc238 hce238
                                         (first | simp only [add_plain] at hx238_0 | simp only [add_at] at hx238_0 | simp only [Addr.add, Nat.zero_add] at hx238_0 | skip)
                                         have HR238_0 := Aside0.mk hi238_0
                                         have HC238_0 := Aside0.mk hl238_0
                                         clear hi238_0 hl238_0
                                         replace p238 := eq_true p238
                                         replace q238 := eq_true q238
                                         have ea_ := Option.some.inj (hx236_0.symm.trans hx238_0)
                                         injection ea_ with ea_ en_ ec_
                                         subst ea_
                                         subst ec_
                                         clear en_
                                         have p239 : 0 ≤ ((ji32) : Int) := of_decide_eq_true (by first | (with_reducible assumption) | assumption)
                                         have q239 : (ji32) < ((rd_L4 x5_2 x6_1).length : Int) := of_decide_eq_true (by first | (with_reducible assumption) | assumption)
                                         obtain ⟨ad239, e239, hx239_0⟩ := Kd.at_int (by repeat (first | (with_reducible exact HR238_0.out) | (with_reducible refine Kd.C_alloc ?_ _) | (with_reducible refine Kd.C_drewN ?_ _) | (with_reducible refine Kd.C_drew ?_) | exact HR238_0.out)) (ji32) p239 q239
                                         cases e239
                                         replace p239 := eq_true p239
                                         replace q239 := eq_true q239
                                         have p240 : 0 ≤ (x7_2 : Int) := of_decide_eq_true (by first | (with_reducible assumption) | assumption)
                                         have q240 : x7_2 < (l0.length : Int) := of_decide_eq_true (by first | (with_reducible assumption) | assumption)
                                         obtain ⟨ad240, e240, hx240_0⟩ := Kd.at_string HR0.out x7_2 p240 q240
                                         cases e240
                                         replace hx240_0 := (HB.out.cell (World.block_lt_of_cell? w _ hx240_0)).trans hx240_0
                                         replace p240 := eq_true p240
                                         replace q240 := eq_true q240
                                         have p241 : 0 ≤ (x6_1 : Int) := of_decide_eq_true (by first | (with_reducible assumption) | assumption)
                                         have q241 : x6_1 < (l1.length : Int) := of_decide_eq_true (by first | (with_reducible assumption) | assumption)
                                         obtain ⟨ad241, e241, hx241_0⟩ := Kd.at_string HR1.out x6_1 p241 q241
                                         cases e241
                                         replace hx241_0 := (HB.out.cell (World.block_lt_of_cell? w _ hx241_0)).trans hx241_0
                                         replace p241 := eq_true p241
                                         replace q241 := eq_true q241
                                         have p254 : 0 ≤ (x6_1 : Int) := of_decide_eq_true (by first | (with_reducible assumption) | assumption)
                                         have q254 : x6_1 < (x5_2.length : Int) := of_decide_eq_true (by first | (with_reducible assumption) | assumption)
                                         obtain ⟨ad254, A254_0, c254_0, e254, hx254_0, hl254_0, hi254_0⟩ := at_L4 (Kd.S_reads' HO_5.out).2.2 x6_1 p254 q254
                                         obtain rfl : (⟨go14, 0, none⟩ : Addr) = ad254 := (by injection e254)
                                         obtain ⟨ce254, hce254, hMe254, hcc254⟩ := Kd.S_get HO_5.out [] x6_1 p254 (by first | exact q254 | exact of_decide_eq_true (by first | (with_reducible assumption) | assumption) | (have e_ := (Kd.S_reads' HO_5.out).1; omega))
                                         obtain ⟨ve254_0, rfl, ge254_0⟩ := hMe254
                                         have hv254_0 := hcc254 0 _ rfl
                                         rw [Nat.add_zero, show ((Kd.slice 3 (Kd.int .i64))).sz = 1 from rfl, Nat.mul_one] at hv254_0
                                         replace hv254_0 := Option.some.inj (hv254_0.symm.trans hx254_0)
                                         rw [hv254_0] at ge254_0
                                         have HL254_0 := Aside0.mk (show Kd.R (Kd.int .i64) 3 _ _ _ _ (rd_L4 x5_2 x6_1) from ge254_0)
                                         clear hv254_0 ge254_0
                                         have HX254_0 := Aside0.mk hx254_0
                                         clear hcc254 hce254
                                         (first | simp only [add_plain] at hx254_0 | simp only [add_at] at hx254_0 | simp only [Addr.add, Nat.zero_add] at hx254_0 | skip)
                                         have HR254_0 := Aside0.mk hi254_0
                                         have HC254_0 := Aside0.mk hl254_0
                                         clear hi254_0 hl254_0
                                         replace p254 := eq_true p254
                                         replace q254 := eq_true q254
                                         have ea_ := Option.some.inj (hx236_0.symm.trans hx254_0)
                                         injection ea_ with ea_ en_ ec_
                                         subst ea_
                                         subst ec_
                                         clear en_
                                         have p50 : 0 ≤ (x7_2 : Int) := of_decide_eq_true (by first | (with_reducible assumption) | assumption)
                                         have q50 : (x7_2 : Int) < (((rd_L4 x5_2 x6_1).length : Int) : Int) := of_decide_eq_true (by first | (with_reducible assumption) | assumption)
                                         obtain ⟨go50, co50, eo50, gb50, gl50, cl50, HG50⟩ := Kd.R_form HL254_0.out (by omega)
                                         (first | cases eo50 | (injection eo50 with ea_ en_ ec_; (first | subst ea_ | (injection ea_ with ea_; subst ea_)); subst ec_; clear en_))
                                         have GB50 := Aside0.mk gb50
                                         have GG50 := Aside0.mk HG50
                                         clear gb50 gl50 HG50
                                         (first | simp only [add_plain] at hx239_0 | skip)
                                         obtain ⟨hx50_0, hf50_0⟩ := Kd.R_celln 0 HL254_0.out (x7_2 : Int) p50 q50
                                         replace p50 := eq_true p50
                                         replace q50 := eq_true q50
                                         have hq51 : (x6_1 : Int) < (x5_2.length : Int) := (by have h_ : (x6_1 : Int) < ((x5_2.length : Int) : Int) := of_decide_eq_true (by first | (with_reducible assumption) | assumption); first | exact h_ | (have e_ := (Kd.S_reads' HO_5.out).1; omega) | simpa only [List.length_set, List.length_set] using h_)
                                         obtain ⟨oki51, ce51, hcl51, hM51, hcc51, hok51, hbk51⟩ := Kd.S_borrow HO_5.out [] (x6_1 : Int) (of_decide_eq_true (by first | (with_reducible assumption) | assumption)) hq51
                                         obtain ⟨ve51_0, rfl, ge51_0⟩ := hM51
                                         have hv51 := hcc51 0 _ rfl
                                         rw [Nat.add_zero, show ((Kd.slice 3 (Kd.int .i64))).sz = 1 from rfl, Nat.mul_one] at hv51
                                         replace hv51 := Option.some.inj (hv51.symm.trans HX254_0.out)
                                         subst hv51
                                         clear hcc51 hcl51
                                         replace ge51_0 := (show Kd.R (Kd.int .i64) 3 _ _ _ _ (rd_L4 x5_2 x6_1) from ge51_0)
                                         have HP51 := Kd.R_putg ge51_0 (x7_2 : Int) (rd (rd_L4 x5_2 x6_1) (ji32))
                                         go_wp2_with (first | ((with_reducible refine gate_store (t := 3) (p := 102) rfl ?_); (try (rw [drewN_self wr]; generalize hq_ : World.drewN wr _ = wr; have n0_ := Aside0.mk (Kd.S_at hq_ HO_5.out); have n1_ := Aside0.mk (Kd.R_at hq_ HL234_0.out); have n2_ := Aside0.mk (Kd.R_at hq_ HL236_0.out); have n3_ := Aside0.mk (Kd.R_at hq_ HL238_0.out); have n4_ := Aside0.mk (Kd.R_at hq_ HL254_0.out); have n5_ := Aside0.mk (Kd.C_at hq_ HR234_0.out); have n6_ := Aside0.mk (Kd.C_at hq_ HR236_0.out); have n7_ := Aside0.mk (Kd.C_at hq_ HR238_0.out); have n8_ := Aside0.mk (Kd.C_at hq_ HR254_0.out); have n9_ := Aside0.mk (cell_at hq_ HX234_0.out); have n10_ := Aside0.mk (cell_at hq_ HX236_0.out); have n11_ := Aside0.mk (cell_at hq_ HX238_0.out); have n12_ := Aside0.mk (cell_at hq_ HX254_0.out); have n13_ := Aside0.mk (below_at hq_ HB.out); clear hq_ HO_5 HL234_0 HL236_0 HL238_0 HL254_0 HR234_0 HR236_0 HR238_0 HR254_0 HX234_0 HX236_0 HX238_0 HX254_0 HB; have HO_5 := n0_; have HL234_0 := n1_; have HL236_0 := n2_; have HL238_0 := n3_; have HL254_0 := n4_; have HR234_0 := n5_; have HR236_0 := n6_; have HR238_0 := n7_; have HR254_0 := n8_; have HX234_0 := n9_; have HX236_0 := n10_; have HX238_0 := n11_; have HX254_0 := n12_; have HB := n13_; clear n0_ n1_ n2_ n3_ n4_ n5_ n6_ n7_ n8_ n9_ n10_ n11_ n12_ n13_; (try (have p50 : 0 ≤ (x7_2 : Int) := of_decide_eq_true (by first | (with_reducible assumption) | assumption))); (try (have q50 : (x7_2 : Int) < (((rd_L4 x5_2 x6_1).length : Int) : Int) := of_decide_eq_true (by first | (with_reducible assumption) | assumption))); (try (obtain ⟨go50, co50, eo50, gb50, gl50, cl50, HG50⟩ := Kd.R_form HL254_0.out (by omega))); (try (first | cases eo50 | (injection eo50 with ea_ en_ ec_; (first | subst ea_ | (injection ea_ with ea_; subst ea_)); subst ec_; clear en_))); (try (have GB50 := Aside0.mk gb50)); (try (have GG50 := Aside0.mk HG50)); (try (clear gb50 gl50 HG50)); (try (first | simp only [add_plain] at hx239_0 | skip)); (try (obtain ⟨hx50_0, hf50_0⟩ := Kd.R_celln 0 HL254_0.out (x7_2 : Int) p50 q50)); (try (replace p50 := eq_true p50)); (try (replace q50 := eq_true q50)); (try (have hq51 : (x6_1 : Int) < (x5_2.length : Int) := (by have h_ : (x6_1 : Int) < ((x5_2.length : Int) : Int) := of_decide_eq_true (by first | (with_reducible assumption) | assumption); first | exact h_ | (have e_ := (Kd.S_reads' HO_5.out).1; omega) | simpa only [List.length_set, List.length_set] using h_))); (try (obtain ⟨oki51, ce51, hcl51, hM51, hcc51, hok51, hbk51⟩ := Kd.S_borrow HO_5.out [] (x6_1 : Int) (of_decide_eq_true (by first | (with_reducible assumption) | assumption)) hq51)); (try (obtain ⟨ve51_0, rfl, ge51_0⟩ := hM51)); (try (have hv51 := hcc51 0 _ rfl)); (try (rw [Nat.add_zero, show ((Kd.slice 3 (Kd.int .i64))).sz = 1 from rfl, Nat.mul_one] at hv51)); (try (replace hv51 := Option.some.inj (hv51.symm.trans HX254_0.out))); (try (subst hv51)); (try (clear hcc51 hcl51)); (try (replace ge51_0 := (show Kd.R (Kd.int .i64) 3 _ _ _ _ (rd_L4 x5_2 x6_1) from ge51_0))); (try (have HP51 := Kd.R_putg ge51_0 (x7_2 : Int) (rd (rd_L4 x5_2 x6_1) (ji32)))))); refine store_event (t := 3) (p := 102) (v := ?vo_w52) (w1 := (wr.setCell ⟨go50, (x7_2 : Int).toNat, none⟩ (.int .i64 (rd (rd_L4 x5_2 x6_1) (ji32))))) ?hg ?ho ?hn ?hr ?_; (case ho => rfl); (case hg => rfl); (case hn => rfl); (case hr => first | (go_simp; done) | (go_simp; rfl)); intro w52 hw; have hg : wr.grownBy w52 (some go50) := (by rw [hw]; exact HP51.2); have hz_ : Kd.R (Kd.int .i64) 3 w52 w.heap.size oki51 (.slice (some ⟨go50, 0, none⟩) (rd_L4 x5_2 x6_1).length c236_0) y255 := (by rw [hw, Ny255.out]; exact HP51.1); have hp_ : Kd.S (Kd.slice 3 (Kd.int .i64)) 23 w52 w.heap.size (fun _ => True) (.slice (some ⟨go14, 0, none⟩) x5_2.length co14) y257 := (by rw [Ny257.out]; exact hbk51 hg (fun k_ e_ => by injection e_ with e_; subst e_; exact ge51_0.1 _ rfl) (Kd.M_row hz_)); have hm_ := Kd.R_mono hz_ hok51; clear HP51 hbk51; have n0_ := Aside0.mk (hp_); have n1_ := Aside0.mk ((by rw [hw]; exact below_set (HB.out) GB50.out : Below w.heap.size w w52)); have n2_ := Aside0.mk (hm_); have n3_ := Aside0.mk ((Kd.R_reads' hm_).2.1); clear HO_5; clear HB; clear HL234_0; clear HL236_0; clear HL238_0; clear HL254_0; have HO_5 := n0_; have HB := n1_; have HL278 := n2_; have HC256 := n3_; clear n0_ n1_ n2_ n3_; clear hg hw hp_ hz_ hm_ hok51))
                                         repeat (go_quiet (first | ((with_reducible refine gate_store (t := 3) (p := 102) rfl ?_); (try (rw [drewN_self wr]; generalize hq_ : World.drewN wr _ = wr; have n0_ := Aside0.mk (Kd.S_at hq_ HO_5.out); have n1_ := Aside0.mk (Kd.R_at hq_ HL234_0.out); have n2_ := Aside0.mk (Kd.R_at hq_ HL236_0.out); have n3_ := Aside0.mk (Kd.R_at hq_ HL238_0.out); have n4_ := Aside0.mk (Kd.R_at hq_ HL254_0.out); have n5_ := Aside0.mk (Kd.C_at hq_ HR234_0.out); have n6_ := Aside0.mk (Kd.C_at hq_ HR236_0.out); have n7_ := Aside0.mk (Kd.C_at hq_ HR238_0.out); have n8_ := Aside0.mk (Kd.C_at hq_ HR254_0.out); have n9_ := Aside0.mk (cell_at hq_ HX234_0.out); have n10_ := Aside0.mk (cell_at hq_ HX236_0.out); have n11_ := Aside0.mk (cell_at hq_ HX238_0.out); have n12_ := Aside0.mk (cell_at hq_ HX254_0.out); have n13_ := Aside0.mk (below_at hq_ HB.out); clear hq_ HO_5 HL234_0 HL236_0 HL238_0 HL254_0 HR234_0 HR236_0 HR238_0 HR254_0 HX234_0 HX236_0 HX238_0 HX254_0 HB; have HO_5 := n0_; have HL234_0 := n1_; have HL236_0 := n2_; have HL238_0 := n3_; have HL254_0 := n4_; have HR234_0 := n5_; have HR236_0 := n6_; have HR238_0 := n7_; have HR254_0 := n8_; have HX234_0 := n9_; have HX236_0 := n10_; have HX238_0 := n11_; have HX254_0 := n12_; have HB := n13_; clear n0_ n1_ n2_ n3_ n4_ n5_ n6_ n7_ n8_ n9_ n10_ n11_ n12_ n13_; (try (have p50 : 0 ≤ (x7_2 : Int) := of_decide_eq_true (by first | (with_reducible assumption) | assumption))); (try (have q50 : (x7_2 : Int) < (((rd_L4 x5_2 x6_1).length : Int) : Int) := of_decide_eq_true (by first | (with_reducible assumption) | assumption))); (try (obtain ⟨go50, co50, eo50, gb50, gl50, cl50, HG50⟩ := Kd.R_form HL254_0.out (by omega))); (try (first | cases eo50 | (injection eo50 with ea_ en_ ec_; (first | subst ea_ | (injection ea_ with ea_; subst ea_)); subst ec_; clear en_))); (try (have GB50 := Aside0.mk gb50)); (try (have GG50 := Aside0.mk HG50)); (try (clear gb50 gl50 HG50)); (try (first | simp only [add_plain] at hx239_0 | skip)); (try (obtain ⟨hx50_0, hf50_0⟩ := Kd.R_celln 0 HL254_0.out (x7_2 : Int) p50 q50)); (try (replace p50 := eq_true p50)); (try (replace q50 := eq_true q50)); (try (have hq51 : (x6_1 : Int) < (x5_2.length : Int) := (by have h_ : (x6_1 : Int) < ((x5_2.length : Int) : Int) := of_decide_eq_true (by first | (with_reducible assumption) | assumption); first | exact h_ | (have e_ := (Kd.S_reads' HO_5.out).1; omega) | simpa only [List.length_set, List.length_set] using h_))); (try (obtain ⟨oki51, ce51, hcl51, hM51, hcc51, hok51, hbk51⟩ := Kd.S_borrow HO_5.out [] (x6_1 : Int) (of_decide_eq_true (by first | (with_reducible assumption) | assumption)) hq51)); (try (obtain ⟨ve51_0, rfl, ge51_0⟩ := hM51)); (try (have hv51 := hcc51 0 _ rfl)); (try (rw [Nat.add_zero, show ((Kd.slice 3 (Kd.int .i64))).sz = 1 from rfl, Nat.mul_one] at hv51)); (try (replace hv51 := Option.some.inj (hv51.symm.trans HX254_0.out))); (try (subst hv51)); (try (clear hcc51 hcl51)); (try (replace ge51_0 := (show Kd.R (Kd.int .i64) 3 _ _ _ _ (rd_L4 x5_2 x6_1) from ge51_0))); (try (have HP51 := Kd.R_putg ge51_0 (x7_2 : Int) (rd (rd_L4 x5_2 x6_1) (ji32)))))); refine store_event (t := 3) (p := 102) (v := ?vo_w52) (w1 := (wr.setCell ⟨go50, (x7_2 : Int).toNat, none⟩ (.int .i64 (rd (rd_L4 x5_2 x6_1) (ji32))))) ?hg ?ho ?hn ?hr ?_; (case ho => rfl); (case hg => rfl); (case hn => rfl); (case hr => first | (go_simp; done) | (go_simp; rfl)); intro w52 hw; have hg : wr.grownBy w52 (some go50) := (by rw [hw]; exact HP51.2); have hz_ : Kd.R (Kd.int .i64) 3 w52 w.heap.size oki51 (.slice (some ⟨go50, 0, none⟩) (rd_L4 x5_2 x6_1).length c236_0) y255 := (by rw [hw, Ny255.out]; exact HP51.1); have hp_ : Kd.S (Kd.slice 3 (Kd.int .i64)) 23 w52 w.heap.size (fun _ => True) (.slice (some ⟨go14, 0, none⟩) x5_2.length co14) y257 := (by rw [Ny257.out]; exact hbk51 hg (fun k_ e_ => by injection e_ with e_; subst e_; exact ge51_0.1 _ rfl) (Kd.M_row hz_)); have hm_ := Kd.R_mono hz_ hok51; clear HP51 hbk51; have n0_ := Aside0.mk (hp_); have n1_ := Aside0.mk ((by rw [hw]; exact below_set (HB.out) GB50.out : Below w.heap.size w w52)); have n2_ := Aside0.mk (hm_); have n3_ := Aside0.mk ((Kd.R_reads' hm_).2.1); clear HO_5; clear HB; clear HL234_0; clear HL236_0; clear HL238_0; clear HL254_0; have HO_5 := n0_; have HB := n1_; have HL278 := n2_; have HC256 := n3_; clear n0_ n1_ n2_ n3_; clear hg hw hp_ hz_ hm_ hok51)); try go_wp2_with (first | ((with_reducible refine gate_store (t := 3) (p := 102) rfl ?_); (try (rw [drewN_self wr]; generalize hq_ : World.drewN wr _ = wr; have n0_ := Aside0.mk (Kd.S_at hq_ HO_5.out); have n1_ := Aside0.mk (Kd.R_at hq_ HL234_0.out); have n2_ := Aside0.mk (Kd.R_at hq_ HL236_0.out); have n3_ := Aside0.mk (Kd.R_at hq_ HL238_0.out); have n4_ := Aside0.mk (Kd.R_at hq_ HL254_0.out); have n5_ := Aside0.mk (Kd.C_at hq_ HR234_0.out); have n6_ := Aside0.mk (Kd.C_at hq_ HR236_0.out); have n7_ := Aside0.mk (Kd.C_at hq_ HR238_0.out); have n8_ := Aside0.mk (Kd.C_at hq_ HR254_0.out); have n9_ := Aside0.mk (cell_at hq_ HX234_0.out); have n10_ := Aside0.mk (cell_at hq_ HX236_0.out); have n11_ := Aside0.mk (cell_at hq_ HX238_0.out); have n12_ := Aside0.mk (cell_at hq_ HX254_0.out); have n13_ := Aside0.mk (below_at hq_ HB.out); clear hq_ HO_5 HL234_0 HL236_0 HL238_0 HL254_0 HR234_0 HR236_0 HR238_0 HR254_0 HX234_0 HX236_0 HX238_0 HX254_0 HB; have HO_5 := n0_; have HL234_0 := n1_; have HL236_0 := n2_; have HL238_0 := n3_; have HL254_0 := n4_; have HR234_0 := n5_; have HR236_0 := n6_; have HR238_0 := n7_; have HR254_0 := n8_; have HX234_0 := n9_; have HX236_0 := n10_; have HX238_0 := n11_; have HX254_0 := n12_; have HB := n13_; clear n0_ n1_ n2_ n3_ n4_ n5_ n6_ n7_ n8_ n9_ n10_ n11_ n12_ n13_; (try (have p50 : 0 ≤ (x7_2 : Int) := of_decide_eq_true (by first | (with_reducible assumption) | assumption))); (try (have q50 : (x7_2 : Int) < (((rd_L4 x5_2 x6_1).length : Int) : Int) := of_decide_eq_true (by first | (with_reducible assumption) | assumption))); (try (obtain ⟨go50, co50, eo50, gb50, gl50, cl50, HG50⟩ := Kd.R_form HL254_0.out (by omega))); (try (first | cases eo50 | (injection eo50 with ea_ en_ ec_; (first | subst ea_ | (injection ea_ with ea_; subst ea_)); subst ec_; clear en_))); (try (have GB50 := Aside0.mk gb50)); (try (have GG50 := Aside0.mk HG50)); (try (clear gb50 gl50 HG50)); (try (first | simp only [add_plain] at hx239_0 | skip)); (try (obtain ⟨hx50_0, hf50_0⟩ := Kd.R_celln 0 HL254_0.out (x7_2 : Int) p50 q50)); (try (replace p50 := eq_true p50)); (try (replace q50 := eq_true q50)); (try (have hq51 : (x6_1 : Int) < (x5_2.length : Int) := (by have h_ : (x6_1 : Int) < ((x5_2.length : Int) : Int) := of_decide_eq_true (by first | (with_reducible assumption) | assumption); first | exact h_ | (have e_ := (Kd.S_reads' HO_5.out).1; omega) | simpa only [List.length_set, List.length_set] using h_))); (try (obtain ⟨oki51, ce51, hcl51, hM51, hcc51, hok51, hbk51⟩ := Kd.S_borrow HO_5.out [] (x6_1 : Int) (of_decide_eq_true (by first | (with_reducible assumption) | assumption)) hq51)); (try (obtain ⟨ve51_0, rfl, ge51_0⟩ := hM51)); (try (have hv51 := hcc51 0 _ rfl)); (try (rw [Nat.add_zero, show ((Kd.slice 3 (Kd.int .i64))).sz = 1 from rfl, Nat.mul_one] at hv51)); (try (replace hv51 := Option.some.inj (hv51.symm.trans HX254_0.out))); (try (subst hv51)); (try (clear hcc51 hcl51)); (try (replace ge51_0 := (show Kd.R (Kd.int .i64) 3 _ _ _ _ (rd_L4 x5_2 x6_1) from ge51_0))); (try (have HP51 := Kd.R_putg ge51_0 (x7_2 : Int) (rd (rd_L4 x5_2 x6_1) (ji32)))))); refine store_event (t := 3) (p := 102) (v := ?vo_w52) (w1 := (wr.setCell ⟨go50, (x7_2 : Int).toNat, none⟩ (.int .i64 (rd (rd_L4 x5_2 x6_1) (ji32))))) ?hg ?ho ?hn ?hr ?_; (case ho => rfl); (case hg => rfl); (case hn => rfl); (case hr => first | (go_simp; done) | (go_simp; rfl)); intro w52 hw; have hg : wr.grownBy w52 (some go50) := (by rw [hw]; exact HP51.2); have hz_ : Kd.R (Kd.int .i64) 3 w52 w.heap.size oki51 (.slice (some ⟨go50, 0, none⟩) (rd_L4 x5_2 x6_1).length c236_0) y255 := (by rw [hw, Ny255.out]; exact HP51.1); have hp_ : Kd.S (Kd.slice 3 (Kd.int .i64)) 23 w52 w.heap.size (fun _ => True) (.slice (some ⟨go14, 0, none⟩) x5_2.length co14) y257 := (by rw [Ny257.out]; exact hbk51 hg (fun k_ e_ => by injection e_ with e_; subst e_; exact ge51_0.1 _ rfl) (Kd.M_row hz_)); have hm_ := Kd.R_mono hz_ hok51; clear HP51 hbk51; have n0_ := Aside0.mk (hp_); have n1_ := Aside0.mk ((by rw [hw]; exact below_set (HB.out) GB50.out : Below w.heap.size w w52)); have n2_ := Aside0.mk (hm_); have n3_ := Aside0.mk ((Kd.R_reads' hm_).2.1); clear HO_5; clear HB; clear HL234_0; clear HL236_0; clear HL238_0; clear HL254_0; have HO_5 := n0_; have HB := n1_; have HL278 := n2_; have HC256 := n3_; clear n0_ n1_ n2_ n3_; clear hg hw hp_ hz_ hm_ hok51)))
                                         (try simp only [← hl5_2])
                                         go_roundg k2
                                         case measure => have := HK1.out; have := HK2.out; omega
                                         case rel => exact ⟨(y257), (wrap64 (x7_2 - 1)), (by first | rfl | (simp; done) | (simp [*]; done)), H', ⟨by have := HK1.out; have := HK2.out; omega⟩, ⟨by (try simp only [hl5_2]); (with_reducible repeat (first | apply Kd.S_alloc | apply Kd.S_drewN | apply Kd.S_drew)); exact HO_5.out⟩, ⟨by repeat (first | (with_reducible first | exact HB.out | apply below_alloc | apply pw_below_drewN | apply below_drew1) | exact HB.out)⟩⟩
                                       rw [if_neg c49] at H
                                       exact absurd H (by simp)
                                     rw [if_neg c37] at H
                                     exact absurd H (by simp)
                                   rw [if_neg c36] at H
                                   exact absurd H (by simp)
                                 rw [if_neg c35] at H
                                 have c35b0 : decide ((rd (rd_L4 x5_2 (ji25)) x7_2) < (rd (rd_L4 x5_2 x6_1) (ji32))) = false := decide_eq_false c35
                                 clear c35
                                 by_cases c53 : x7_2 < (l0.length : Int)
                                 · rw [if_pos c53] at H
                                   have c53b0 : decide (x7_2 < (l0.length : Int)) = true := decide_eq_true c53
                                   (try (have c53b0h := c53b0; simp only [hl5_2] at c53b0h))
                                   clear c53
                                   by_cases c54 : x6_1 < (l1.length : Int)
                                   · rw [if_pos c54] at H
                                     have c54b0 : decide (x6_1 < (l1.length : Int)) = true := decide_eq_true c54
                                     (try (have c54b0h := c54b0; simp only [hl5_2] at c54b0h))
                                     clear c54
                                     by_cases c55 : (rdOf ByteArray.empty l0 x7_2).toList = (rdOf ByteArray.empty l1 x6_1).toList
                                     · rw [if_pos c55] at H
                                       have c55b0 : ((rdOf ByteArray.empty l0 x7_2).toList == (rdOf ByteArray.empty l1 x6_1).toList) = true := beq_iff_eq.mpr c55
                                       have c55b1 : ((rdOf ByteArray.empty l0 x7_2).toList != (rdOf ByteArray.empty l1 x6_1).toList) = false := bne_eq_false_iff_eq.mpr c55
                                       clear c55
                                       by_cases c56 : (ji32) < ((rd_L4 x5_2 (ji25)).length : Int)
                                       · rw [if_pos c56] at H
                                         have c56b0 : decide ((ji32) < ((rd_L4 x5_2 (ji25)).length : Int)) = true := decide_eq_true c56
                                         (try (have c56b0h := c56b0; simp only [hl5_2] at c56b0h))
                                         clear c56
                                         by_cases c57 : (wrap64 ((rd (rd_L4 x5_2 (ji25)) (ji32)) + 1)) > (rd (rd_L4 x5_2 (ji25)) x7_2)
                                         · rw [if_pos c57] at H
                                           have c57b0 : decide ((rd (rd_L4 x5_2 (ji25)) x7_2) < (wrap64 ((rd (rd_L4 x5_2 (ji25)) (ji32)) + 1))) = true := decide_eq_true c57
                                           clear c57
                                           by_cases c58 : x7_2 < ((rd_L4 x5_2 x6_1).length : Int)
                                           · rw [if_pos c58] at H
                                             have c58b0 : decide (x7_2 < ((rd_L4 x5_2 x6_1).length : Int)) = true := decide_eq_true c58
                                             (try (have c58b0h := c58b0; simp only [hl5_2] at c58b0h))
                                             clear c58
                                             obtain ⟨y265, hy265⟩ : ∃ y_ : List Int, y_ = ((rd_L4 x5_2 x6_1).set (x7_2 : Int).toNat (wrap64 ((rd (rd_L4 x5_2 (ji25)) (ji32)) + 1))) := ⟨_, rfl⟩
                                             replace H : (changeforgeref1_suffixes.l1 k2 l0 l1 (x5_2.set (x6_1 : Int).toNat y265) x6_1 (wrap64 (x7_2 - 1))) = some r := by first | (rw [hy265]; with_reducible exact H) | (have H2_ := (Option.bind_some _ _).symm.trans H; rw [hy265]; with_reducible exact H2_) | (have H2_ := (Option.bind_some _ _).symm.trans H; with_reducible exact H2_) | with_reducible exact H | (rw [hy265]; exact H) | exact H
                                             have Ny265 := Aside0.mk hy265
                                             clear hy265
                                             obtain ⟨y267, hy267⟩ : ∃ y_ : List (List Int), y_ = (x5_2.set (x6_1 : Int).toNat y265) := ⟨_, rfl⟩
                                             replace H : (changeforgeref1_suffixes.l1 k2 l0 l1 y267 x6_1 (wrap64 (x7_2 - 1))) = some r := by first | (rw [hy267]; with_reducible exact H) | (have H2_ := (Option.bind_some _ _).symm.trans H; rw [hy267]; with_reducible exact H2_) | (have H2_ := (Option.bind_some _ _).symm.trans H; with_reducible exact H2_) | with_reducible exact H | (rw [hy267]; exact H) | exact H
                                             have Ny267 := Aside0.mk hy267
                                             clear hy267
                                             have H' := Aside0.mk H
                                             clear H
                                             have p234 : 0 ≤ ((ji25) : Int) := of_decide_eq_true (by first | (with_reducible assumption) | assumption)
                                             have q234 : (ji25) < (x5_2.length : Int) := of_decide_eq_true (by first | (with_reducible assumption) | assumption)
                                             obtain ⟨ad234, A234_0, c234_0, e234, hx234_0, hl234_0, hi234_0⟩ := at_L4 (Kd.S_reads' HO_5.out).2.2 (ji25) p234 q234
                                             obtain rfl : (⟨go14, 0, none⟩ : Addr) = ad234 := (by injection e234)
                                             obtain ⟨ce234, hce234, hMe234, hcc234⟩ := Kd.S_get HO_5.out [] (ji25) p234 (by first | exact q234 | exact of_decide_eq_true (by first | (with_reducible assumption) | assumption) | (have e_ := (Kd.S_reads' HO_5.out).1; omega))
                                             obtain ⟨ve234_0, rfl, ge234_0⟩ := hMe234
                                             have hv234_0 := hcc234 0 _ rfl
                                             rw [Nat.add_zero, show ((Kd.slice 3 (Kd.int .i64))).sz = 1 from rfl, Nat.mul_one] at hv234_0
                                             replace hv234_0 := Option.some.inj (hv234_0.symm.trans hx234_0)
                                             rw [hv234_0] at ge234_0
                                             have HL234_0 := Aside0.mk (show Kd.R (Kd.int .i64) 3 _ _ _ _ (rd_L4 x5_2 (ji25)) from ge234_0)
                                             clear hv234_0 ge234_0
                                             have HX234_0 := Aside0.mk hx234_0
                                             clear hcc234 hce234
                                             (first | simp only [add_plain] at hx234_0 | simp only [add_at] at hx234_0 | simp only [Addr.add, Nat.zero_add] at hx234_0 | skip)
                                             have HR234_0 := Aside0.mk hi234_0
                                             have HC234_0 := Aside0.mk hl234_0
                                             clear hi234_0 hl234_0
                                             replace p234 := eq_true p234
                                             replace q234 := eq_true q234
                                             have p235 : 0 ≤ (x7_2 : Int) := of_decide_eq_true (by first | (with_reducible assumption) | assumption)
                                             have q235 : x7_2 < ((rd_L4 x5_2 (ji25)).length : Int) := of_decide_eq_true (by first | (with_reducible assumption) | assumption)
                                             obtain ⟨ad235, e235, hx235_0⟩ := Kd.at_int (by repeat (first | (with_reducible exact HR234_0.out) | (with_reducible refine Kd.C_alloc ?_ _) | (with_reducible refine Kd.C_drewN ?_ _) | (with_reducible refine Kd.C_drew ?_) | exact HR234_0.out)) x7_2 p235 q235
                                             cases e235
                                             replace p235 := eq_true p235
                                             replace q235 := eq_true q235
                                             have p236 : 0 ≤ (x6_1 : Int) := of_decide_eq_true (by first | (with_reducible assumption) | assumption)
                                             have q236 : x6_1 < (x5_2.length : Int) := of_decide_eq_true (by first | (with_reducible assumption) | assumption)
                                             obtain ⟨ad236, A236_0, c236_0, e236, hx236_0, hl236_0, hi236_0⟩ := at_L4 (Kd.S_reads' HO_5.out).2.2 x6_1 p236 q236
                                             obtain rfl : (⟨go14, 0, none⟩ : Addr) = ad236 := (by injection e236)
                                             obtain ⟨ce236, hce236, hMe236, hcc236⟩ := Kd.S_get HO_5.out [] x6_1 p236 (by first | exact q236 | exact of_decide_eq_true (by first | (with_reducible assumption) | assumption) | (have e_ := (Kd.S_reads' HO_5.out).1; omega))
                                             obtain ⟨ve236_0, rfl, ge236_0⟩ := hMe236
                                             have hv236_0 := hcc236 0 _ rfl
                                             rw [Nat.add_zero, show ((Kd.slice 3 (Kd.int .i64))).sz = 1 from rfl, Nat.mul_one] at hv236_0
                                             replace hv236_0 := Option.some.inj (hv236_0.symm.trans hx236_0)
                                             rw [hv236_0] at ge236_0
                                             have HL236_0 := Aside0.mk (show Kd.R (Kd.int .i64) 3 _ _ _ _ (rd_L4 x5_2 x6_1) from ge236_0)
                                             clear hv236_0 ge236_0
                                             have HX236_0 := Aside0.mk hx236_0
                                             clear hcc236 hce236
                                             (first | simp only [add_plain] at hx236_0 | simp only [add_at] at hx236_0 | simp only [Addr.add, Nat.zero_add] at hx236_0 | skip)
                                             have HR236_0 := Aside0.mk hi236_0
                                             have HC236_0 := Aside0.mk hl236_0
                                             clear hi236_0 hl236_0
                                             replace p236 := eq_true p236
                                             replace q236 := eq_true q236
                                             have p237 : 0 ≤ ((ji32) : Int) := of_decide_eq_true (by first | (with_reducible assumption) | assumption)
                                             have q237 : (ji32) < ((rd_L4 x5_2 x6_1).length : Int) := of_decide_eq_true (by first | (with_reducible assumption) | assumption)
                                             obtain ⟨ad237, e237, hx237_0⟩ := Kd.at_int (by repeat (first | (with_reducible exact HR236_0.out) | (with_reducible refine Kd.C_alloc ?_ _) | (with_reducible refine Kd.C_drewN ?_ _) | (with_reducible refine Kd.C_drew ?_) | exact HR236_0.out)) (ji32) p237 q237
                                             cases e237
                                             replace p237 := eq_true p237
                                             replace q237 := eq_true q237
                                             have p258 : 0 ≤ (x7_2 : Int) := of_decide_eq_true (by first | (with_reducible assumption) | assumption)
                                             have q258 : x7_2 < (l0.length : Int) := of_decide_eq_true (by first | (with_reducible assumption) | assumption)
                                             obtain ⟨ad258, e258, hx258_0⟩ := Kd.at_string HR0.out x7_2 p258 q258
                                             cases e258
                                             replace hx258_0 := (HB.out.cell (World.block_lt_of_cell? w _ hx258_0)).trans hx258_0
                                             replace p258 := eq_true p258
                                             replace q258 := eq_true q258
                                             have p259 : 0 ≤ (x6_1 : Int) := of_decide_eq_true (by first | (with_reducible assumption) | assumption)
                                             have q259 : x6_1 < (l1.length : Int) := of_decide_eq_true (by first | (with_reducible assumption) | assumption)
                                             obtain ⟨ad259, e259, hx259_0⟩ := Kd.at_string HR1.out x6_1 p259 q259
                                             cases e259
                                             replace hx259_0 := (HB.out.cell (World.block_lt_of_cell? w _ hx259_0)).trans hx259_0
                                             replace p259 := eq_true p259
                                             replace q259 := eq_true q259
                                             have p260 : 0 ≤ ((ji25) : Int) := of_decide_eq_true (by first | (with_reducible assumption) | assumption)
                                             have q260 : (ji25) < (x5_2.length : Int) := of_decide_eq_true (by first | (with_reducible assumption) | assumption)
                                             obtain ⟨ad260, A260_0, c260_0, e260, hx260_0, hl260_0, hi260_0⟩ := at_L4 (Kd.S_reads' HO_5.out).2.2 (ji25) p260 q260
                                             obtain rfl : (⟨go14, 0, none⟩ : Addr) = ad260 := (by injection e260)
                                             obtain ⟨ce260, hce260, hMe260, hcc260⟩ := Kd.S_get HO_5.out [] (ji25) p260 (by first | exact q260 | exact of_decide_eq_true (by first | (with_reducible assumption) | assumption) | (have e_ := (Kd.S_reads' HO_5.out).1; omega))
                                             obtain ⟨ve260_0, rfl, ge260_0⟩ := hMe260
                                             have hv260_0 := hcc260 0 _ rfl
                                             rw [Nat.add_zero, show ((Kd.slice 3 (Kd.int .i64))).sz = 1 from rfl, Nat.mul_one] at hv260_0
                                             replace hv260_0 := Option.some.inj (hv260_0.symm.trans hx260_0)
                                             rw [hv260_0] at ge260_0
                                             have HL260_0 := Aside0.mk (show Kd.R (Kd.int .i64) 3 _ _ _ _ (rd_L4 x5_2 (ji25)) from ge260_0)
                                             clear hv260_0 ge260_0
                                             have HX260_0 := Aside0.mk hx260_0
                                             clear hcc260 hce260
                                             (first | simp only [add_plain] at hx260_0 | simp only [add_at] at hx260_0 | simp only [Addr.add, Nat.zero_add] at hx260_0 | skip)
                                             have HR260_0 := Aside0.mk hi260_0
                                             have HC260_0 := Aside0.mk hl260_0
                                             clear hi260_0 hl260_0
                                             replace p260 := eq_true p260
                                             replace q260 := eq_true q260
                                             have ea_ := Option.some.inj (hx234_0.symm.trans hx260_0)
                                             injection ea_ with ea_ en_ ec_
                                             subst ea_
                                             subst ec_
                                             clear en_
                                             have p261 : 0 ≤ ((ji32) : Int) := of_decide_eq_true (by first | (with_reducible assumption) | assumption)
                                             have q261 : (ji32) < ((rd_L4 x5_2 (ji25)).length : Int) := of_decide_eq_true (by first | (with_reducible assumption) | assumption)
                                             obtain ⟨ad261, e261, hx261_0⟩ := Kd.at_int (by repeat (first | (with_reducible exact HR260_0.out) | (with_reducible refine Kd.C_alloc ?_ _) | (with_reducible refine Kd.C_drewN ?_ _) | (with_reducible refine Kd.C_drew ?_) | exact HR260_0.out)) (ji32) p261 q261
                                             cases e261
                                             replace p261 := eq_true p261
                                             replace q261 := eq_true q261
                                             have p262 : 0 ≤ ((ji25) : Int) := of_decide_eq_true (by first | (with_reducible assumption) | assumption)
                                             have q262 : (ji25) < (x5_2.length : Int) := of_decide_eq_true (by first | (with_reducible assumption) | assumption)
                                             obtain ⟨ad262, A262_0, c262_0, e262, hx262_0, hl262_0, hi262_0⟩ := at_L4 (Kd.S_reads' HO_5.out).2.2 (ji25) p262 q262
                                             obtain rfl : (⟨go14, 0, none⟩ : Addr) = ad262 := (by injection e262)
                                             obtain ⟨ce262, hce262, hMe262, hcc262⟩ := Kd.S_get HO_5.out [] (ji25) p262 (by first | exact q262 | exact of_decide_eq_true (by first | (with_reducible assumption) | assumption) | (have e_ := (Kd.S_reads' HO_5.out).1; omega))
                                             obtain ⟨ve262_0, rfl, ge262_0⟩ := hMe262
                                             have hv262_0 := hcc262 0 _ rfl
                                             rw [Nat.add_zero, show ((Kd.slice 3 (Kd.int .i64))).sz = 1 from rfl, Nat.mul_one] at hv262_0
                                             replace hv262_0 := Option.some.inj (hv262_0.symm.trans hx262_0)
                                             rw [hv262_0] at ge262_0
                                             have HL262_0 := Aside0.mk (show Kd.R (Kd.int .i64) 3 _ _ _ _ (rd_L4 x5_2 (ji25)) from ge262_0)
                                             clear hv262_0 ge262_0
                                             have HX262_0 := Aside0.mk hx262_0
                                             clear hcc262 hce262
                                             (first | simp only [add_plain] at hx262_0 | simp only [add_at] at hx262_0 | simp only [Addr.add, Nat.zero_add] at hx262_0 | skip)
                                             have HR262_0 := Aside0.mk hi262_0
                                             have HC262_0 := Aside0.mk hl262_0
                                             clear hi262_0 hl262_0
                                             replace p262 := eq_true p262
                                             replace q262 := eq_true q262
                                             have ea_ := Option.some.inj (hx234_0.symm.trans hx262_0)
                                             injection ea_ with ea_ en_ ec_
                                             subst ea_
                                             subst ec_
                                             clear en_
                                             have p263 : 0 ≤ ((ji32) : Int) := of_decide_eq_true (by first | (with_reducible assumption) | assumption)
                                             have q263 : (ji32) < ((rd_L4 x5_2 (ji25)).length : Int) := of_decide_eq_true (by first | (with_reducible assumption) | assumption)
                                             obtain ⟨ad263, e263, hx263_0⟩ := Kd.at_int (by repeat (first | (with_reducible exact HR262_0.out) | (with_reducible refine Kd.C_alloc ?_ _) | (with_reducible refine Kd.C_drewN ?_ _) | (with_reducible refine Kd.C_drew ?_) | exact HR262_0.out)) (ji32) p263 q263
                                             cases e263
                                             replace p263 := eq_true p263
                                             replace q263 := eq_true q263
                                             have p264 : 0 ≤ (x6_1 : Int) := of_decide_eq_true (by first | (with_reducible assumption) | assumption)
                                             have q264 : x6_1 < (x5_2.length : Int) := of_decide_eq_true (by first | (with_reducible assumption) | assumption)
                                             obtain ⟨ad264, A264_0, c264_0, e264, hx264_0, hl264_0, hi264_0⟩ := at_L4 (Kd.S_reads' HO_5.out).2.2 x6_1 p264 q264
                                             obtain rfl : (⟨go14, 0, none⟩ : Addr) = ad264 := (by injection e264)
                                             obtain ⟨ce264, hce264, hMe264, hcc264⟩ := Kd.S_get HO_5.out [] x6_1 p264 (by first | exact q264 | exact of_decide_eq_true (by first | (with_reducible assumption) | assumption) | (have e_ := (Kd.S_reads' HO_5.out).1; omega))
                                             obtain ⟨ve264_0, rfl, ge264_0⟩ := hMe264
                                             have hv264_0 := hcc264 0 _ rfl
                                             rw [Nat.add_zero, show ((Kd.slice 3 (Kd.int .i64))).sz = 1 from rfl, Nat.mul_one] at hv264_0
                                             replace hv264_0 := Option.some.inj (hv264_0.symm.trans hx264_0)
                                             rw [hv264_0] at ge264_0
                                             have HL264_0 := Aside0.mk (show Kd.R (Kd.int .i64) 3 _ _ _ _ (rd_L4 x5_2 x6_1) from ge264_0)
                                             clear hv264_0 ge264_0
                                             have HX264_0 := Aside0.mk hx264_0
                                             clear hcc264 hce264
                                             (first | simp only [add_plain] at hx264_0 | simp only [add_at] at hx264_0 | simp only [Addr.add, Nat.zero_add] at hx264_0 | skip)
                                             have HR264_0 := Aside0.mk hi264_0
                                             have HC264_0 := Aside0.mk hl264_0
                                             clear hi264_0 hl264_0
                                             replace p264 := eq_true p264
                                             replace q264 := eq_true q264
                                             have ea_ := Option.some.inj (hx236_0.symm.trans hx264_0)
                                             injection ea_ with ea_ en_ ec_
                                             subst ea_
                                             subst ec_
                                             clear en_
                                             have p59 : 0 ≤ (x7_2 : Int) := of_decide_eq_true (by first | (with_reducible assumption) | assumption)
                                             have q59 : (x7_2 : Int) < (((rd_L4 x5_2 x6_1).length : Int) : Int) := of_decide_eq_true (by first | (with_reducible assumption) | assumption)
                                             obtain ⟨go59, co59, eo59, gb59, gl59, cl59, HG59⟩ := Kd.R_form HL264_0.out (by omega)
                                             (first | cases eo59 | (injection eo59 with ea_ en_ ec_; (first | subst ea_ | (injection ea_ with ea_; subst ea_)); subst ec_; clear en_))
                                             have GB59 := Aside0.mk gb59
                                             have GG59 := Aside0.mk HG59
                                             clear gb59 gl59 HG59
                                             (first | simp only [add_plain] at hx237_0 | skip)
                                             obtain ⟨hx59_0, hf59_0⟩ := Kd.R_celln 0 HL264_0.out (x7_2 : Int) p59 q59
                                             replace p59 := eq_true p59
                                             replace q59 := eq_true q59
                                             have hq60 : (x6_1 : Int) < (x5_2.length : Int) := (by have h_ : (x6_1 : Int) < ((x5_2.length : Int) : Int) := of_decide_eq_true (by first | (with_reducible assumption) | assumption); first | exact h_ | (have e_ := (Kd.S_reads' HO_5.out).1; omega) | simpa only [List.length_set, List.length_set] using h_)
                                             obtain ⟨oki60, ce60, hcl60, hM60, hcc60, hok60, hbk60⟩ := Kd.S_borrow HO_5.out [] (x6_1 : Int) (of_decide_eq_true (by first | (with_reducible assumption) | assumption)) hq60
                                             obtain ⟨ve60_0, rfl, ge60_0⟩ := hM60
                                             have hv60 := hcc60 0 _ rfl
                                             rw [Nat.add_zero, show ((Kd.slice 3 (Kd.int .i64))).sz = 1 from rfl, Nat.mul_one] at hv60
                                             replace hv60 := Option.some.inj (hv60.symm.trans HX264_0.out)
                                             subst hv60
                                             clear hcc60 hcl60
                                             replace ge60_0 := (show Kd.R (Kd.int .i64) 3 _ _ _ _ (rd_L4 x5_2 x6_1) from ge60_0)
                                             have HP60 := Kd.R_putg ge60_0 (x7_2 : Int) (wrap64 ((rd (rd_L4 x5_2 (ji25)) (ji32)) + 1))
                                             go_wp2_with (first | ((with_reducible refine gate_store (t := 3) (p := 102) rfl ?_); (try (rw [drewN_self wr]; generalize hq_ : World.drewN wr _ = wr; have n0_ := Aside0.mk (Kd.S_at hq_ HO_5.out); have n1_ := Aside0.mk (Kd.R_at hq_ HL234_0.out); have n2_ := Aside0.mk (Kd.R_at hq_ HL236_0.out); have n3_ := Aside0.mk (Kd.R_at hq_ HL260_0.out); have n4_ := Aside0.mk (Kd.R_at hq_ HL262_0.out); have n5_ := Aside0.mk (Kd.R_at hq_ HL264_0.out); have n6_ := Aside0.mk (Kd.C_at hq_ HR234_0.out); have n7_ := Aside0.mk (Kd.C_at hq_ HR236_0.out); have n8_ := Aside0.mk (Kd.C_at hq_ HR260_0.out); have n9_ := Aside0.mk (Kd.C_at hq_ HR262_0.out); have n10_ := Aside0.mk (Kd.C_at hq_ HR264_0.out); have n11_ := Aside0.mk (cell_at hq_ HX234_0.out); have n12_ := Aside0.mk (cell_at hq_ HX236_0.out); have n13_ := Aside0.mk (cell_at hq_ HX260_0.out); have n14_ := Aside0.mk (cell_at hq_ HX262_0.out); have n15_ := Aside0.mk (cell_at hq_ HX264_0.out); have n16_ := Aside0.mk (below_at hq_ HB.out); clear hq_ HO_5 HL234_0 HL236_0 HL260_0 HL262_0 HL264_0 HR234_0 HR236_0 HR260_0 HR262_0 HR264_0 HX234_0 HX236_0 HX260_0 HX262_0 HX264_0 HB; have HO_5 := n0_; have HL234_0 := n1_; have HL236_0 := n2_; have HL260_0 := n3_; have HL262_0 := n4_; have HL264_0 := n5_; have HR234_0 := n6_; have HR236_0 := n7_; have HR260_0 := n8_; have HR262_0 := n9_; have HR264_0 := n10_; have HX234_0 := n11_; have HX236_0 := n12_; have HX260_0 := n13_; have HX262_0 := n14_; have HX264_0 := n15_; have HB := n16_; clear n0_ n1_ n2_ n3_ n4_ n5_ n6_ n7_ n8_ n9_ n10_ n11_ n12_ n13_ n14_ n15_ n16_; (try (have p59 : 0 ≤ (x7_2 : Int) := of_decide_eq_true (by first | (with_reducible assumption) | assumption))); (try (have q59 : (x7_2 : Int) < (((rd_L4 x5_2 x6_1).length : Int) : Int) := of_decide_eq_true (by first | (with_reducible assumption) | assumption))); (try (obtain ⟨go59, co59, eo59, gb59, gl59, cl59, HG59⟩ := Kd.R_form HL264_0.out (by omega))); (try (first | cases eo59 | (injection eo59 with ea_ en_ ec_; (first | subst ea_ | (injection ea_ with ea_; subst ea_)); subst ec_; clear en_))); (try (have GB59 := Aside0.mk gb59)); (try (have GG59 := Aside0.mk HG59)); (try (clear gb59 gl59 HG59)); (try (first | simp only [add_plain] at hx237_0 | skip)); (try (obtain ⟨hx59_0, hf59_0⟩ := Kd.R_celln 0 HL264_0.out (x7_2 : Int) p59 q59)); (try (replace p59 := eq_true p59)); (try (replace q59 := eq_true q59)); (try (have hq60 : (x6_1 : Int) < (x5_2.length : Int) := (by have h_ : (x6_1 : Int) < ((x5_2.length : Int) : Int) := of_decide_eq_true (by first | (with_reducible assumption) | assumption); first | exact h_ | (have e_ := (Kd.S_reads' HO_5.out).1; omega) | simpa only [List.length_set, List.length_set] using h_))); (try (obtain ⟨oki60, ce60, hcl60, hM60, hcc60, hok60, hbk60⟩ := Kd.S_borrow HO_5.out [] (x6_1 : Int) (of_decide_eq_true (by first | (with_reducible assumption) | assumption)) hq60)); (try (obtain ⟨ve60_0, rfl, ge60_0⟩ := hM60)); (try (have hv60 := hcc60 0 _ rfl)); (try (rw [Nat.add_zero, show ((Kd.slice 3 (Kd.int .i64))).sz = 1 from rfl, Nat.mul_one] at hv60)); (try (replace hv60 := Option.some.inj (hv60.symm.trans HX264_0.out))); (try (subst hv60)); (try (clear hcc60 hcl60)); (try (replace ge60_0 := (show Kd.R (Kd.int .i64) 3 _ _ _ _ (rd_L4 x5_2 x6_1) from ge60_0))); (try (have HP60 := Kd.R_putg ge60_0 (x7_2 : Int) (wrap64 ((rd (rd_L4 x5_2 (ji25)) (ji32)) + 1)))))); refine store_event (t := 3) (p := 102) (v := ?vo_w61) (w1 := (wr.setCell ⟨go59, (x7_2 : Int).toNat, none⟩ (.int .i64 (wrap64 ((rd (rd_L4 x5_2 (ji25)) (ji32)) + 1))))) ?hg ?ho ?hn ?hr ?_; (case ho => rfl); (case hg => rfl); (case hn => rfl); (case hr => first | (go_simp; done) | (go_simp; rfl)); intro w61 hw; have hg : wr.grownBy w61 (some go59) := (by rw [hw]; exact HP60.2); have hz_ : Kd.R (Kd.int .i64) 3 w61 w.heap.size oki60 (.slice (some ⟨go59, 0, none⟩) (rd_L4 x5_2 x6_1).length c236_0) y265 := (by rw [hw, Ny265.out]; exact HP60.1); have hp_ : Kd.S (Kd.slice 3 (Kd.int .i64)) 23 w61 w.heap.size (fun _ => True) (.slice (some ⟨go14, 0, none⟩) x5_2.length co14) y267 := (by rw [Ny267.out]; exact hbk60 hg (fun k_ e_ => by injection e_ with e_; subst e_; exact ge60_0.1 _ rfl) (Kd.M_row hz_)); have hm_ := Kd.R_mono hz_ hok60; clear HP60 hbk60; have n0_ := Aside0.mk (hp_); have n1_ := Aside0.mk ((by rw [hw]; exact below_set (HB.out) GB59.out : Below w.heap.size w w61)); have n2_ := Aside0.mk (hm_); have n3_ := Aside0.mk ((Kd.R_reads' hm_).2.1); clear HO_5; clear HB; clear HL234_0; clear HL236_0; clear HL260_0; clear HL262_0; clear HL264_0; have HO_5 := n0_; have HB := n1_; have HL279 := n2_; have HC266 := n3_; clear n0_ n1_ n2_ n3_; clear hg hw hp_ hz_ hm_ hok60))
                                             repeat (go_quiet (first | ((with_reducible refine gate_store (t := 3) (p := 102) rfl ?_); (try (rw [drewN_self wr]; generalize hq_ : World.drewN wr _ = wr; have n0_ := Aside0.mk (Kd.S_at hq_ HO_5.out); have n1_ := Aside0.mk (Kd.R_at hq_ HL234_0.out); have n2_ := Aside0.mk (Kd.R_at hq_ HL236_0.out); have n3_ := Aside0.mk (Kd.R_at hq_ HL260_0.out); have n4_ := Aside0.mk (Kd.R_at hq_ HL262_0.out); have n5_ := Aside0.mk (Kd.R_at hq_ HL264_0.out); have n6_ := Aside0.mk (Kd.C_at hq_ HR234_0.out); have n7_ := Aside0.mk (Kd.C_at hq_ HR236_0.out); have n8_ := Aside0.mk (Kd.C_at hq_ HR260_0.out); have n9_ := Aside0.mk (Kd.C_at hq_ HR262_0.out); have n10_ := Aside0.mk (Kd.C_at hq_ HR264_0.out); have n11_ := Aside0.mk (cell_at hq_ HX234_0.out); have n12_ := Aside0.mk (cell_at hq_ HX236_0.out); have n13_ := Aside0.mk (cell_at hq_ HX260_0.out); have n14_ := Aside0.mk (cell_at hq_ HX262_0.out); have n15_ := Aside0.mk (cell_at hq_ HX264_0.out); have n16_ := Aside0.mk (below_at hq_ HB.out); clear hq_ HO_5 HL234_0 HL236_0 HL260_0 HL262_0 HL264_0 HR234_0 HR236_0 HR260_0 HR262_0 HR264_0 HX234_0 HX236_0 HX260_0 HX262_0 HX264_0 HB; have HO_5 := n0_; have HL234_0 := n1_; have HL236_0 := n2_; have HL260_0 := n3_; have HL262_0 := n4_; have HL264_0 := n5_; have HR234_0 := n6_; have HR236_0 := n7_; have HR260_0 := n8_; have HR262_0 := n9_; have HR264_0 := n10_; have HX234_0 := n11_; have HX236_0 := n12_; have HX260_0 := n13_; have HX262_0 := n14_; have HX264_0 := n15_; have HB := n16_; clear n0_ n1_ n2_ n3_ n4_ n5_ n6_ n7_ n8_ n9_ n10_ n11_ n12_ n13_ n14_ n15_ n16_; (try (have p59 : 0 ≤ (x7_2 : Int) := of_decide_eq_true (by first | (with_reducible assumption) | assumption))); (try (have q59 : (x7_2 : Int) < (((rd_L4 x5_2 x6_1).length : Int) : Int) := of_decide_eq_true (by first | (with_reducible assumption) | assumption))); (try (obtain ⟨go59, co59, eo59, gb59, gl59, cl59, HG59⟩ := Kd.R_form HL264_0.out (by omega))); (try (first | cases eo59 | (injection eo59 with ea_ en_ ec_; (first | subst ea_ | (injection ea_ with ea_; subst ea_)); subst ec_; clear en_))); (try (have GB59 := Aside0.mk gb59)); (try (have GG59 := Aside0.mk HG59)); (try (clear gb59 gl59 HG59)); (try (first | simp only [add_plain] at hx237_0 | skip)); (try (obtain ⟨hx59_0, hf59_0⟩ := Kd.R_celln 0 HL264_0.out (x7_2 : Int) p59 q59)); (try (replace p59 := eq_true p59)); (try (replace q59 := eq_true q59)); (try (have hq60 : (x6_1 : Int) < (x5_2.length : Int) := (by have h_ : (x6_1 : Int) < ((x5_2.length : Int) : Int) := of_decide_eq_true (by first | (with_reducible assumption) | assumption); first | exact h_ | (have e_ := (Kd.S_reads' HO_5.out).1; omega) | simpa only [List.length_set, List.length_set] using h_))); (try (obtain ⟨oki60, ce60, hcl60, hM60, hcc60, hok60, hbk60⟩ := Kd.S_borrow HO_5.out [] (x6_1 : Int) (of_decide_eq_true (by first | (with_reducible assumption) | assumption)) hq60)); (try (obtain ⟨ve60_0, rfl, ge60_0⟩ := hM60)); (try (have hv60 := hcc60 0 _ rfl)); (try (rw [Nat.add_zero, show ((Kd.slice 3 (Kd.int .i64))).sz = 1 from rfl, Nat.mul_one] at hv60)); (try (replace hv60 := Option.some.inj (hv60.symm.trans HX264_0.out))); (try (subst hv60)); (try (clear hcc60 hcl60)); (try (replace ge60_0 := (show Kd.R (Kd.int .i64) 3 _ _ _ _ (rd_L4 x5_2 x6_1) from ge60_0))); (try (have HP60 := Kd.R_putg ge60_0 (x7_2 : Int) (wrap64 ((rd (rd_L4 x5_2 (ji25)) (ji32)) + 1)))))); refine store_event (t := 3) (p := 102) (v := ?vo_w61) (w1 := (wr.setCell ⟨go59, (x7_2 : Int).toNat, none⟩ (.int .i64 (wrap64 ((rd (rd_L4 x5_2 (ji25)) (ji32)) + 1))))) ?hg ?ho ?hn ?hr ?_; (case ho => rfl); (case hg => rfl); (case hn => rfl); (case hr => first | (go_simp; done) | (go_simp; rfl)); intro w61 hw; have hg : wr.grownBy w61 (some go59) := (by rw [hw]; exact HP60.2); have hz_ : Kd.R (Kd.int .i64) 3 w61 w.heap.size oki60 (.slice (some ⟨go59, 0, none⟩) (rd_L4 x5_2 x6_1).length c236_0) y265 := (by rw [hw, Ny265.out]; exact HP60.1); have hp_ : Kd.S (Kd.slice 3 (Kd.int .i64)) 23 w61 w.heap.size (fun _ => True) (.slice (some ⟨go14, 0, none⟩) x5_2.length co14) y267 := (by rw [Ny267.out]; exact hbk60 hg (fun k_ e_ => by injection e_ with e_; subst e_; exact ge60_0.1 _ rfl) (Kd.M_row hz_)); have hm_ := Kd.R_mono hz_ hok60; clear HP60 hbk60; have n0_ := Aside0.mk (hp_); have n1_ := Aside0.mk ((by rw [hw]; exact below_set (HB.out) GB59.out : Below w.heap.size w w61)); have n2_ := Aside0.mk (hm_); have n3_ := Aside0.mk ((Kd.R_reads' hm_).2.1); clear HO_5; clear HB; clear HL234_0; clear HL236_0; clear HL260_0; clear HL262_0; clear HL264_0; have HO_5 := n0_; have HB := n1_; have HL279 := n2_; have HC266 := n3_; clear n0_ n1_ n2_ n3_; clear hg hw hp_ hz_ hm_ hok60)); try go_wp2_with (first | ((with_reducible refine gate_store (t := 3) (p := 102) rfl ?_); (try (rw [drewN_self wr]; generalize hq_ : World.drewN wr _ = wr; have n0_ := Aside0.mk (Kd.S_at hq_ HO_5.out); have n1_ := Aside0.mk (Kd.R_at hq_ HL234_0.out); have n2_ := Aside0.mk (Kd.R_at hq_ HL236_0.out); have n3_ := Aside0.mk (Kd.R_at hq_ HL260_0.out); have n4_ := Aside0.mk (Kd.R_at hq_ HL262_0.out); have n5_ := Aside0.mk (Kd.R_at hq_ HL264_0.out); have n6_ := Aside0.mk (Kd.C_at hq_ HR234_0.out); have n7_ := Aside0.mk (Kd.C_at hq_ HR236_0.out); have n8_ := Aside0.mk (Kd.C_at hq_ HR260_0.out); have n9_ := Aside0.mk (Kd.C_at hq_ HR262_0.out); have n10_ := Aside0.mk (Kd.C_at hq_ HR264_0.out); have n11_ := Aside0.mk (cell_at hq_ HX234_0.out); have n12_ := Aside0.mk (cell_at hq_ HX236_0.out); have n13_ := Aside0.mk (cell_at hq_ HX260_0.out); have n14_ := Aside0.mk (cell_at hq_ HX262_0.out); have n15_ := Aside0.mk (cell_at hq_ HX264_0.out); have n16_ := Aside0.mk (below_at hq_ HB.out); clear hq_ HO_5 HL234_0 HL236_0 HL260_0 HL262_0 HL264_0 HR234_0 HR236_0 HR260_0 HR262_0 HR264_0 HX234_0 HX236_0 HX260_0 HX262_0 HX264_0 HB; have HO_5 := n0_; have HL234_0 := n1_; have HL236_0 := n2_; have HL260_0 := n3_; have HL262_0 := n4_; have HL264_0 := n5_; have HR234_0 := n6_; have HR236_0 := n7_; have HR260_0 := n8_; have HR262_0 := n9_; have HR264_0 := n10_; have HX234_0 := n11_; have HX236_0 := n12_; have HX260_0 := n13_; have HX262_0 := n14_; have HX264_0 := n15_; have HB := n16_; clear n0_ n1_ n2_ n3_ n4_ n5_ n6_ n7_ n8_ n9_ n10_ n11_ n12_ n13_ n14_ n15_ n16_; (try (have p59 : 0 ≤ (x7_2 : Int) := of_decide_eq_true (by first | (with_reducible assumption) | assumption))); (try (have q59 : (x7_2 : Int) < (((rd_L4 x5_2 x6_1).length : Int) : Int) := of_decide_eq_true (by first | (with_reducible assumption) | assumption))); (try (obtain ⟨go59, co59, eo59, gb59, gl59, cl59, HG59⟩ := Kd.R_form HL264_0.out (by omega))); (try (first | cases eo59 | (injection eo59 with ea_ en_ ec_; (first | subst ea_ | (injection ea_ with ea_; subst ea_)); subst ec_; clear en_))); (try (have GB59 := Aside0.mk gb59)); (try (have GG59 := Aside0.mk HG59)); (try (clear gb59 gl59 HG59)); (try (first | simp only [add_plain] at hx237_0 | skip)); (try (obtain ⟨hx59_0, hf59_0⟩ := Kd.R_celln 0 HL264_0.out (x7_2 : Int) p59 q59)); (try (replace p59 := eq_true p59)); (try (replace q59 := eq_true q59)); (try (have hq60 : (x6_1 : Int) < (x5_2.length : Int) := (by have h_ : (x6_1 : Int) < ((x5_2.length : Int) : Int) := of_decide_eq_true (by first | (with_reducible assumption) | assumption); first | exact h_ | (have e_ := (Kd.S_reads' HO_5.out).1; omega) | simpa only [List.length_set, List.length_set] using h_))); (try (obtain ⟨oki60, ce60, hcl60, hM60, hcc60, hok60, hbk60⟩ := Kd.S_borrow HO_5.out [] (x6_1 : Int) (of_decide_eq_true (by first | (with_reducible assumption) | assumption)) hq60)); (try (obtain ⟨ve60_0, rfl, ge60_0⟩ := hM60)); (try (have hv60 := hcc60 0 _ rfl)); (try (rw [Nat.add_zero, show ((Kd.slice 3 (Kd.int .i64))).sz = 1 from rfl, Nat.mul_one] at hv60)); (try (replace hv60 := Option.some.inj (hv60.symm.trans HX264_0.out))); (try (subst hv60)); (try (clear hcc60 hcl60)); (try (replace ge60_0 := (show Kd.R (Kd.int .i64) 3 _ _ _ _ (rd_L4 x5_2 x6_1) from ge60_0))); (try (have HP60 := Kd.R_putg ge60_0 (x7_2 : Int) (wrap64 ((rd (rd_L4 x5_2 (ji25)) (ji32)) + 1)))))); refine store_event (t := 3) (p := 102) (v := ?vo_w61) (w1 := (wr.setCell ⟨go59, (x7_2 : Int).toNat, none⟩ (.int .i64 (wrap64 ((rd (rd_L4 x5_2 (ji25)) (ji32)) + 1))))) ?hg ?ho ?hn ?hr ?_; (case ho => rfl); (case hg => rfl); (case hn => rfl); (case hr => first | (go_simp; done) | (go_simp; rfl)); intro w61 hw; have hg : wr.grownBy w61 (some go59) := (by rw [hw]; exact HP60.2); have hz_ : Kd.R (Kd.int .i64) 3 w61 w.heap.size oki60 (.slice (some ⟨go59, 0, none⟩) (rd_L4 x5_2 x6_1).length c236_0) y265 := (by rw [hw, Ny265.out]; exact HP60.1); have hp_ : Kd.S (Kd.slice 3 (Kd.int .i64)) 23 w61 w.heap.size (fun _ => True) (.slice (some ⟨go14, 0, none⟩) x5_2.length co14) y267 := (by rw [Ny267.out]; exact hbk60 hg (fun k_ e_ => by injection e_ with e_; subst e_; exact ge60_0.1 _ rfl) (Kd.M_row hz_)); have hm_ := Kd.R_mono hz_ hok60; clear HP60 hbk60; have n0_ := Aside0.mk (hp_); have n1_ := Aside0.mk ((by rw [hw]; exact below_set (HB.out) GB59.out : Below w.heap.size w w61)); have n2_ := Aside0.mk (hm_); have n3_ := Aside0.mk ((Kd.R_reads' hm_).2.1); clear HO_5; clear HB; clear HL234_0; clear HL236_0; clear HL260_0; clear HL262_0; clear HL264_0; have HO_5 := n0_; have HB := n1_; have HL279 := n2_; have HC266 := n3_; clear n0_ n1_ n2_ n3_; clear hg hw hp_ hz_ hm_ hok60)))
                                             (try simp only [← hl5_2])
                                             go_roundg k2
                                             case measure => have := HK1.out; have := HK2.out; omega
                                             case rel => exact ⟨(y267), (wrap64 (x7_2 - 1)), (by first | rfl | (simp; done) | (simp [*]; done)), H', ⟨by have := HK1.out; have := HK2.out; omega⟩, ⟨by (try simp only [hl5_2]); (with_reducible repeat (first | apply Kd.S_alloc | apply Kd.S_drewN | apply Kd.S_drew)); exact HO_5.out⟩, ⟨by repeat (first | (with_reducible first | exact HB.out | apply below_alloc | apply pw_below_drewN | apply below_drew1) | exact HB.out)⟩⟩
                                           rw [if_neg c58] at H
                                           exact absurd H (by simp)
                                         rw [if_neg c57] at H
                                         have c57b0 : decide ((rd (rd_L4 x5_2 (ji25)) x7_2) < (wrap64 ((rd (rd_L4 x5_2 (ji25)) (ji32)) + 1))) = false := decide_eq_false c57
                                         clear c57
                                         by_cases c62 : x7_2 < ((rd_L4 x5_2 x6_1).length : Int)
                                         · rw [if_pos c62] at H
                                           have c62b0 : decide (x7_2 < ((rd_L4 x5_2 x6_1).length : Int)) = true := decide_eq_true c62
                                           (try (have c62b0h := c62b0; simp only [hl5_2] at c62b0h))
                                           clear c62
                                           obtain ⟨y269, hy269⟩ : ∃ y_ : List Int, y_ = ((rd_L4 x5_2 x6_1).set (x7_2 : Int).toNat (rd (rd_L4 x5_2 (ji25)) x7_2)) := ⟨_, rfl⟩
                                           replace H : (changeforgeref1_suffixes.l1 k2 l0 l1 (x5_2.set (x6_1 : Int).toNat y269) x6_1 (wrap64 (x7_2 - 1))) = some r := by first | (rw [hy269]; with_reducible exact H) | (have H2_ := (Option.bind_some _ _).symm.trans H; rw [hy269]; with_reducible exact H2_) | (have H2_ := (Option.bind_some _ _).symm.trans H; with_reducible exact H2_) | with_reducible exact H | (rw [hy269]; exact H) | exact H
                                           have Ny269 := Aside0.mk hy269
                                           clear hy269
                                           obtain ⟨y271, hy271⟩ : ∃ y_ : List (List Int), y_ = (x5_2.set (x6_1 : Int).toNat y269) := ⟨_, rfl⟩
                                           replace H : (changeforgeref1_suffixes.l1 k2 l0 l1 y271 x6_1 (wrap64 (x7_2 - 1))) = some r := by first | (rw [hy271]; with_reducible exact H) | (have H2_ := (Option.bind_some _ _).symm.trans H; rw [hy271]; with_reducible exact H2_) | (have H2_ := (Option.bind_some _ _).symm.trans H; with_reducible exact H2_) | with_reducible exact H | (rw [hy271]; exact H) | exact H
                                           have Ny271 := Aside0.mk hy271
                                           clear hy271
                                           have H' := Aside0.mk H
                                           clear H
                                           have p234 : 0 ≤ ((ji25) : Int) := of_decide_eq_true (by first | (with_reducible assumption) | assumption)
                                           have q234 : (ji25) < (x5_2.length : Int) := of_decide_eq_true (by first | (with_reducible assumption) | assumption)
                                           obtain ⟨ad234, A234_0, c234_0, e234, hx234_0, hl234_0, hi234_0⟩ := at_L4 (Kd.S_reads' HO_5.out).2.2 (ji25) p234 q234
                                           obtain rfl : (⟨go14, 0, none⟩ : Addr) = ad234 := (by injection e234)
                                           obtain ⟨ce234, hce234, hMe234, hcc234⟩ := Kd.S_get HO_5.out [] (ji25) p234 (by first | exact q234 | exact of_decide_eq_true (by first | (with_reducible assumption) | assumption) | (have e_ := (Kd.S_reads' HO_5.out).1; omega))
                                           obtain ⟨ve234_0, rfl, ge234_0⟩ := hMe234
                                           have hv234_0 := hcc234 0 _ rfl
                                           rw [Nat.add_zero, show ((Kd.slice 3 (Kd.int .i64))).sz = 1 from rfl, Nat.mul_one] at hv234_0
                                           replace hv234_0 := Option.some.inj (hv234_0.symm.trans hx234_0)
                                           rw [hv234_0] at ge234_0
                                           have HL234_0 := Aside0.mk (show Kd.R (Kd.int .i64) 3 _ _ _ _ (rd_L4 x5_2 (ji25)) from ge234_0)
                                           clear hv234_0 ge234_0
                                           have HX234_0 := Aside0.mk hx234_0
                                           clear hcc234 hce234
                                           (first | simp only [add_plain] at hx234_0 | simp only [add_at] at hx234_0 | simp only [Addr.add, Nat.zero_add] at hx234_0 | skip)
                                           have HR234_0 := Aside0.mk hi234_0
                                           have HC234_0 := Aside0.mk hl234_0
                                           clear hi234_0 hl234_0
                                           replace p234 := eq_true p234
                                           replace q234 := eq_true q234
                                           have p235 : 0 ≤ (x7_2 : Int) := of_decide_eq_true (by first | (with_reducible assumption) | assumption)
                                           have q235 : x7_2 < ((rd_L4 x5_2 (ji25)).length : Int) := of_decide_eq_true (by first | (with_reducible assumption) | assumption)
                                           obtain ⟨ad235, e235, hx235_0⟩ := Kd.at_int (by repeat (first | (with_reducible exact HR234_0.out) | (with_reducible refine Kd.C_alloc ?_ _) | (with_reducible refine Kd.C_drewN ?_ _) | (with_reducible refine Kd.C_drew ?_) | exact HR234_0.out)) x7_2 p235 q235
                                           cases e235
                                           replace p235 := eq_true p235
                                           replace q235 := eq_true q235
                                           have p236 : 0 ≤ (x6_1 : Int) := of_decide_eq_true (by first | (with_reducible assumption) | assumption)
                                           have q236 : x6_1 < (x5_2.length : Int) := of_decide_eq_true (by first | (with_reducible assumption) | assumption)
                                           obtain ⟨ad236, A236_0, c236_0, e236, hx236_0, hl236_0, hi236_0⟩ := at_L4 (Kd.S_reads' HO_5.out).2.2 x6_1 p236 q236
                                           obtain rfl : (⟨go14, 0, none⟩ : Addr) = ad236 := (by injection e236)
                                           obtain ⟨ce236, hce236, hMe236, hcc236⟩ := Kd.S_get HO_5.out [] x6_1 p236 (by first | exact q236 | exact of_decide_eq_true (by first | (with_reducible assumption) | assumption) | (have e_ := (Kd.S_reads' HO_5.out).1; omega))
                                           obtain ⟨ve236_0, rfl, ge236_0⟩ := hMe236
                                           have hv236_0 := hcc236 0 _ rfl
                                           rw [Nat.add_zero, show ((Kd.slice 3 (Kd.int .i64))).sz = 1 from rfl, Nat.mul_one] at hv236_0
                                           replace hv236_0 := Option.some.inj (hv236_0.symm.trans hx236_0)
                                           rw [hv236_0] at ge236_0
                                           have HL236_0 := Aside0.mk (show Kd.R (Kd.int .i64) 3 _ _ _ _ (rd_L4 x5_2 x6_1) from ge236_0)
                                           clear hv236_0 ge236_0
                                           have HX236_0 := Aside0.mk hx236_0
                                           clear hcc236 hce236
                                           (first | simp only [add_plain] at hx236_0 | simp only [add_at] at hx236_0 | simp only [Addr.add, Nat.zero_add] at hx236_0 | skip)
                                           have HR236_0 := Aside0.mk hi236_0
                                           have HC236_0 := Aside0.mk hl236_0
                                           clear hi236_0 hl236_0
                                           replace p236 := eq_true p236
                                           replace q236 := eq_true q236
                                           have p237 : 0 ≤ ((ji32) : Int) := of_decide_eq_true (by first | (with_reducible assumption) | assumption)
                                           have q237 : (ji32) < ((rd_L4 x5_2 x6_1).length : Int) := of_decide_eq_true (by first | (with_reducible assumption) | assumption)
                                           obtain ⟨ad237, e237, hx237_0⟩ := Kd.at_int (by repeat (first | (with_reducible exact HR236_0.out) | (with_reducible refine Kd.C_alloc ?_ _) | (with_reducible refine Kd.C_drewN ?_ _) | (with_reducible refine Kd.C_drew ?_) | exact HR236_0.out)) (ji32) p237 q237
                                           cases e237
                                           replace p237 := eq_true p237
                                           replace q237 := eq_true q237
                                           have p258 : 0 ≤ (x7_2 : Int) := of_decide_eq_true (by first | (with_reducible assumption) | assumption)
                                           have q258 : x7_2 < (l0.length : Int) := of_decide_eq_true (by first | (with_reducible assumption) | assumption)
                                           obtain ⟨ad258, e258, hx258_0⟩ := Kd.at_string HR0.out x7_2 p258 q258
                                           cases e258
                                           replace hx258_0 := (HB.out.cell (World.block_lt_of_cell? w _ hx258_0)).trans hx258_0
                                           replace p258 := eq_true p258
                                           replace q258 := eq_true q258
                                           have p259 : 0 ≤ (x6_1 : Int) := of_decide_eq_true (by first | (with_reducible assumption) | assumption)
                                           have q259 : x6_1 < (l1.length : Int) := of_decide_eq_true (by first | (with_reducible assumption) | assumption)
                                           obtain ⟨ad259, e259, hx259_0⟩ := Kd.at_string HR1.out x6_1 p259 q259
                                           cases e259
                                           replace hx259_0 := (HB.out.cell (World.block_lt_of_cell? w _ hx259_0)).trans hx259_0
                                           replace p259 := eq_true p259
                                           replace q259 := eq_true q259
                                           have p260 : 0 ≤ ((ji25) : Int) := of_decide_eq_true (by first | (with_reducible assumption) | assumption)
                                           have q260 : (ji25) < (x5_2.length : Int) := of_decide_eq_true (by first | (with_reducible assumption) | assumption)
                                           obtain ⟨ad260, A260_0, c260_0, e260, hx260_0, hl260_0, hi260_0⟩ := at_L4 (Kd.S_reads' HO_5.out).2.2 (ji25) p260 q260
                                           obtain rfl : (⟨go14, 0, none⟩ : Addr) = ad260 := (by injection e260)
                                           obtain ⟨ce260, hce260, hMe260, hcc260⟩ := Kd.S_get HO_5.out [] (ji25) p260 (by first | exact q260 | exact of_decide_eq_true (by first | (with_reducible assumption) | assumption) | (have e_ := (Kd.S_reads' HO_5.out).1; omega))
                                           obtain ⟨ve260_0, rfl, ge260_0⟩ := hMe260
                                           have hv260_0 := hcc260 0 _ rfl
                                           rw [Nat.add_zero, show ((Kd.slice 3 (Kd.int .i64))).sz = 1 from rfl, Nat.mul_one] at hv260_0
                                           replace hv260_0 := Option.some.inj (hv260_0.symm.trans hx260_0)
                                           rw [hv260_0] at ge260_0
                                           have HL260_0 := Aside0.mk (show Kd.R (Kd.int .i64) 3 _ _ _ _ (rd_L4 x5_2 (ji25)) from ge260_0)
                                           clear hv260_0 ge260_0
                                           have HX260_0 := Aside0.mk hx260_0
                                           clear hcc260 hce260
                                           (first | simp only [add_plain] at hx260_0 | simp only [add_at] at hx260_0 | simp only [Addr.add, Nat.zero_add] at hx260_0 | skip)
                                           have HR260_0 := Aside0.mk hi260_0
                                           have HC260_0 := Aside0.mk hl260_0
                                           clear hi260_0 hl260_0
                                           replace p260 := eq_true p260
                                           replace q260 := eq_true q260
                                           have ea_ := Option.some.inj (hx234_0.symm.trans hx260_0)
                                           injection ea_ with ea_ en_ ec_
                                           subst ea_
                                           subst ec_
                                           clear en_
                                           have p261 : 0 ≤ ((ji32) : Int) := of_decide_eq_true (by first | (with_reducible assumption) | assumption)
                                           have q261 : (ji32) < ((rd_L4 x5_2 (ji25)).length : Int) := of_decide_eq_true (by first | (with_reducible assumption) | assumption)
                                           obtain ⟨ad261, e261, hx261_0⟩ := Kd.at_int (by repeat (first | (with_reducible exact HR260_0.out) | (with_reducible refine Kd.C_alloc ?_ _) | (with_reducible refine Kd.C_drewN ?_ _) | (with_reducible refine Kd.C_drew ?_) | exact HR260_0.out)) (ji32) p261 q261
                                           cases e261
                                           replace p261 := eq_true p261
                                           replace q261 := eq_true q261
                                           have p268 : 0 ≤ (x6_1 : Int) := of_decide_eq_true (by first | (with_reducible assumption) | assumption)
                                           have q268 : x6_1 < (x5_2.length : Int) := of_decide_eq_true (by first | (with_reducible assumption) | assumption)
                                           obtain ⟨ad268, A268_0, c268_0, e268, hx268_0, hl268_0, hi268_0⟩ := at_L4 (Kd.S_reads' HO_5.out).2.2 x6_1 p268 q268
                                           obtain rfl : (⟨go14, 0, none⟩ : Addr) = ad268 := (by injection e268)
                                           obtain ⟨ce268, hce268, hMe268, hcc268⟩ := Kd.S_get HO_5.out [] x6_1 p268 (by first | exact q268 | exact of_decide_eq_true (by first | (with_reducible assumption) | assumption) | (have e_ := (Kd.S_reads' HO_5.out).1; omega))
                                           obtain ⟨ve268_0, rfl, ge268_0⟩ := hMe268
                                           have hv268_0 := hcc268 0 _ rfl
                                           rw [Nat.add_zero, show ((Kd.slice 3 (Kd.int .i64))).sz = 1 from rfl, Nat.mul_one] at hv268_0
                                           replace hv268_0 := Option.some.inj (hv268_0.symm.trans hx268_0)
                                           rw [hv268_0] at ge268_0
                                           have HL268_0 := Aside0.mk (show Kd.R (Kd.int .i64) 3 _ _ _ _ (rd_L4 x5_2 x6_1) from ge268_0)
                                           clear hv268_0 ge268_0
                                           have HX268_0 := Aside0.mk hx268_0
                                           clear hcc268 hce268
                                           (first | simp only [add_plain] at hx268_0 | simp only [add_at] at hx268_0 | simp only [Addr.add, Nat.zero_add] at hx268_0 | skip)
                                           have HR268_0 := Aside0.mk hi268_0
                                           have HC268_0 := Aside0.mk hl268_0
                                           clear hi268_0 hl268_0
                                           replace p268 := eq_true p268
                                           replace q268 := eq_true q268
                                           have ea_ := Option.some.inj (hx236_0.symm.trans hx268_0)
                                           injection ea_ with ea_ en_ ec_
                                           subst ea_
                                           subst ec_
                                           clear en_
                                           have p63 : 0 ≤ (x7_2 : Int) := of_decide_eq_true (by first | (with_reducible assumption) | assumption)
                                           have q63 : (x7_2 : Int) < (((rd_L4 x5_2 x6_1).length : Int) : Int) := of_decide_eq_true (by first | (with_reducible assumption) | assumption)
                                           obtain ⟨go63, co63, eo63, gb63, gl63, cl63, HG63⟩ := Kd.R_form HL268_0.out (by omega)
                                           (first | cases eo63 | (injection eo63 with ea_ en_ ec_; (first | subst ea_ | (injection ea_ with ea_; subst ea_)); subst ec_; clear en_))
                                           have GB63 := Aside0.mk gb63
                                           have GG63 := Aside0.mk HG63
                                           clear gb63 gl63 HG63
                                           (first | simp only [add_plain] at hx237_0 | skip)
                                           obtain ⟨hx63_0, hf63_0⟩ := Kd.R_celln 0 HL268_0.out (x7_2 : Int) p63 q63
                                           replace p63 := eq_true p63
                                           replace q63 := eq_true q63
                                           have hq64 : (x6_1 : Int) < (x5_2.length : Int) := (by have h_ : (x6_1 : Int) < ((x5_2.length : Int) : Int) := of_decide_eq_true (by first | (with_reducible assumption) | assumption); first | exact h_ | (have e_ := (Kd.S_reads' HO_5.out).1; omega) | simpa only [List.length_set, List.length_set] using h_)
                                           obtain ⟨oki64, ce64, hcl64, hM64, hcc64, hok64, hbk64⟩ := Kd.S_borrow HO_5.out [] (x6_1 : Int) (of_decide_eq_true (by first | (with_reducible assumption) | assumption)) hq64
                                           obtain ⟨ve64_0, rfl, ge64_0⟩ := hM64
                                           have hv64 := hcc64 0 _ rfl
                                           rw [Nat.add_zero, show ((Kd.slice 3 (Kd.int .i64))).sz = 1 from rfl, Nat.mul_one] at hv64
                                           replace hv64 := Option.some.inj (hv64.symm.trans HX268_0.out)
                                           subst hv64
                                           clear hcc64 hcl64
                                           replace ge64_0 := (show Kd.R (Kd.int .i64) 3 _ _ _ _ (rd_L4 x5_2 x6_1) from ge64_0)
                                           have HP64 := Kd.R_putg ge64_0 (x7_2 : Int) (rd (rd_L4 x5_2 (ji25)) x7_2)
                                           go_wp2_with (first | ((with_reducible refine gate_store (t := 3) (p := 102) rfl ?_); (try (rw [drewN_self wr]; generalize hq_ : World.drewN wr _ = wr; have n0_ := Aside0.mk (Kd.S_at hq_ HO_5.out); have n1_ := Aside0.mk (Kd.R_at hq_ HL234_0.out); have n2_ := Aside0.mk (Kd.R_at hq_ HL236_0.out); have n3_ := Aside0.mk (Kd.R_at hq_ HL260_0.out); have n4_ := Aside0.mk (Kd.R_at hq_ HL268_0.out); have n5_ := Aside0.mk (Kd.C_at hq_ HR234_0.out); have n6_ := Aside0.mk (Kd.C_at hq_ HR236_0.out); have n7_ := Aside0.mk (Kd.C_at hq_ HR260_0.out); have n8_ := Aside0.mk (Kd.C_at hq_ HR268_0.out); have n9_ := Aside0.mk (cell_at hq_ HX234_0.out); have n10_ := Aside0.mk (cell_at hq_ HX236_0.out); have n11_ := Aside0.mk (cell_at hq_ HX260_0.out); have n12_ := Aside0.mk (cell_at hq_ HX268_0.out); have n13_ := Aside0.mk (below_at hq_ HB.out); clear hq_ HO_5 HL234_0 HL236_0 HL260_0 HL268_0 HR234_0 HR236_0 HR260_0 HR268_0 HX234_0 HX236_0 HX260_0 HX268_0 HB; have HO_5 := n0_; have HL234_0 := n1_; have HL236_0 := n2_; have HL260_0 := n3_; have HL268_0 := n4_; have HR234_0 := n5_; have HR236_0 := n6_; have HR260_0 := n7_; have HR268_0 := n8_; have HX234_0 := n9_; have HX236_0 := n10_; have HX260_0 := n11_; have HX268_0 := n12_; have HB := n13_; clear n0_ n1_ n2_ n3_ n4_ n5_ n6_ n7_ n8_ n9_ n10_ n11_ n12_ n13_; (try (have p63 : 0 ≤ (x7_2 : Int) := of_decide_eq_true (by first | (with_reducible assumption) | assumption))); (try (have q63 : (x7_2 : Int) < (((rd_L4 x5_2 x6_1).length : Int) : Int) := of_decide_eq_true (by first | (with_reducible assumption) | assumption))); (try (obtain ⟨go63, co63, eo63, gb63, gl63, cl63, HG63⟩ := Kd.R_form HL268_0.out (by omega))); (try (first | cases eo63 | (injection eo63 with ea_ en_ ec_; (first | subst ea_ | (injection ea_ with ea_; subst ea_)); subst ec_; clear en_))); (try (have GB63 := Aside0.mk gb63)); (try (have GG63 := Aside0.mk HG63)); (try (clear gb63 gl63 HG63)); (try (first | simp only [add_plain] at hx237_0 | skip)); (try (obtain ⟨hx63_0, hf63_0⟩ := Kd.R_celln 0 HL268_0.out (x7_2 : Int) p63 q63)); (try (replace p63 := eq_true p63)); (try (replace q63 := eq_true q63)); (try (have hq64 : (x6_1 : Int) < (x5_2.length : Int) := (by have h_ : (x6_1 : Int) < ((x5_2.length : Int) : Int) := of_decide_eq_true (by first | (with_reducible assumption) | assumption); first | exact h_ | (have e_ := (Kd.S_reads' HO_5.out).1; omega) | simpa only [List.length_set, List.length_set] using h_))); (try (obtain ⟨oki64, ce64, hcl64, hM64, hcc64, hok64, hbk64⟩ := Kd.S_borrow HO_5.out [] (x6_1 : Int) (of_decide_eq_true (by first | (with_reducible assumption) | assumption)) hq64)); (try (obtain ⟨ve64_0, rfl, ge64_0⟩ := hM64)); (try (have hv64 := hcc64 0 _ rfl)); (try (rw [Nat.add_zero, show ((Kd.slice 3 (Kd.int .i64))).sz = 1 from rfl, Nat.mul_one] at hv64)); (try (replace hv64 := Option.some.inj (hv64.symm.trans HX268_0.out))); (try (subst hv64)); (try (clear hcc64 hcl64)); (try (replace ge64_0 := (show Kd.R (Kd.int .i64) 3 _ _ _ _ (rd_L4 x5_2 x6_1) from ge64_0))); (try (have HP64 := Kd.R_putg ge64_0 (x7_2 : Int) (rd (rd_L4 x5_2 (ji25)) x7_2))))); refine store_event (t := 3) (p := 102) (v := ?vo_w65) (w1 := (wr.setCell ⟨go63, (x7_2 : Int).toNat, none⟩ (.int .i64 (rd (rd_L4 x5_2 (ji25)) x7_2)))) ?hg ?ho ?hn ?hr ?_; (case ho => rfl); (case hg => rfl); (case hn => rfl); (case hr => first | (go_simp; done) | (go_simp; rfl)); intro w65 hw; have hg : wr.grownBy w65 (some go63) := (by rw [hw]; exact HP64.2); have hz_ : Kd.R (Kd.int .i64) 3 w65 w.heap.size oki64 (.slice (some ⟨go63, 0, none⟩) (rd_L4 x5_2 x6_1).length c236_0) y269 := (by rw [hw, Ny269.out]; exact HP64.1); have hp_ : Kd.S (Kd.slice 3 (Kd.int .i64)) 23 w65 w.heap.size (fun _ => True) (.slice (some ⟨go14, 0, none⟩) x5_2.length co14) y271 := (by rw [Ny271.out]; exact hbk64 hg (fun k_ e_ => by injection e_ with e_; subst e_; exact ge64_0.1 _ rfl) (Kd.M_row hz_)); have hm_ := Kd.R_mono hz_ hok64; clear HP64 hbk64; have n0_ := Aside0.mk (hp_); have n1_ := Aside0.mk ((by rw [hw]; exact below_set (HB.out) GB63.out : Below w.heap.size w w65)); have n2_ := Aside0.mk (hm_); have n3_ := Aside0.mk ((Kd.R_reads' hm_).2.1); clear HO_5; clear HB; clear HL234_0; clear HL236_0; clear HL260_0; clear HL268_0; have HO_5 := n0_; have HB := n1_; have HL280 := n2_; have HC270 := n3_; clear n0_ n1_ n2_ n3_; clear hg hw hp_ hz_ hm_ hok64))
                                           repeat (go_quiet (first | ((with_reducible refine gate_store (t := 3) (p := 102) rfl ?_); (try (rw [drewN_self wr]; generalize hq_ : World.drewN wr _ = wr; have n0_ := Aside0.mk (Kd.S_at hq_ HO_5.out); have n1_ := Aside0.mk (Kd.R_at hq_ HL234_0.out); have n2_ := Aside0.mk (Kd.R_at hq_ HL236_0.out); have n3_ := Aside0.mk (Kd.R_at hq_ HL260_0.out); have n4_ := Aside0.mk (Kd.R_at hq_ HL268_0.out); have n5_ := Aside0.mk (Kd.C_at hq_ HR234_0.out); have n6_ := Aside0.mk (Kd.C_at hq_ HR236_0.out); have n7_ := Aside0.mk (Kd.C_at hq_ HR260_0.out); have n8_ := Aside0.mk (Kd.C_at hq_ HR268_0.out); have n9_ := Aside0.mk (cell_at hq_ HX234_0.out); have n10_ := Aside0.mk (cell_at hq_ HX236_0.out); have n11_ := Aside0.mk (cell_at hq_ HX260_0.out); have n12_ := Aside0.mk (cell_at hq_ HX268_0.out); have n13_ := Aside0.mk (below_at hq_ HB.out); clear hq_ HO_5 HL234_0 HL236_0 HL260_0 HL268_0 HR234_0 HR236_0 HR260_0 HR268_0 HX234_0 HX236_0 HX260_0 HX268_0 HB; have HO_5 := n0_; have HL234_0 := n1_; have HL236_0 := n2_; have HL260_0 := n3_; have HL268_0 := n4_; have HR234_0 := n5_; have HR236_0 := n6_; have HR260_0 := n7_; have HR268_0 := n8_; have HX234_0 := n9_; have HX236_0 := n10_; have HX260_0 := n11_; have HX268_0 := n12_; have HB := n13_; clear n0_ n1_ n2_ n3_ n4_ n5_ n6_ n7_ n8_ n9_ n10_ n11_ n12_ n13_; (try (have p63 : 0 ≤ (x7_2 : Int) := of_decide_eq_true (by first | (with_reducible assumption) | assumption))); (try (have q63 : (x7_2 : Int) < (((rd_L4 x5_2 x6_1).length : Int) : Int) := of_decide_eq_true (by first | (with_reducible assumption) | assumption))); (try (obtain ⟨go63, co63, eo63, gb63, gl63, cl63, HG63⟩ := Kd.R_form HL268_0.out (by omega))); (try (first | cases eo63 | (injection eo63 with ea_ en_ ec_; (first | subst ea_ | (injection ea_ with ea_; subst ea_)); subst ec_; clear en_))); (try (have GB63 := Aside0.mk gb63)); (try (have GG63 := Aside0.mk HG63)); (try (clear gb63 gl63 HG63)); (try (first | simp only [add_plain] at hx237_0 | skip)); (try (obtain ⟨hx63_0, hf63_0⟩ := Kd.R_celln 0 HL268_0.out (x7_2 : Int) p63 q63)); (try (replace p63 := eq_true p63)); (try (replace q63 := eq_true q63)); (try (have hq64 : (x6_1 : Int) < (x5_2.length : Int) := (by have h_ : (x6_1 : Int) < ((x5_2.length : Int) : Int) := of_decide_eq_true (by first | (with_reducible assumption) | assumption); first | exact h_ | (have e_ := (Kd.S_reads' HO_5.out).1; omega) | simpa only [List.length_set, List.length_set] using h_))); (try (obtain ⟨oki64, ce64, hcl64, hM64, hcc64, hok64, hbk64⟩ := Kd.S_borrow HO_5.out [] (x6_1 : Int) (of_decide_eq_true (by first | (with_reducible assumption) | assumption)) hq64)); (try (obtain ⟨ve64_0, rfl, ge64_0⟩ := hM64)); (try (have hv64 := hcc64 0 _ rfl)); (try (rw [Nat.add_zero, show ((Kd.slice 3 (Kd.int .i64))).sz = 1 from rfl, Nat.mul_one] at hv64)); (try (replace hv64 := Option.some.inj (hv64.symm.trans HX268_0.out))); (try (subst hv64)); (try (clear hcc64 hcl64)); (try (replace ge64_0 := (show Kd.R (Kd.int .i64) 3 _ _ _ _ (rd_L4 x5_2 x6_1) from ge64_0))); (try (have HP64 := Kd.R_putg ge64_0 (x7_2 : Int) (rd (rd_L4 x5_2 (ji25)) x7_2))))); refine store_event (t := 3) (p := 102) (v := ?vo_w65) (w1 := (wr.setCell ⟨go63, (x7_2 : Int).toNat, none⟩ (.int .i64 (rd (rd_L4 x5_2 (ji25)) x7_2)))) ?hg ?ho ?hn ?hr ?_; (case ho => rfl); (case hg => rfl); (case hn => rfl); (case hr => first | (go_simp; done) | (go_simp; rfl)); intro w65 hw; have hg : wr.grownBy w65 (some go63) := (by rw [hw]; exact HP64.2); have hz_ : Kd.R (Kd.int .i64) 3 w65 w.heap.size oki64 (.slice (some ⟨go63, 0, none⟩) (rd_L4 x5_2 x6_1).length c236_0) y269 := (by rw [hw, Ny269.out]; exact HP64.1); have hp_ : Kd.S (Kd.slice 3 (Kd.int .i64)) 23 w65 w.heap.size (fun _ => True) (.slice (some ⟨go14, 0, none⟩) x5_2.length co14) y271 := (by rw [Ny271.out]; exact hbk64 hg (fun k_ e_ => by injection e_ with e_; subst e_; exact ge64_0.1 _ rfl) (Kd.M_row hz_)); have hm_ := Kd.R_mono hz_ hok64; clear HP64 hbk64; have n0_ := Aside0.mk (hp_); have n1_ := Aside0.mk ((by rw [hw]; exact below_set (HB.out) GB63.out : Below w.heap.size w w65)); have n2_ := Aside0.mk (hm_); have n3_ := Aside0.mk ((Kd.R_reads' hm_).2.1); clear HO_5; clear HB; clear HL234_0; clear HL236_0; clear HL260_0; clear HL268_0; have HO_5 := n0_; have HB := n1_; have HL280 := n2_; have HC270 := n3_; clear n0_ n1_ n2_ n3_; clear hg hw hp_ hz_ hm_ hok64)); try go_wp2_with (first | ((with_reducible refine gate_store (t := 3) (p := 102) rfl ?_); (try (rw [drewN_self wr]; generalize hq_ : World.drewN wr _ = wr; have n0_ := Aside0.mk (Kd.S_at hq_ HO_5.out); have n1_ := Aside0.mk (Kd.R_at hq_ HL234_0.out); have n2_ := Aside0.mk (Kd.R_at hq_ HL236_0.out); have n3_ := Aside0.mk (Kd.R_at hq_ HL260_0.out); have n4_ := Aside0.mk (Kd.R_at hq_ HL268_0.out); have n5_ := Aside0.mk (Kd.C_at hq_ HR234_0.out); have n6_ := Aside0.mk (Kd.C_at hq_ HR236_0.out); have n7_ := Aside0.mk (Kd.C_at hq_ HR260_0.out); have n8_ := Aside0.mk (Kd.C_at hq_ HR268_0.out); have n9_ := Aside0.mk (cell_at hq_ HX234_0.out); have n10_ := Aside0.mk (cell_at hq_ HX236_0.out); have n11_ := Aside0.mk (cell_at hq_ HX260_0.out); have n12_ := Aside0.mk (cell_at hq_ HX268_0.out); have n13_ := Aside0.mk (below_at hq_ HB.out); clear hq_ HO_5 HL234_0 HL236_0 HL260_0 HL268_0 HR234_0 HR236_0 HR260_0 HR268_0 HX234_0 HX236_0 HX260_0 HX268_0 HB; have HO_5 := n0_; have HL234_0 := n1_; have HL236_0 := n2_; have HL260_0 := n3_; have HL268_0 := n4_; have HR234_0 := n5_; have HR236_0 := n6_; have HR260_0 := n7_; have HR268_0 := n8_; have HX234_0 := n9_; have HX236_0 := n10_; have HX260_0 := n11_; have HX268_0 := n12_; have HB := n13_; clear n0_ n1_ n2_ n3_ n4_ n5_ n6_ n7_ n8_ n9_ n10_ n11_ n12_ n13_; (try (have p63 : 0 ≤ (x7_2 : Int) := of_decide_eq_true (by first | (with_reducible assumption) | assumption))); (try (have q63 : (x7_2 : Int) < (((rd_L4 x5_2 x6_1).length : Int) : Int) := of_decide_eq_true (by first | (with_reducible assumption) | assumption))); (try (obtain ⟨go63, co63, eo63, gb63, gl63, cl63, HG63⟩ := Kd.R_form HL268_0.out (by omega))); (try (first | cases eo63 | (injection eo63 with ea_ en_ ec_; (first | subst ea_ | (injection ea_ with ea_; subst ea_)); subst ec_; clear en_))); (try (have GB63 := Aside0.mk gb63)); (try (have GG63 := Aside0.mk HG63)); (try (clear gb63 gl63 HG63)); (try (first | simp only [add_plain] at hx237_0 | skip)); (try (obtain ⟨hx63_0, hf63_0⟩ := Kd.R_celln 0 HL268_0.out (x7_2 : Int) p63 q63)); (try (replace p63 := eq_true p63)); (try (replace q63 := eq_true q63)); (try (have hq64 : (x6_1 : Int) < (x5_2.length : Int) := (by have h_ : (x6_1 : Int) < ((x5_2.length : Int) : Int) := of_decide_eq_true (by first | (with_reducible assumption) | assumption); first | exact h_ | (have e_ := (Kd.S_reads' HO_5.out).1; omega) | simpa only [List.length_set, List.length_set] using h_))); (try (obtain ⟨oki64, ce64, hcl64, hM64, hcc64, hok64, hbk64⟩ := Kd.S_borrow HO_5.out [] (x6_1 : Int) (of_decide_eq_true (by first | (with_reducible assumption) | assumption)) hq64)); (try (obtain ⟨ve64_0, rfl, ge64_0⟩ := hM64)); (try (have hv64 := hcc64 0 _ rfl)); (try (rw [Nat.add_zero, show ((Kd.slice 3 (Kd.int .i64))).sz = 1 from rfl, Nat.mul_one] at hv64)); (try (replace hv64 := Option.some.inj (hv64.symm.trans HX268_0.out))); (try (subst hv64)); (try (clear hcc64 hcl64)); (try (replace ge64_0 := (show Kd.R (Kd.int .i64) 3 _ _ _ _ (rd_L4 x5_2 x6_1) from ge64_0))); (try (have HP64 := Kd.R_putg ge64_0 (x7_2 : Int) (rd (rd_L4 x5_2 (ji25)) x7_2))))); refine store_event (t := 3) (p := 102) (v := ?vo_w65) (w1 := (wr.setCell ⟨go63, (x7_2 : Int).toNat, none⟩ (.int .i64 (rd (rd_L4 x5_2 (ji25)) x7_2)))) ?hg ?ho ?hn ?hr ?_; (case ho => rfl); (case hg => rfl); (case hn => rfl); (case hr => first | (go_simp; done) | (go_simp; rfl)); intro w65 hw; have hg : wr.grownBy w65 (some go63) := (by rw [hw]; exact HP64.2); have hz_ : Kd.R (Kd.int .i64) 3 w65 w.heap.size oki64 (.slice (some ⟨go63, 0, none⟩) (rd_L4 x5_2 x6_1).length c236_0) y269 := (by rw [hw, Ny269.out]; exact HP64.1); have hp_ : Kd.S (Kd.slice 3 (Kd.int .i64)) 23 w65 w.heap.size (fun _ => True) (.slice (some ⟨go14, 0, none⟩) x5_2.length co14) y271 := (by rw [Ny271.out]; exact hbk64 hg (fun k_ e_ => by injection e_ with e_; subst e_; exact ge64_0.1 _ rfl) (Kd.M_row hz_)); have hm_ := Kd.R_mono hz_ hok64; clear HP64 hbk64; have n0_ := Aside0.mk (hp_); have n1_ := Aside0.mk ((by rw [hw]; exact below_set (HB.out) GB63.out : Below w.heap.size w w65)); have n2_ := Aside0.mk (hm_); have n3_ := Aside0.mk ((Kd.R_reads' hm_).2.1); clear HO_5; clear HB; clear HL234_0; clear HL236_0; clear HL260_0; clear HL268_0; have HO_5 := n0_; have HB := n1_; have HL280 := n2_; have HC270 := n3_; clear n0_ n1_ n2_ n3_; clear hg hw hp_ hz_ hm_ hok64)))
                                           (try simp only [← hl5_2])
                                           go_roundg k2
                                           case measure => have := HK1.out; have := HK2.out; omega
                                           case rel => exact ⟨(y271), (wrap64 (x7_2 - 1)), (by first | rfl | (simp; done) | (simp [*]; done)), H', ⟨by have := HK1.out; have := HK2.out; omega⟩, ⟨by (try simp only [hl5_2]); (with_reducible repeat (first | apply Kd.S_alloc | apply Kd.S_drewN | apply Kd.S_drew)); exact HO_5.out⟩, ⟨by repeat (first | (with_reducible first | exact HB.out | apply below_alloc | apply pw_below_drewN | apply below_drew1) | exact HB.out)⟩⟩
                                         rw [if_neg c62] at H
                                         exact absurd H (by simp)
                                       rw [if_neg c56] at H
                                       exact absurd H (by simp)
                                     rw [if_neg c55] at H
                                     have c55b0 : ((rdOf ByteArray.empty l0 x7_2).toList == (rdOf ByteArray.empty l1 x6_1).toList) = false := beq_eq_false_iff_ne.mpr c55
                                     have c55b1 : ((rdOf ByteArray.empty l0 x7_2).toList != (rdOf ByteArray.empty l1 x6_1).toList) = true := bne_iff_ne.mpr c55
                                     by_cases c66 : x7_2 < ((rd_L4 x5_2 x6_1).length : Int)
                                     · rw [if_pos c66] at H
                                       have c66b0 : decide (x7_2 < ((rd_L4 x5_2 x6_1).length : Int)) = true := decide_eq_true c66
                                       (try (have c66b0h := c66b0; simp only [hl5_2] at c66b0h))
                                       clear c66
                                       obtain ⟨y273, hy273⟩ : ∃ y_ : List Int, y_ = ((rd_L4 x5_2 x6_1).set (x7_2 : Int).toNat (rd (rd_L4 x5_2 (ji25)) x7_2)) := ⟨_, rfl⟩
                                       replace H : (changeforgeref1_suffixes.l1 k2 l0 l1 (x5_2.set (x6_1 : Int).toNat y273) x6_1 (wrap64 (x7_2 - 1))) = some r := by first | (rw [hy273]; with_reducible exact H) | (have H2_ := (Option.bind_some _ _).symm.trans H; rw [hy273]; with_reducible exact H2_) | (have H2_ := (Option.bind_some _ _).symm.trans H; with_reducible exact H2_) | with_reducible exact H | (rw [hy273]; exact H) | exact H
                                       have Ny273 := Aside0.mk hy273
                                       clear hy273
                                       obtain ⟨y275, hy275⟩ : ∃ y_ : List (List Int), y_ = (x5_2.set (x6_1 : Int).toNat y273) := ⟨_, rfl⟩
                                       replace H : (changeforgeref1_suffixes.l1 k2 l0 l1 y275 x6_1 (wrap64 (x7_2 - 1))) = some r := by first | (rw [hy275]; with_reducible exact H) | (have H2_ := (Option.bind_some _ _).symm.trans H; rw [hy275]; with_reducible exact H2_) | (have H2_ := (Option.bind_some _ _).symm.trans H; with_reducible exact H2_) | with_reducible exact H | (rw [hy275]; exact H) | exact H
                                       have Ny275 := Aside0.mk hy275
                                       clear hy275
                                       have H' := Aside0.mk H
                                       clear H
                                       have p234 : 0 ≤ ((ji25) : Int) := of_decide_eq_true (by first | (with_reducible assumption) | assumption)
                                       have q234 : (ji25) < (x5_2.length : Int) := of_decide_eq_true (by first | (with_reducible assumption) | assumption)
                                       obtain ⟨ad234, A234_0, c234_0, e234, hx234_0, hl234_0, hi234_0⟩ := at_L4 (Kd.S_reads' HO_5.out).2.2 (ji25) p234 q234
                                       obtain rfl : (⟨go14, 0, none⟩ : Addr) = ad234 := (by injection e234)
                                       obtain ⟨ce234, hce234, hMe234, hcc234⟩ := Kd.S_get HO_5.out [] (ji25) p234 (by first | exact q234 | exact of_decide_eq_true (by first | (with_reducible assumption) | assumption) | (have e_ := (Kd.S_reads' HO_5.out).1; omega))
                                       obtain ⟨ve234_0, rfl, ge234_0⟩ := hMe234
                                       have hv234_0 := hcc234 0 _ rfl
                                       rw [Nat.add_zero, show ((Kd.slice 3 (Kd.int .i64))).sz = 1 from rfl, Nat.mul_one] at hv234_0
                                       replace hv234_0 := Option.some.inj (hv234_0.symm.trans hx234_0)
                                       rw [hv234_0] at ge234_0
                                       have HL234_0 := Aside0.mk (show Kd.R (Kd.int .i64) 3 _ _ _ _ (rd_L4 x5_2 (ji25)) from ge234_0)
                                       clear hv234_0 ge234_0
                                       have HX234_0 := Aside0.mk hx234_0
                                       clear hcc234 hce234
                                       (first | simp only [add_plain] at hx234_0 | simp only [add_at] at hx234_0 | simp only [Addr.add, Nat.zero_add] at hx234_0 | skip)
                                       have HR234_0 := Aside0.mk hi234_0
                                       have HC234_0 := Aside0.mk hl234_0
                                       clear hi234_0 hl234_0
                                       replace p234 := eq_true p234
                                       replace q234 := eq_true q234
                                       have p235 : 0 ≤ (x7_2 : Int) := of_decide_eq_true (by first | (with_reducible assumption) | assumption)
                                       have q235 : x7_2 < ((rd_L4 x5_2 (ji25)).length : Int) := of_decide_eq_true (by first | (with_reducible assumption) | assumption)
                                       obtain ⟨ad235, e235, hx235_0⟩ := Kd.at_int (by repeat (first | (with_reducible exact HR234_0.out) | (with_reducible refine Kd.C_alloc ?_ _) | (with_reducible refine Kd.C_drewN ?_ _) | (with_reducible refine Kd.C_drew ?_) | exact HR234_0.out)) x7_2 p235 q235
                                       cases e235
                                       replace p235 := eq_true p235
                                       replace q235 := eq_true q235
                                       have p236 : 0 ≤ (x6_1 : Int) := of_decide_eq_true (by first | (with_reducible assumption) | assumption)
                                       have q236 : x6_1 < (x5_2.length : Int) := of_decide_eq_true (by first | (with_reducible assumption) | assumption)
                                       obtain ⟨ad236, A236_0, c236_0, e236, hx236_0, hl236_0, hi236_0⟩ := at_L4 (Kd.S_reads' HO_5.out).2.2 x6_1 p236 q236
                                       obtain rfl : (⟨go14, 0, none⟩ : Addr) = ad236 := (by injection e236)
                                       obtain ⟨ce236, hce236, hMe236, hcc236⟩ := Kd.S_get HO_5.out [] x6_1 p236 (by first | exact q236 | exact of_decide_eq_true (by first | (with_reducible assumption) | assumption) | (have e_ := (Kd.S_reads' HO_5.out).1; omega))
                                       obtain ⟨ve236_0, rfl, ge236_0⟩ := hMe236
                                       have hv236_0 := hcc236 0 _ rfl
                                       rw [Nat.add_zero, show ((Kd.slice 3 (Kd.int .i64))).sz = 1 from rfl, Nat.mul_one] at hv236_0
                                       replace hv236_0 := Option.some.inj (hv236_0.symm.trans hx236_0)
                                       rw [hv236_0] at ge236_0
                                       have HL236_0 := Aside0.mk (show Kd.R (Kd.int .i64) 3 _ _ _ _ (rd_L4 x5_2 x6_1) from ge236_0)
                                       clear hv236_0 ge236_0
                                       have HX236_0 := Aside0.mk hx236_0
                                       clear hcc236 hce236
                                       (first | simp only [add_plain] at hx236_0 | simp only [add_at] at hx236_0 | simp only [Addr.add, Nat.zero_add] at hx236_0 | skip)
                                       have HR236_0 := Aside0.mk hi236_0
                                       have HC236_0 := Aside0.mk hl236_0
                                       clear hi236_0 hl236_0
                                       replace p236 := eq_true p236
                                       replace q236 := eq_true q236
                                       have p237 : 0 ≤ ((ji32) : Int) := of_decide_eq_true (by first | (with_reducible assumption) | assumption)
                                       have q237 : (ji32) < ((rd_L4 x5_2 x6_1).length : Int) := of_decide_eq_true (by first | (with_reducible assumption) | assumption)
                                       obtain ⟨ad237, e237, hx237_0⟩ := Kd.at_int (by repeat (first | (with_reducible exact HR236_0.out) | (with_reducible refine Kd.C_alloc ?_ _) | (with_reducible refine Kd.C_drewN ?_ _) | (with_reducible refine Kd.C_drew ?_) | exact HR236_0.out)) (ji32) p237 q237
                                       cases e237
                                       replace p237 := eq_true p237
                                       replace q237 := eq_true q237
                                       have p258 : 0 ≤ (x7_2 : Int) := of_decide_eq_true (by first | (with_reducible assumption) | assumption)
                                       have q258 : x7_2 < (l0.length : Int) := of_decide_eq_true (by first | (with_reducible assumption) | assumption)
                                       obtain ⟨ad258, e258, hx258_0⟩ := Kd.at_string HR0.out x7_2 p258 q258
                                       cases e258
                                       replace hx258_0 := (HB.out.cell (World.block_lt_of_cell? w _ hx258_0)).trans hx258_0
                                       replace p258 := eq_true p258
                                       replace q258 := eq_true q258
                                       have p259 : 0 ≤ (x6_1 : Int) := of_decide_eq_true (by first | (with_reducible assumption) | assumption)
                                       have q259 : x6_1 < (l1.length : Int) := of_decide_eq_true (by first | (with_reducible assumption) | assumption)
                                       obtain ⟨ad259, e259, hx259_0⟩ := Kd.at_string HR1.out x6_1 p259 q259
                                       cases e259
                                       replace hx259_0 := (HB.out.cell (World.block_lt_of_cell? w _ hx259_0)).trans hx259_0
                                       replace p259 := eq_true p259
                                       replace q259 := eq_true q259
                                       have p272 : 0 ≤ (x6_1 : Int) := of_decide_eq_true (by first | (with_reducible assumption) | assumption)
                                       have q272 : x6_1 < (x5_2.length : Int) := of_decide_eq_true (by first | (with_reducible assumption) | assumption)
                                       obtain ⟨ad272, A272_0, c272_0, e272, hx272_0, hl272_0, hi272_0⟩ := at_L4 (Kd.S_reads' HO_5.out).2.2 x6_1 p272 q272
                                       obtain rfl : (⟨go14, 0, none⟩ : Addr) = ad272 := (by injection e272)
                                       obtain ⟨ce272, hce272, hMe272, hcc272⟩ := Kd.S_get HO_5.out [] x6_1 p272 (by first | exact q272 | exact of_decide_eq_true (by first | (with_reducible assumption) | assumption) | (have e_ := (Kd.S_reads' HO_5.out).1; omega))
                                       obtain ⟨ve272_0, rfl, ge272_0⟩ := hMe272
                                       have hv272_0 := hcc272 0 _ rfl
                                       rw [Nat.add_zero, show ((Kd.slice 3 (Kd.int .i64))).sz = 1 from rfl, Nat.mul_one] at hv272_0
                                       replace hv272_0 := Option.some.inj (hv272_0.symm.trans hx272_0)
                                       rw [hv272_0] at ge272_0
                                       have HL272_0 := Aside0.mk (show Kd.R (Kd.int .i64) 3 _ _ _ _ (rd_L4 x5_2 x6_1) from ge272_0)
                                       clear hv272_0 ge272_0
                                       have HX272_0 := Aside0.mk hx272_0
                                       clear hcc272 hce272
                                       (first | simp only [add_plain] at hx272_0 | simp only [add_at] at hx272_0 | simp only [Addr.add, Nat.zero_add] at hx272_0 | skip)
                                       have HR272_0 := Aside0.mk hi272_0
                                       have HC272_0 := Aside0.mk hl272_0
                                       clear hi272_0 hl272_0
                                       replace p272 := eq_true p272
                                       replace q272 := eq_true q272
                                       have ea_ := Option.some.inj (hx236_0.symm.trans hx272_0)
                                       injection ea_ with ea_ en_ ec_
                                       subst ea_
                                       subst ec_
                                       clear en_
                                       have p67 : 0 ≤ (x7_2 : Int) := of_decide_eq_true (by first | (with_reducible assumption) | assumption)
                                       have q67 : (x7_2 : Int) < (((rd_L4 x5_2 x6_1).length : Int) : Int) := of_decide_eq_true (by first | (with_reducible assumption) | assumption)
                                       obtain ⟨go67, co67, eo67, gb67, gl67, cl67, HG67⟩ := Kd.R_form HL272_0.out (by omega)
                                       (first | cases eo67 | (injection eo67 with ea_ en_ ec_; (first | subst ea_ | (injection ea_ with ea_; subst ea_)); subst ec_; clear en_))
                                       have GB67 := Aside0.mk gb67
                                       have GG67 := Aside0.mk HG67
                                       clear gb67 gl67 HG67
                                       (first | simp only [add_plain] at hx237_0 | skip)
                                       obtain ⟨hx67_0, hf67_0⟩ := Kd.R_celln 0 HL272_0.out (x7_2 : Int) p67 q67
                                       replace p67 := eq_true p67
                                       replace q67 := eq_true q67
                                       have hq68 : (x6_1 : Int) < (x5_2.length : Int) := (by have h_ : (x6_1 : Int) < ((x5_2.length : Int) : Int) := of_decide_eq_true (by first | (with_reducible assumption) | assumption); first | exact h_ | (have e_ := (Kd.S_reads' HO_5.out).1; omega) | simpa only [List.length_set, List.length_set] using h_)
                                       obtain ⟨oki68, ce68, hcl68, hM68, hcc68, hok68, hbk68⟩ := Kd.S_borrow HO_5.out [] (x6_1 : Int) (of_decide_eq_true (by first | (with_reducible assumption) | assumption)) hq68
                                       obtain ⟨ve68_0, rfl, ge68_0⟩ := hM68
                                       have hv68 := hcc68 0 _ rfl
                                       rw [Nat.add_zero, show ((Kd.slice 3 (Kd.int .i64))).sz = 1 from rfl, Nat.mul_one] at hv68
                                       replace hv68 := Option.some.inj (hv68.symm.trans HX272_0.out)
                                       subst hv68
                                       clear hcc68 hcl68
                                       replace ge68_0 := (show Kd.R (Kd.int .i64) 3 _ _ _ _ (rd_L4 x5_2 x6_1) from ge68_0)
                                       have HP68 := Kd.R_putg ge68_0 (x7_2 : Int) (rd (rd_L4 x5_2 (ji25)) x7_2)
                                       go_wp2_with (first | ((with_reducible refine gate_store (t := 3) (p := 102) rfl ?_); (try (rw [drewN_self wr]; generalize hq_ : World.drewN wr _ = wr; have n0_ := Aside0.mk (Kd.S_at hq_ HO_5.out); have n1_ := Aside0.mk (Kd.R_at hq_ HL234_0.out); have n2_ := Aside0.mk (Kd.R_at hq_ HL236_0.out); have n3_ := Aside0.mk (Kd.R_at hq_ HL272_0.out); have n4_ := Aside0.mk (Kd.C_at hq_ HR234_0.out); have n5_ := Aside0.mk (Kd.C_at hq_ HR236_0.out); have n6_ := Aside0.mk (Kd.C_at hq_ HR272_0.out); have n7_ := Aside0.mk (cell_at hq_ HX234_0.out); have n8_ := Aside0.mk (cell_at hq_ HX236_0.out); have n9_ := Aside0.mk (cell_at hq_ HX272_0.out); have n10_ := Aside0.mk (below_at hq_ HB.out); clear hq_ HO_5 HL234_0 HL236_0 HL272_0 HR234_0 HR236_0 HR272_0 HX234_0 HX236_0 HX272_0 HB; have HO_5 := n0_; have HL234_0 := n1_; have HL236_0 := n2_; have HL272_0 := n3_; have HR234_0 := n4_; have HR236_0 := n5_; have HR272_0 := n6_; have HX234_0 := n7_; have HX236_0 := n8_; have HX272_0 := n9_; have HB := n10_; clear n0_ n1_ n2_ n3_ n4_ n5_ n6_ n7_ n8_ n9_ n10_; (try (have p67 : 0 ≤ (x7_2 : Int) := of_decide_eq_true (by first | (with_reducible assumption) | assumption))); (try (have q67 : (x7_2 : Int) < (((rd_L4 x5_2 x6_1).length : Int) : Int) := of_decide_eq_true (by first | (with_reducible assumption) | assumption))); (try (obtain ⟨go67, co67, eo67, gb67, gl67, cl67, HG67⟩ := Kd.R_form HL272_0.out (by omega))); (try (first | cases eo67 | (injection eo67 with ea_ en_ ec_; (first | subst ea_ | (injection ea_ with ea_; subst ea_)); subst ec_; clear en_))); (try (have GB67 := Aside0.mk gb67)); (try (have GG67 := Aside0.mk HG67)); (try (clear gb67 gl67 HG67)); (try (first | simp only [add_plain] at hx237_0 | skip)); (try (obtain ⟨hx67_0, hf67_0⟩ := Kd.R_celln 0 HL272_0.out (x7_2 : Int) p67 q67)); (try (replace p67 := eq_true p67)); (try (replace q67 := eq_true q67)); (try (have hq68 : (x6_1 : Int) < (x5_2.length : Int) := (by have h_ : (x6_1 : Int) < ((x5_2.length : Int) : Int) := of_decide_eq_true (by first | (with_reducible assumption) | assumption); first | exact h_ | (have e_ := (Kd.S_reads' HO_5.out).1; omega) | simpa only [List.length_set, List.length_set] using h_))); (try (obtain ⟨oki68, ce68, hcl68, hM68, hcc68, hok68, hbk68⟩ := Kd.S_borrow HO_5.out [] (x6_1 : Int) (of_decide_eq_true (by first | (with_reducible assumption) | assumption)) hq68)); (try (obtain ⟨ve68_0, rfl, ge68_0⟩ := hM68)); (try (have hv68 := hcc68 0 _ rfl)); (try (rw [Nat.add_zero, show ((Kd.slice 3 (Kd.int .i64))).sz = 1 from rfl, Nat.mul_one] at hv68)); (try (replace hv68 := Option.some.inj (hv68.symm.trans HX272_0.out))); (try (subst hv68)); (try (clear hcc68 hcl68)); (try (replace ge68_0 := (show Kd.R (Kd.int .i64) 3 _ _ _ _ (rd_L4 x5_2 x6_1) from ge68_0))); (try (have HP68 := Kd.R_putg ge68_0 (x7_2 : Int) (rd (rd_L4 x5_2 (ji25)) x7_2))))); refine store_event (t := 3) (p := 102) (v := ?vo_w69) (w1 := (wr.setCell ⟨go67, (x7_2 : Int).toNat, none⟩ (.int .i64 (rd (rd_L4 x5_2 (ji25)) x7_2)))) ?hg ?ho ?hn ?hr ?_; (case ho => rfl); (case hg => rfl); (case hn => rfl); (case hr => first | (go_simp; done) | (go_simp; rfl)); intro w69 hw; have hg : wr.grownBy w69 (some go67) := (by rw [hw]; exact HP68.2); have hz_ : Kd.R (Kd.int .i64) 3 w69 w.heap.size oki68 (.slice (some ⟨go67, 0, none⟩) (rd_L4 x5_2 x6_1).length c236_0) y273 := (by rw [hw, Ny273.out]; exact HP68.1); have hp_ : Kd.S (Kd.slice 3 (Kd.int .i64)) 23 w69 w.heap.size (fun _ => True) (.slice (some ⟨go14, 0, none⟩) x5_2.length co14) y275 := (by rw [Ny275.out]; exact hbk68 hg (fun k_ e_ => by injection e_ with e_; subst e_; exact ge68_0.1 _ rfl) (Kd.M_row hz_)); have hm_ := Kd.R_mono hz_ hok68; clear HP68 hbk68; have n0_ := Aside0.mk (hp_); have n1_ := Aside0.mk ((by rw [hw]; exact below_set (HB.out) GB67.out : Below w.heap.size w w69)); have n2_ := Aside0.mk (hm_); have n3_ := Aside0.mk ((Kd.R_reads' hm_).2.1); clear HO_5; clear HB; clear HL234_0; clear HL236_0; clear HL272_0; have HO_5 := n0_; have HB := n1_; have HL281 := n2_; have HC274 := n3_; clear n0_ n1_ n2_ n3_; clear hg hw hp_ hz_ hm_ hok68))
                                       repeat (go_quiet (first | ((with_reducible refine gate_store (t := 3) (p := 102) rfl ?_); (try (rw [drewN_self wr]; generalize hq_ : World.drewN wr _ = wr; have n0_ := Aside0.mk (Kd.S_at hq_ HO_5.out); have n1_ := Aside0.mk (Kd.R_at hq_ HL234_0.out); have n2_ := Aside0.mk (Kd.R_at hq_ HL236_0.out); have n3_ := Aside0.mk (Kd.R_at hq_ HL272_0.out); have n4_ := Aside0.mk (Kd.C_at hq_ HR234_0.out); have n5_ := Aside0.mk (Kd.C_at hq_ HR236_0.out); have n6_ := Aside0.mk (Kd.C_at hq_ HR272_0.out); have n7_ := Aside0.mk (cell_at hq_ HX234_0.out); have n8_ := Aside0.mk (cell_at hq_ HX236_0.out); have n9_ := Aside0.mk (cell_at hq_ HX272_0.out); have n10_ := Aside0.mk (below_at hq_ HB.out); clear hq_ HO_5 HL234_0 HL236_0 HL272_0 HR234_0 HR236_0 HR272_0 HX234_0 HX236_0 HX272_0 HB; have HO_5 := n0_; have HL234_0 := n1_; have HL236_0 := n2_; have HL272_0 := n3_; have HR234_0 := n4_; have HR236_0 := n5_; have HR272_0 := n6_; have HX234_0 := n7_; have HX236_0 := n8_; have HX272_0 := n9_; have HB := n10_; clear n0_ n1_ n2_ n3_ n4_ n5_ n6_ n7_ n8_ n9_ n10_; (try (have p67 : 0 ≤ (x7_2 : Int) := of_decide_eq_true (by first | (with_reducible assumption) | assumption))); (try (have q67 : (x7_2 : Int) < (((rd_L4 x5_2 x6_1).length : Int) : Int) := of_decide_eq_true (by first | (with_reducible assumption) | assumption))); (try (obtain ⟨go67, co67, eo67, gb67, gl67, cl67, HG67⟩ := Kd.R_form HL272_0.out (by omega))); (try (first | cases eo67 | (injection eo67 with ea_ en_ ec_; (first | subst ea_ | (injection ea_ with ea_; subst ea_)); subst ec_; clear en_))); (try (have GB67 := Aside0.mk gb67)); (try (have GG67 := Aside0.mk HG67)); (try (clear gb67 gl67 HG67)); (try (first | simp only [add_plain] at hx237_0 | skip)); (try (obtain ⟨hx67_0, hf67_0⟩ := Kd.R_celln 0 HL272_0.out (x7_2 : Int) p67 q67)); (try (replace p67 := eq_true p67)); (try (replace q67 := eq_true q67)); (try (have hq68 : (x6_1 : Int) < (x5_2.length : Int) := (by have h_ : (x6_1 : Int) < ((x5_2.length : Int) : Int) := of_decide_eq_true (by first | (with_reducible assumption) | assumption); first | exact h_ | (have e_ := (Kd.S_reads' HO_5.out).1; omega) | simpa only [List.length_set, List.length_set] using h_))); (try (obtain ⟨oki68, ce68, hcl68, hM68, hcc68, hok68, hbk68⟩ := Kd.S_borrow HO_5.out [] (x6_1 : Int) (of_decide_eq_true (by first | (with_reducible assumption) | assumption)) hq68)); (try (obtain ⟨ve68_0, rfl, ge68_0⟩ := hM68)); (try (have hv68 := hcc68 0 _ rfl)); (try (rw [Nat.add_zero, show ((Kd.slice 3 (Kd.int .i64))).sz = 1 from rfl, Nat.mul_one] at hv68)); (try (replace hv68 := Option.some.inj (hv68.symm.trans HX272_0.out))); (try (subst hv68)); (try (clear hcc68 hcl68)); (try (replace ge68_0 := (show Kd.R (Kd.int .i64) 3 _ _ _ _ (rd_L4 x5_2 x6_1) from ge68_0))); (try (have HP68 := Kd.R_putg ge68_0 (x7_2 : Int) (rd (rd_L4 x5_2 (ji25)) x7_2))))); refine store_event (t := 3) (p := 102) (v := ?vo_w69) (w1 := (wr.setCell ⟨go67, (x7_2 : Int).toNat, none⟩ (.int .i64 (rd (rd_L4 x5_2 (ji25)) x7_2)))) ?hg ?ho ?hn ?hr ?_; (case ho => rfl); (case hg => rfl); (case hn => rfl); (case hr => first | (go_simp; done) | (go_simp; rfl)); intro w69 hw; have hg : wr.grownBy w69 (some go67) := (by rw [hw]; exact HP68.2); have hz_ : Kd.R (Kd.int .i64) 3 w69 w.heap.size oki68 (.slice (some ⟨go67, 0, none⟩) (rd_L4 x5_2 x6_1).length c236_0) y273 := (by rw [hw, Ny273.out]; exact HP68.1); have hp_ : Kd.S (Kd.slice 3 (Kd.int .i64)) 23 w69 w.heap.size (fun _ => True) (.slice (some ⟨go14, 0, none⟩) x5_2.length co14) y275 := (by rw [Ny275.out]; exact hbk68 hg (fun k_ e_ => by injection e_ with e_; subst e_; exact ge68_0.1 _ rfl) (Kd.M_row hz_)); have hm_ := Kd.R_mono hz_ hok68; clear HP68 hbk68; have n0_ := Aside0.mk (hp_); have n1_ := Aside0.mk ((by rw [hw]; exact below_set (HB.out) GB67.out : Below w.heap.size w w69)); have n2_ := Aside0.mk (hm_); have n3_ := Aside0.mk ((Kd.R_reads' hm_).2.1); clear HO_5; clear HB; clear HL234_0; clear HL236_0; clear HL272_0; have HO_5 := n0_; have HB := n1_; have HL281 := n2_; have HC274 := n3_; clear n0_ n1_ n2_ n3_; clear hg hw hp_ hz_ hm_ hok68)); try go_wp2_with (first | ((with_reducible refine gate_store (t := 3) (p := 102) rfl ?_); (try (rw [drewN_self wr]; generalize hq_ : World.drewN wr _ = wr; have n0_ := Aside0.mk (Kd.S_at hq_ HO_5.out); have n1_ := Aside0.mk (Kd.R_at hq_ HL234_0.out); have n2_ := Aside0.mk (Kd.R_at hq_ HL236_0.out); have n3_ := Aside0.mk (Kd.R_at hq_ HL272_0.out); have n4_ := Aside0.mk (Kd.C_at hq_ HR234_0.out); have n5_ := Aside0.mk (Kd.C_at hq_ HR236_0.out); have n6_ := Aside0.mk (Kd.C_at hq_ HR272_0.out); have n7_ := Aside0.mk (cell_at hq_ HX234_0.out); have n8_ := Aside0.mk (cell_at hq_ HX236_0.out); have n9_ := Aside0.mk (cell_at hq_ HX272_0.out); have n10_ := Aside0.mk (below_at hq_ HB.out); clear hq_ HO_5 HL234_0 HL236_0 HL272_0 HR234_0 HR236_0 HR272_0 HX234_0 HX236_0 HX272_0 HB; have HO_5 := n0_; have HL234_0 := n1_; have HL236_0 := n2_; have HL272_0 := n3_; have HR234_0 := n4_; have HR236_0 := n5_; have HR272_0 := n6_; have HX234_0 := n7_; have HX236_0 := n8_; have HX272_0 := n9_; have HB := n10_; clear n0_ n1_ n2_ n3_ n4_ n5_ n6_ n7_ n8_ n9_ n10_; (try (have p67 : 0 ≤ (x7_2 : Int) := of_decide_eq_true (by first | (with_reducible assumption) | assumption))); (try (have q67 : (x7_2 : Int) < (((rd_L4 x5_2 x6_1).length : Int) : Int) := of_decide_eq_true (by first | (with_reducible assumption) | assumption))); (try (obtain ⟨go67, co67, eo67, gb67, gl67, cl67, HG67⟩ := Kd.R_form HL272_0.out (by omega))); (try (first | cases eo67 | (injection eo67 with ea_ en_ ec_; (first | subst ea_ | (injection ea_ with ea_; subst ea_)); subst ec_; clear en_))); (try (have GB67 := Aside0.mk gb67)); (try (have GG67 := Aside0.mk HG67)); (try (clear gb67 gl67 HG67)); (try (first | simp only [add_plain] at hx237_0 | skip)); (try (obtain ⟨hx67_0, hf67_0⟩ := Kd.R_celln 0 HL272_0.out (x7_2 : Int) p67 q67)); (try (replace p67 := eq_true p67)); (try (replace q67 := eq_true q67)); (try (have hq68 : (x6_1 : Int) < (x5_2.length : Int) := (by have h_ : (x6_1 : Int) < ((x5_2.length : Int) : Int) := of_decide_eq_true (by first | (with_reducible assumption) | assumption); first | exact h_ | (have e_ := (Kd.S_reads' HO_5.out).1; omega) | simpa only [List.length_set, List.length_set] using h_))); (try (obtain ⟨oki68, ce68, hcl68, hM68, hcc68, hok68, hbk68⟩ := Kd.S_borrow HO_5.out [] (x6_1 : Int) (of_decide_eq_true (by first | (with_reducible assumption) | assumption)) hq68)); (try (obtain ⟨ve68_0, rfl, ge68_0⟩ := hM68)); (try (have hv68 := hcc68 0 _ rfl)); (try (rw [Nat.add_zero, show ((Kd.slice 3 (Kd.int .i64))).sz = 1 from rfl, Nat.mul_one] at hv68)); (try (replace hv68 := Option.some.inj (hv68.symm.trans HX272_0.out))); (try (subst hv68)); (try (clear hcc68 hcl68)); (try (replace ge68_0 := (show Kd.R (Kd.int .i64) 3 _ _ _ _ (rd_L4 x5_2 x6_1) from ge68_0))); (try (have HP68 := Kd.R_putg ge68_0 (x7_2 : Int) (rd (rd_L4 x5_2 (ji25)) x7_2))))); refine store_event (t := 3) (p := 102) (v := ?vo_w69) (w1 := (wr.setCell ⟨go67, (x7_2 : Int).toNat, none⟩ (.int .i64 (rd (rd_L4 x5_2 (ji25)) x7_2)))) ?hg ?ho ?hn ?hr ?_; (case ho => rfl); (case hg => rfl); (case hn => rfl); (case hr => first | (go_simp; done) | (go_simp; rfl)); intro w69 hw; have hg : wr.grownBy w69 (some go67) := (by rw [hw]; exact HP68.2); have hz_ : Kd.R (Kd.int .i64) 3 w69 w.heap.size oki68 (.slice (some ⟨go67, 0, none⟩) (rd_L4 x5_2 x6_1).length c236_0) y273 := (by rw [hw, Ny273.out]; exact HP68.1); have hp_ : Kd.S (Kd.slice 3 (Kd.int .i64)) 23 w69 w.heap.size (fun _ => True) (.slice (some ⟨go14, 0, none⟩) x5_2.length co14) y275 := (by rw [Ny275.out]; exact hbk68 hg (fun k_ e_ => by injection e_ with e_; subst e_; exact ge68_0.1 _ rfl) (Kd.M_row hz_)); have hm_ := Kd.R_mono hz_ hok68; clear HP68 hbk68; have n0_ := Aside0.mk (hp_); have n1_ := Aside0.mk ((by rw [hw]; exact below_set (HB.out) GB67.out : Below w.heap.size w w69)); have n2_ := Aside0.mk (hm_); have n3_ := Aside0.mk ((Kd.R_reads' hm_).2.1); clear HO_5; clear HB; clear HL234_0; clear HL236_0; clear HL272_0; have HO_5 := n0_; have HB := n1_; have HL281 := n2_; have HC274 := n3_; clear n0_ n1_ n2_ n3_; clear hg hw hp_ hz_ hm_ hok68)))
                                       (try simp only [← hl5_2])
                                       go_roundg k2
                                       case measure => have := HK1.out; have := HK2.out; omega
                                       case rel => exact ⟨(y275), (wrap64 (x7_2 - 1)), (by first | rfl | (simp; done) | (simp [*]; done)), H', ⟨by have := HK1.out; have := HK2.out; omega⟩, ⟨by (try simp only [hl5_2]); (with_reducible repeat (first | apply Kd.S_alloc | apply Kd.S_drewN | apply Kd.S_drew)); exact HO_5.out⟩, ⟨by repeat (first | (with_reducible first | exact HB.out | apply below_alloc | apply pw_below_drewN | apply below_drew1) | exact HB.out)⟩⟩
                                     rw [if_neg c66] at H
                                     exact absurd H (by simp)
                                   rw [if_neg c54] at H
                                   exact absurd H (by simp)
                                 rw [if_neg c53] at H
                                 exact absurd H (by simp)
                               rw [if_neg c34] at H
                               exact absurd H (by simp)
                             rw [if_neg c33] at H
                             exact absurd H (by simp)
                           rw [if_neg c31] at H
                           exact absurd H (by simp)
                         rw [if_neg c30] at H
                         exact absurd H (by simp)
                       rw [if_neg c29] at H
                       exact absurd H (by simp)
                     rw [if_neg c28] at H
                     exact absurd H (by simp)
                   rw [if_neg c27] at H
                   exact absurd H (by simp)
                 rw [if_neg c26] at H
                 exact absurd H (by simp)
               rw [if_neg c24] at H
               have c24b0 : decide (0 ≤ x7_2) = false := decide_eq_false c24
               clear c24
               have H' := Aside0.mk H
               clear H
               go_wp2
               repeat (go_quiet (fail); try go_wp2)
               (try simp only [← hl5_2])
               go_roundg k2
               case measure => have := HK1.out; have := HK2.out; omega
               case rel => exact ⟨(x5_2), (wrap64 (x6_1 - 1)), (by first | rfl | (simp; done) | (simp [*]; done)), H', ⟨by have := HK1.out; have := HK2.out; omega⟩, ⟨by (try simp only [hl5_2]); (with_reducible repeat (first | apply Kd.S_alloc | apply Kd.S_drewN | apply Kd.S_drew)); exact HO_5.out⟩, ⟨by repeat (first | (with_reducible first | exact HB.out | apply below_alloc | apply pw_below_drewN | apply below_drew1) | exact HB.out)⟩⟩
             rw [if_neg c13] at H
             exact absurd H (by simp)
           rw [if_neg c12] at H
           exact absurd H (by simp)
         rw [if_neg c11] at H
         exact absurd H (by simp)
       rw [if_neg c10] at H
       exact absurd H (by simp)
     rw [if_neg c8] at H
     have c8b0 : decide (0 ≤ x6_1) = false := decide_eq_false c8
     clear c8
     obtain rfl := Option.some.inj H
     go_wp2
     repeat (go_quiet (fail); try go_wp2)
     go_ret
     exact ⟨_, by first | rfl | (simp [errW_none, errW_some] <;> rfl) | (simp only [← hji3]; first | rfl | (simp [errW_none, errW_some] <;> rfl)) | (simp [*, errW_none, errW_some] <;> rfl), by (with_reducible repeat (first | apply Kd.S_alloc | apply Kd.S_drewN | apply Kd.S_drew)); exact HO_5.out, by repeat (first | (with_reducible first | exact HB.out | apply below_alloc | apply pw_below_drewN | apply below_drew1) | exact HB.out)⟩
   rw [if_neg c5] at H
   exact absurd H (by simp)
 rw [if_neg c4] at H
 exact absurd H (by simp)
end Go.Proofs.Ytidnkaopndmigaa.P
