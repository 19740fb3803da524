/- The program's functions as plain Lean functions, each with the proof that the program's call comes to what it says; written by a program of this session out of the translation. -/
import Derived.Test.YtidnkaopndmigaaPx0
import Derived.Test.YtidnkaopndmigaaPx5
import Derived.Test.YtidnkaopndmigaaPx6
namespace Go.Proofs.Ytidnkaopndmigaa.P
open Go.RowKit Go.Proofs.YtidnkaopndmigaaW.PrintWords Go.Proofs.YtidnkaopndmigaaW.PrintLast Go.Proofs.YtidnkaopndmigaaW.PrintMore
attribute [local go_sem] max2_int min2_int max_two min_two max_three min_three max_four min_four   -- for this text's walks alone
set_option linter.unusedVariables false
set_option linter.unusedSimpArgs false

/-! ### changeforgelaw2_BlameNewest: function 6 -/
mutual
def changeforgelaw2_BlameNewest.j0 : Nat → List (List ByteArray) → List Int → Int → Bool → Option (Bool)
  | 0, _, _, _, _ => none
  | k + 1, x0, x3, x5, x24 => if x24 = true then ((changeforgelaw2_added.f k).bind fun t399 => (some t399)) else (if 0 ≤ (wrap64 (x5 - 2)) then (if (wrap64 (x5 - 2)) < (x0.length : Int) then (if 0 ≤ (wrap64 (x5 - 1)) then (if (wrap64 (x5 - 1)) < (x0.length : Int) then ((diff_Script.f k (rd_L5 x0 (wrap64 (x5 - 2))) (rd_L5 x0 (wrap64 (x5 - 1)))).bind fun bt402 => (changeforgelaw2_BlameNewest.l0 k x3 x5 0 0 bt402.1 bt402.2.1 bt402.2.2)) else (none)) else (none)) else (none)) else (none))
def changeforgelaw2_BlameNewest.l0 : Nat → List Int → Int → Int → Int → List (S42) → Int → Int → Option (Bool)
  | 0, _, _, _, _, _, _, _ => none
  | k + 1, x3, x5, x8, x9, x408000, x409000, x409001 => if x9 < (x408000.length : Int) then (if 0 ≤ x9 then (changeforgelaw2_BlameNewest.l0 k x3 x5 (wrap64 (x8 + (((rd_T42 x408000 x9).f2).length : Int))) (wrap64 (x9 + 1)) x408000 x409000 x409001) else (none)) else (changeforgelaw2_BlameNewest.l1 k x3 x5 x8 0 x409000 x409001)
def changeforgelaw2_BlameNewest.l1 : Nat → List Int → Int → Int → Int → Int → Int → Option (Bool)
  | 0, _, _, _, _, _, _ => none
  | k + 1, x3, x5, x8, x10, x409000, x409001 => if x10 < (x3.length : Int) then (if 0 ≤ x10 then (if (rd x3 x10) = (wrap64 (x5 - 1)) then (changeforgelaw2_BlameNewest.l1 k x3 x5 (wrap64 (x8 - 1)) (wrap64 (x10 + 1)) x409000 x409001) else (changeforgelaw2_BlameNewest.l1 k x3 x5 x8 (wrap64 (x10 + 1)) x409000 x409001)) else (none)) else (if x409000 = 0 then (if x8 = 0 then ((changeforgelaw2_added.f k).bind fun t411 => (some t411)) else (some false)) else (some false))
end
def changeforgelaw2_BlameNewest.f (k : Nat) (l0 : List (List ByteArray)) : Option (Bool) := (blame_Annotate.f k l0).bind fun bt393 => (if bt393.2.1 = 0 then (changeforgelaw2_BlameNewest.j0 k l0 bt393.1 (l0.length : Int) (decide ((l0.length : Int) < 2))) else (changeforgelaw2_BlameNewest.j0 k l0 bt393.1 (l0.length : Int) true))
theorem changeforgelaw2_BlameNewest.mono_l : ∀ k, (∀ y0 y1 y2 y3, LeO (changeforgelaw2_BlameNewest.j0 k y0 y1 y2 y3) (changeforgelaw2_BlameNewest.j0 (k + 1) y0 y1 y2 y3)) ∧ (∀ y0 y1 y2 y3 y4 y5 y6, LeO (changeforgelaw2_BlameNewest.l0 k y0 y1 y2 y3 y4 y5 y6) (changeforgelaw2_BlameNewest.l0 (k + 1) y0 y1 y2 y3 y4 y5 y6)) ∧ (∀ y0 y1 y2 y3 y4 y5, LeO (changeforgelaw2_BlameNewest.l1 k y0 y1 y2 y3 y4 y5) (changeforgelaw2_BlameNewest.l1 (k + 1) y0 y1 y2 y3 y4 y5))
  | 0 => ⟨fun _ _ _ _ r h => by simp [changeforgelaw2_BlameNewest.j0] at h, fun _ _ _ _ _ _ _ r h => by simp [changeforgelaw2_BlameNewest.l0] at h, fun _ _ _ _ _ _ r h => by simp [changeforgelaw2_BlameNewest.l1] at h⟩
  | k + 1 => by
    obtain ⟨ih0, ih1, ih2⟩ := changeforgelaw2_BlameNewest.mono_l k
    refine ⟨?_, ?_, ?_⟩
    · intro y0 y1 y2 y3
      unfold changeforgelaw2_BlameNewest.j0
      repeat' first
      | (with_reducible exact ih0 _ _ _ _)
      | (with_reducible exact ih1 _ _ _ _ _ _ _)
      | (with_reducible exact ih2 _ _ _ _ _ _)
      | (with_reducible exact blame_Annotate.mono _ _)
      | (with_reducible exact changeforgelaw2_added.mono _)
      | (with_reducible exact diff_Script.mono _ _ _)
      | (with_reducible exact LeO.refl _)
      | (with_reducible exact LeO.none _)
      | (with_reducible refine LeO.ite ?_ ?_)
      | (with_reducible refine LeO.bind ?_ (fun _ => ?_))
      | exact ih0 _ _ _ _
      | exact ih1 _ _ _ _ _ _ _
      | exact ih2 _ _ _ _ _ _
      | exact blame_Annotate.mono _ _
      | exact changeforgelaw2_added.mono _
      | exact diff_Script.mono _ _ _
      | exact LeO.none _
      | refine LeO.ite ?_ ?_
      | refine LeO.bind ?_ (fun _ => ?_)
    · intro y0 y1 y2 y3 y4 y5 y6
      unfold changeforgelaw2_BlameNewest.l0
      repeat' first
      | (with_reducible exact ih0 _ _ _ _)
      | (with_reducible exact ih1 _ _ _ _ _ _ _)
      | (with_reducible exact ih2 _ _ _ _ _ _)
      | (with_reducible exact blame_Annotate.mono _ _)
      | (with_reducible exact changeforgelaw2_added.mono _)
      | (with_reducible exact diff_Script.mono _ _ _)
      | (with_reducible exact LeO.refl _)
      | (with_reducible exact LeO.none _)
      | (with_reducible refine LeO.ite ?_ ?_)
      | (with_reducible refine LeO.bind ?_ (fun _ => ?_))
      | exact ih0 _ _ _ _
      | exact ih1 _ _ _ _ _ _ _
      | exact ih2 _ _ _ _ _ _
      | exact blame_Annotate.mono _ _
      | exact changeforgelaw2_added.mono _
      | exact diff_Script.mono _ _ _
      | exact LeO.none _
      | refine LeO.ite ?_ ?_
      | refine LeO.bind ?_ (fun _ => ?_)
    · intro y0 y1 y2 y3 y4 y5
      unfold changeforgelaw2_BlameNewest.l1
      repeat' first
      | (with_reducible exact ih0 _ _ _ _)
      | (with_reducible exact ih1 _ _ _ _ _ _ _)
      | (with_reducible exact ih2 _ _ _ _ _ _)
      | (with_reducible exact blame_Annotate.mono _ _)
      | (with_reducible exact changeforgelaw2_added.mono _)
      | (with_reducible exact diff_Script.mono _ _ _)
      | (with_reducible exact LeO.refl _)
      | (with_reducible exact LeO.none _)
      | (with_reducible refine LeO.ite ?_ ?_)
      | (with_reducible refine LeO.bind ?_ (fun _ => ?_))
      | exact ih0 _ _ _ _
      | exact ih1 _ _ _ _ _ _ _
      | exact ih2 _ _ _ _ _ _
      | exact blame_Annotate.mono _ _
      | exact changeforgelaw2_added.mono _
      | exact diff_Script.mono _ _ _
      | exact LeO.none _
      | refine LeO.ite ?_ ?_
      | refine LeO.bind ?_ (fun _ => ?_)
theorem changeforgelaw2_BlameNewest.mono : ∀ a0 k, LeO (changeforgelaw2_BlameNewest.f k a0) (changeforgelaw2_BlameNewest.f (k + 1) a0) := by
 intro a0 k
 obtain ⟨ih0, ih1, ih2⟩ := changeforgelaw2_BlameNewest.mono_l k
 unfold changeforgelaw2_BlameNewest.f
 repeat' first
  | (with_reducible exact ih0 _ _ _ _)
  | (with_reducible exact ih1 _ _ _ _ _ _ _)
  | (with_reducible exact ih2 _ _ _ _ _ _)
  | (with_reducible exact blame_Annotate.mono _ _)
  | (with_reducible exact changeforgelaw2_added.mono _)
  | (with_reducible exact diff_Script.mono _ _ _)
  | (with_reducible exact LeO.refl _)
  | (with_reducible exact LeO.none _)
  | (with_reducible refine LeO.ite ?_ ?_)
  | (with_reducible refine LeO.bind ?_ (fun _ => ?_))
  | exact ih0 _ _ _ _
  | exact ih1 _ _ _ _ _ _ _
  | exact ih2 _ _ _ _ _ _
  | exact blame_Annotate.mono _ _
  | exact changeforgelaw2_added.mono _
  | exact diff_Script.mono _ _ _
  | exact LeO.none _
  | refine LeO.ite ?_ ?_
  | refine LeO.bind ?_ (fun _ => ?_)
def changeforgelaw2_BlameNewest.T5 : Bool × List (List Nat × List Nat) := (true, [([], []), ([], []), ([1], [1]), ([0, 2], [0, 2]), ([3], [3]), ([], []), ([], []), ([6], [6]), ([5, 7], [5, 7]), ([8], [8]), ([4, 9], [4, 9]), ([10], [10]), ([11], [11]), ([11], [11]), ([], []), ([], []), ([14, 12, 10, 0, 1, 2, 3, 4, 5, 6, 7, 8, 9, 10, 11, 12, 14, 15], [12, 14]), ([15, 13, 16, 0, 1, 2, 3, 4, 5, 6, 7, 8, 9, 10, 11, 12, 13, 14, 15, 16], [13, 15])])
def changeforgelaw2_BlameNewest.B5 : List Nat := [0, 0, 2, 7, 15, 0, 0, 64, 224, 480, 1023, 2047, 4095, 4095, 0, 0, 57343, 131071]
theorem changeforgelaw2_BlameNewest.tab5 : rtab .any (opsOf Try.f6 5) = changeforgelaw2_BlameNewest.T5 := by kernel_rfl
theorem changeforgelaw2_BlameNewest.bits5 : waitsOk changeforgelaw2_BlameNewest.T5.2 changeforgelaw2_BlameNewest.B5 = true := by kernel_rfl
set_option maxHeartbeats 8000000 in
set_option maxRecDepth 100000 in
theorem changeforgelaw2_BlameNewest.calls (k : Nat) (A0 : Option Addr) (c0 : Nat) (l0 : List (List ByteArray)) (r : Bool) (w : World) (hr0 : Kd.C (Kd.slice 9 Kd.string) w A0 l0.length l0) (hc0 : l0.length ≤ c0) (h : changeforgelaw2_BlameNewest.f k l0 = some r) :
    Calls Try.prog 6 #[.slice A0 l0.length c0] w fun e w' => e = .returned (.bool r) ∧ Below w.heap.size w w' := by
 have hu25 := Try.underlying25
 have hu38 := Try.underlying38
 have HR0 := Aside0.mk hr0
 have HC0 := Aside0.mk hc0
 clear hr0 hc0
 have HB := Aside0.mk (Below.refl w.heap.size w)
 have H : ((blame_Annotate.f k l0).bind fun bt393 => (if bt393.2.1 = 0 then (changeforgelaw2_BlameNewest.j0 k l0 bt393.1 (l0.length : Int) (decide ((l0.length : Int) < 2))) else (changeforgelaw2_BlameNewest.j0 k l0 bt393.1 (l0.length : Int) true))) = some r := h
 clear h
 replace H := Option.bind_eq_some_iff.mp H
 obtain ⟨⟨t393, t396, t397⟩, A20, H⟩ := H
 replace H : (if t396 = 0 then (changeforgelaw2_BlameNewest.j0 k l0 t393 (l0.length : Int) (decide ((l0.length : Int) < 2))) else (changeforgelaw2_BlameNewest.j0 k l0 t393 (l0.length : Int) true)) = some r := H
 have A2 := Aside0.mk A20
 clear A20
 have HC3 := Aside0.mk H
 clear H
 go_enter Try.func6, Try.ntmps6
 go_upto_region 3 with (first | ((with_reducible refine gate_callee (f := 8) rfl ?_); refine goesL_ (some 13) rfl rfl Try.func8 (by kernel_rfl) rfl #[.slice A0 l0.length c0] rfl (by (try simp only [List.map_toArray, List.map_cons, List.map_nil]); first | done | rfl | (simp only [List.length_drop, List.length_take]; rfl)) ?_; (with_reducible refine (blame_Annotate.calls k (fun k_ => k_ < w.heap.size) _ _ l0 t393 t396 t397 _ ?side1 A2.out).mono ?_); (case side1 => exact Kd.V_mk HC0.out (Kd.F_below (Kd.C_F (Kd.heap_slice 9 Kd.heap_string) HR0.out) (by repeat (first | (with_reducible first | exact HB.out | apply below_alloc | apply pw_below_drewN | apply below_drew1) | exact HB.out)))); rintro e w4 ⟨v394, rfl, ho0, hb⟩; refine ⟨_, rfl, ?_⟩; have n0_ := Aside0.mk (Kd.R_lower (Kd.R_mono (ok' := fun k_ => True) ho0 (fun _ hk_ => trivial)) (below_size (by repeat (first | (with_reducible first | exact HB.out | apply below_alloc | apply pw_below_drewN | apply below_drew1) | exact HB.out)))); have n1_ := Aside0.mk (below_step (by repeat (first | (with_reducible first | exact HB.out | apply below_alloc | apply pw_below_drewN | apply below_drew1) | exact HB.out)) hb); clear HB; have HO395 := n0_; have HB := n1_; clear n0_ n1_; (try clear hb); (try clear hb2); (try clear hk); (try clear hi); (try clear ho0)) | ((with_reducible refine gate_dst (N := 4) rfl ?_); refine box_event ?hg (N := 4) ?hd (cs := #[.int .i64 0, .int .i64 0]) (t := 25) ?hr ?_; (case hd => rfl); (case hg => rfl); (case hr => first | (go_simp; done) | (go_simp; rfl)); intro gb398 hg w5 hbox hb; have n0_ := Aside0.mk (Kd.R_below (by (with_reducible repeat (first | apply Kd.R_alloc | apply Kd.R_drewN | apply Kd.R_drew)); exact HO395.out) hb); have n1_ := Aside0.mk (below_step (by repeat (first | (with_reducible first | exact HB.out | apply below_alloc | apply pw_below_drewN | apply below_drew1) | exact HB.out)) hb); have n2_ := Aside0.mk (hbox); have n3_ := Aside0.mk ((by rw [hg]; exact (below_size (by repeat (first | (with_reducible first | exact HB.out | apply below_alloc | apply pw_below_drewN | apply below_drew1) | exact HB.out))) : w.heap.size ≤ gb398)); have n4_ := Aside0.mk ((by rw [hg]; exact (below_size (by repeat (first | (with_reducible first | exact HB.out | apply below_alloc | apply pw_below_drewN | apply below_drew1) | exact HB.out))) : w.heap.size ≤ gb398)); clear HO395; clear HB; have HO395 := n0_; have HB := n1_; have BK398 := n2_; have GW398 := n3_; have GE398 := n4_; clear n0_ n1_ n2_ n3_ n4_; clear hb hbox hg; have hcz6_0 : w5.cell? ⟨gb398, 0, none⟩ = some (.int .i64 0) := (blk_cell BK398.out 0).trans rfl; have hcz6_1 : w5.cell? ⟨gb398, 1, none⟩ = some (.int .i64 0) := (blk_cell BK398.out 1).trans rfl; have hfz6_0 := blk_frozen BK398.out 0; have hfz6_1 := blk_frozen BK398.out 1))
 (try simp only [Act.put, List.setIfInBounds_toArray, List.set_cons_zero, List.set_cons_succ])
 go_cut [24] (fun v24 wc => ∃ (kq : Nat) (x24_2 : Bool), v24 = .bool x24_2 ∧ Aside0 (changeforgelaw2_BlameNewest.j0 kq l0 t393 (l0.length : Int) x24_2 = some r) ∧ Aside0 (kq ≤ k) ∧ Aside0 (Kd.R (Kd.int .i64) 3 wc w.heap.size (fun _ => True) v394 t393) ∧ Aside0 (Below w.heap.size w wc))
 case first =>
  have H := HC3.out
  clear HC3
  by_cases c7 : t396 = 0
  · rw [if_pos c7] at H
    have c7b0 : (t396 == 0) = true := beq_iff_eq.mpr c7
    have c7b1 : (t396 != 0) = false := bne_eq_false_iff_eq.mpr c7
    clear c7
    (first | rw [c7b0] | (simp only [i64_w, i32_w]; rw [c7b0]) | skip)
    have H' := Aside0.mk H
    clear H
    have hcz8_0 : w5.cell? ⟨gb398, 0, none⟩ = some (.int .i64 0) := (blk_cell BK398.out 0).trans rfl
    have hcz8_1 : w5.cell? ⟨gb398, 1, none⟩ = some (.int .i64 0) := (blk_cell BK398.out 1).trans rfl
    have hfz8_0 := blk_frozen BK398.out 0
    have hfz8_1 := blk_frozen BK398.out 1
    go_wp2
    go_meet
    case rel => exact ⟨_, (decide ((l0.length : Int) < 2)), (by first | rfl | (simp; done) | (simp [*]; done)), H', ⟨by first | omega | exact Nat.le_refl _⟩, ⟨by (with_reducible repeat (first | apply Kd.R_alloc | apply Kd.R_drewN | apply Kd.R_drew)); exact Kd.R_mono (Kd.R_far (p := ⟨gb398, 1, none⟩) (Kd.R_far (p := ⟨gb398, 0, none⟩) (Kd.R_types HO395.out BK398.out (by decide)) (fun _ hk => hk.2) (.int .i64 t396)) (fun _ hk => hk.2) (.int .i64 t397)) (fun _ hk => trivial)⟩, ⟨by repeat (first | (with_reducible first | exact HB.out | apply below_alloc | apply pw_below_drewN | apply below_drew1 | refine below_set ?_ GE398.out) | exact HB.out)⟩⟩
  rw [if_neg c7] at H
  have c7b0 : (t396 == 0) = false := beq_eq_false_iff_ne.mpr c7
  have c7b1 : (t396 != 0) = true := bne_iff_ne.mpr c7
  (first | rw [c7b0] | (simp only [i64_w, i32_w]; rw [c7b0]) | skip)
  have H' := Aside0.mk H
  clear H
  have hcz9_0 : w5.cell? ⟨gb398, 0, none⟩ = some (.int .i64 0) := (blk_cell BK398.out 0).trans rfl
  have hcz9_1 : w5.cell? ⟨gb398, 1, none⟩ = some (.int .i64 0) := (blk_cell BK398.out 1).trans rfl
  have hfz9_0 := blk_frozen BK398.out 0
  have hfz9_1 := blk_frozen BK398.out 1
  go_wp2
  go_meet
  case rel => exact ⟨_, (true), (by first | rfl | (simp; done) | (simp [*]; done)), H', ⟨by first | omega | exact Nat.le_refl _⟩, ⟨by (with_reducible repeat (first | apply Kd.R_alloc | apply Kd.R_drewN | apply Kd.R_drew)); exact Kd.R_mono (Kd.R_far (p := ⟨gb398, 1, none⟩) (Kd.R_far (p := ⟨gb398, 0, none⟩) (Kd.R_types HO395.out BK398.out (by decide)) (fun _ hk => hk.2) (.int .i64 t396)) (fun _ hk => hk.2) (.int .i64 t397)) (fun _ hk => trivial)⟩, ⟨by repeat (first | (with_reducible first | exact HB.out | apply below_alloc | apply pw_below_drewN | apply below_drew1 | refine below_set ?_ GE398.out) | exact HB.out)⟩⟩
 clear HC3
 try clear p2
 try clear c6
 try clear c7
 try clear c7b0
 try clear c7b1
 try clear c8
 try clear hcz6_0
 try clear hcz6_1
 try clear hcz8_0
 try clear hcz8_1
 try clear hcz9_0
 try clear hcz9_1
 try clear hfz6_0
 try clear hfz6_1
 try clear hfz8_0
 try clear hfz8_1
 try clear hfz9_0
 try clear hfz9_1
 obtain ⟨kq, x24_2, rfl, HA, HJ2, HO_3, HB⟩ := hcut
 cases kq with
 | zero => exact absurd HA.out (by simp [changeforgelaw2_BlameNewest.j0])
 | succ kj2 =>
 have H := HA.out
 clear HA
 simp only [changeforgelaw2_BlameNewest.j0] at H
 by_cases c10 : x24_2 = true
 · subst c10
   have H1 : ((changeforgelaw2_added.f kj2).bind fun t399 => (some t399)) = some r := by rw [if_pos rfl] at H; exact H
   clear H
   have H := H1
   clear H1
   replace H := Option.bind_eq_some_iff.mp H
   obtain ⟨t399, A110, H⟩ := H
   replace H : (some t399) = some r := H
   have A11 := Aside0.mk A110
   clear A110
   obtain rfl := Option.some.inj H
   go_wp2_with (first | ((with_reducible refine gate_callee (f := 10) rfl ?_); refine goesL_ (some 25) rfl rfl Try.func10 (by kernel_rfl) rfl #[] rfl (by (try simp only [List.map_toArray, List.map_cons, List.map_nil]); first | done | rfl | (simp only [List.length_drop, List.length_take]; rfl)) ?_; (with_reducible refine (changeforgelaw2_added.calls kj2  t399 _ A11.out).mono ?_); rintro e w12 ⟨rfl, hb⟩; refine ⟨_, rfl, ?_⟩; have n0_ := Aside0.mk (Kd.R_below (by (with_reducible repeat (first | apply Kd.R_alloc | apply Kd.R_drewN | apply Kd.R_drew)); exact HO_3.out) hb); have n1_ := Aside0.mk (below_step (by repeat (first | (with_reducible first | exact HB.out | apply below_alloc | apply pw_below_drewN | apply below_drew1) | exact HB.out)) hb); clear HO_3; clear HB; have HO_3 := n0_; have HB := n1_; clear n0_ n1_; (try clear hb); (try clear hb2); (try clear hk); (try clear hi)))
   go_ret
   exact ⟨by first | rfl | (simp [errW_none, errW_some] <;> rfl) | (simp [*, errW_none, errW_some] <;> rfl), by repeat (first | (with_reducible first | exact HB.out | apply below_alloc | apply pw_below_drewN | apply below_drew1) | exact HB.out)⟩
 replace c10 := Bool.eq_false_iff.mpr c10
 subst c10
 have H1 : (if 0 ≤ (wrap64 ((l0.length : Int) - 2)) then (if (wrap64 ((l0.length : Int) - 2)) < (l0.length : Int) then (if 0 ≤ (wrap64 ((l0.length : Int) - 1)) then (if (wrap64 ((l0.length : Int) - 1)) < (l0.length : Int) then ((diff_Script.f kj2 (rd_L5 l0 (wrap64 ((l0.length : Int) - 2))) (rd_L5 l0 (wrap64 ((l0.length : Int) - 1)))).bind fun bt402 => (changeforgelaw2_BlameNewest.l0 kj2 t393 (l0.length : Int) 0 0 bt402.1 bt402.2.1 bt402.2.2)) else (none)) else (none)) else (none)) else (none)) = some r := by rw [if_neg (show ¬ (false = true) by decide)] at H; exact H
 clear H
 have H := H1
 clear H1
 obtain ⟨ji13, hji13⟩ : ∃ j_ : Int, (wrap64 ((l0.length : Int) - 2)) = j_ := ⟨_, rfl⟩
 replace H : (if 0 ≤ (ji13) then (if (ji13) < (l0.length : Int) then (if 0 ≤ (wrap64 ((l0.length : Int) - 1)) then (if (wrap64 ((l0.length : Int) - 1)) < (l0.length : Int) then ((diff_Script.f kj2 (rd_L5 l0 (ji13)) (rd_L5 l0 (wrap64 ((l0.length : Int) - 1)))).bind fun bt402 => (changeforgelaw2_BlameNewest.l0 kj2 t393 (l0.length : Int) 0 0 bt402.1 bt402.2.1 bt402.2.2)) else (none)) else (none)) else (none)) else (none)) = some r := by first | (rw [hji13] at H; exact H) | (simp only [hji13] at H ⊢; exact H)
 have hji13w : (IntKind.i64.wrap ((l0.length : Int) - 2)) = ji13 := (i64_w _).trans hji13
 by_cases c14 : 0 ≤ (ji13)
 · rw [if_pos c14] at H
   have c14b0 : decide (0 ≤ (ji13)) = true := decide_eq_true c14
   clear c14
   by_cases c15 : (ji13) < (l0.length : Int)
   · rw [if_pos c15] at H
     have c15b0 : decide ((ji13) < (l0.length : Int)) = true := decide_eq_true c15
     clear c15
     obtain ⟨ji16, hji16⟩ : ∃ j_ : Int, (wrap64 ((l0.length : Int) - 1)) = j_ := ⟨_, rfl⟩
     replace H : (if 0 ≤ (ji16) then (if (ji16) < (l0.length : Int) then ((diff_Script.f kj2 (rd_L5 l0 (ji13)) (rd_L5 l0 (ji16))).bind fun bt402 => (changeforgelaw2_BlameNewest.l0 kj2 t393 (l0.length : Int) 0 0 bt402.1 bt402.2.1 bt402.2.2)) else (none)) else (none)) = some r := by first | (rw [hji16] at H; exact H) | (simp only [hji16] at H ⊢; exact H)
     have hji16w : (IntKind.i64.wrap ((l0.length : Int) - 1)) = ji16 := (i64_w _).trans hji16
     by_cases c17 : 0 ≤ (ji16)
     · rw [if_pos c17] at H
       have c17b0 : decide (0 ≤ (ji16)) = true := decide_eq_true c17
       clear c17
       by_cases c18 : (ji16) < (l0.length : Int)
       · rw [if_pos c18] at H
         have c18b0 : decide ((ji16) < (l0.length : Int)) = true := decide_eq_true c18
         clear c18
         replace H := Option.bind_eq_some_iff.mp H
         obtain ⟨⟨t402, t405, t406⟩, A190, H⟩ := H
         replace H : (changeforgelaw2_BlameNewest.l0 kj2 t393 (l0.length : Int) 0 0 t402 t405 t406) = some r := H
         have A19 := Aside0.mk A190
         clear A190
         have H' := Aside0.mk H
         clear H
         try go_wp2
         have n0_ := Aside0.mk (Kd.R_drew HO_3.out)
         have n1_ := Aside0.mk (below_drew1 HB.out)
         clear HO_3
         clear HB
         have HO_3 := n0_
         have HB := n1_
         clear n0_ n1_
         have p400 : 0 ≤ ((ji13) : Int) := of_decide_eq_true (by first | (with_reducible assumption) | assumption)
         have q400 : (ji13) < (l0.length : Int) := of_decide_eq_true (by first | (with_reducible assumption) | assumption)
         obtain ⟨ad400, A400_0, c400_0, e400, hx400_0, hl400_0, hi400_0⟩ := at_L5 HR0.out (ji13) p400 q400
         have hw400_0 := hx400_0
         cases e400
         replace hx400_0 := (HB.out.cell (World.block_lt_of_cell? w _ hx400_0)).trans hx400_0
         have HR400_0 := Aside0.mk hi400_0
         have HC400_0 := Aside0.mk hl400_0
         clear hi400_0 hl400_0
         replace p400 := eq_true p400
         replace q400 := eq_true q400
         have p401 : 0 ≤ ((ji16) : Int) := of_decide_eq_true (by first | (with_reducible assumption) | assumption)
         have q401 : (ji16) < (l0.length : Int) := of_decide_eq_true (by first | (with_reducible assumption) | assumption)
         obtain ⟨ad401, A401_0, c401_0, e401, hx401_0, hl401_0, hi401_0⟩ := at_L5 HR0.out (ji16) p401 q401
         have hw401_0 := hx401_0
         obtain rfl : ad400 = ad401 := (by injection e401)
         replace hx401_0 := (HB.out.cell (World.block_lt_of_cell? w _ hx401_0)).trans hx401_0
         have HR401_0 := Aside0.mk hi401_0
         have HC401_0 := Aside0.mk hl401_0
         clear hi401_0 hl401_0
         replace p401 := eq_true p401
         replace q401 := eq_true q401
         refine start_ (n := 18) (S := fun w' => True) (ds := []) #[false, false, false, false, false, false, false, false, false, false, false, false, false, false, false, false, false, false] (by kernel_rfl) rfl rfl trivial (fun hHeld => ?_); refine with_tabW changeforgelaw2_BlameNewest.tab5 changeforgelaw2_BlameNewest.bits5 (fun HT_ HW_ => ?_)
         generalize wc.drew = w20 at HO_3 HB HR400_0 HR401_0 hx400_0 hx401_0 hHeld ⊢
         refine pure_ (i := 0) (N := some 27) (v := ?_) (a' := ?_) #[true, false, false, false, false, false, false, false, false, false, false, false, false, false, false, false, false, false] rfl rfl (any_of HT_.out (by kernel_rfl)) (fun _ _ _ h => h) (Or.inl ⟨by rfl, ?_⟩) ?_ ?_
         rotate_left
         · intro w'
           go_simp
           with_reducible rfl
         rotate_left
         · simp only [Act.put, List.setIfInBounds_toArray, List.set_cons_zero, List.set_cons_succ, i64_w, i32_w]
           rfl
         refine pure_ (i := 1) (N := some 28) (v := ?_) (a' := ?_) #[true, true, false, false, false, false, false, false, false, false, false, false, false, false, false, false, false, false] rfl rfl (any_of HT_.out (by kernel_rfl)) (fun _ _ _ h => h) (Or.inl ⟨by rfl, ?_⟩) ?_ ?_
         rotate_left
         · intro w'
           go_simp
           with_reducible rfl
         rotate_left
         · simp only [Act.put, List.setIfInBounds_toArray, List.set_cons_zero, List.set_cons_succ, i64_w, i32_w]
           rfl
         refine pure_ (i := 5) (N := some 32) (v := ?_) (a' := ?_) #[true, true, false, false, false, true, false, false, false, false, false, false, false, false, false, false, false, false] rfl rfl (any_of HT_.out (by kernel_rfl)) (fun _ _ _ h => h) (Or.inl ⟨by rfl, ?_⟩) ?_ ?_
         rotate_left
         · intro w'
           go_simp
           with_reducible rfl
         rotate_left
         · simp only [Act.put, List.setIfInBounds_toArray, List.set_cons_zero, List.set_cons_succ, i64_w, i32_w]
           rfl
         refine pure_ (i := 6) (N := some 33) (v := ?_) (a' := ?_) #[true, true, false, false, false, true, true, false, false, false, false, false, false, false, false, false, false, false] rfl rfl (any_of HT_.out (by kernel_rfl)) (fun _ _ _ h => h) (Or.inl ⟨by rfl, ?_⟩) ?_ ?_
         rotate_left
         · intro w'
           go_simp
           with_reducible rfl
         rotate_left
         · simp only [Act.put, List.setIfInBounds_toArray, List.set_cons_zero, List.set_cons_succ, i64_w, i32_w]
           rfl
         refine inv_at [2, 3, 4, 7, 8, 9, 10, 11, 12, 13, 14, 15, 16, 17] (fun a0_ b a w' => ∃ (v403 : Value) (gb407 : Nat) (gb408 : Nat) (m10_ : Value) (m11_ : Value) (m12_ : Value) (m14_ : Value) (m15_ : Value), a = putSel a0_ b [(2, 29, .int .i64 ji13), (3, 30, .pointer (some (ad400.add ((ji13)).toNat))), (4, 31, .slice A400_0 (rd_L5 l0 (ji13)).length c400_0), (7, 34, .int .i64 ji16), (8, 35, .pointer (some (ad400.add ((ji16)).toNat))), (9, 36, .slice A401_0 (rd_L5 l0 (ji16)).length c401_0), (10, 37, m10_), (11, 26, m11_), (12, 38, m12_), (13, 39, .agg #[.int .i64 t405, .int .i64 t406]), (14, 6, m14_), (15, 7, m15_)] ∧ (Kd.R (Kd.int .i64) 3 w' w.heap.size (fun _ => True) v394 t393) ∧ (Below w.heap.size w w') ∧ (b 14 = true → b 15 = true → gb408 ≠ gb407) ∧ (b 14 = true → b 15 = true → gb407 ≠ gb408) ∧ (b 10 = true → Kd.S k42 42 w' w.heap.size (fun _ => True) v403 t402) ∧ (b 14 = true → b 16 = false → w'.heap[gb407]? = some (.cells #[.slice none 0 0] 38 (0, 0))) ∧ (b 14 = true → w.heap.size ≤ gb407) ∧ (b 14 = true → w.heap.size ≤ gb407) ∧ (b 15 = true → b 17 = false → w'.heap[gb408]? = some (.cells #[.int .i64 0, .int .i64 0] 25 (0, 0))) ∧ (b 15 = true → w.heap.size ≤ gb408) ∧ (b 15 = true → w.heap.size ≤ gb408) ∧ (b 16 = true → w'.heap[gb407]? = some (.cells #[v403] 38 (0, 0))) ∧ (b 17 = true → w'.heap[gb408]? = some (.cells #[.int .i64 t405, .int .i64 t406] 25 (0, 0))) ∧ (b 10 = true → (m10_ : Value) = .tuple #[.agg #[v403], .agg #[.int .i64 t405, .int .i64 t406]]) ∧ (b 11 = true → (m11_ : Value) = .tuple #[.agg #[v403], .agg #[.int .i64 t405, .int .i64 t406]]) ∧ (b 12 = true → (m12_ : Value) = .agg #[v403]) ∧ (b 14 = true → (m14_ : Value) = .pointer (some ⟨gb407, 0, none⟩)) ∧ (b 15 = true → (m15_ : Value) = .pointer (some ⟨gb408, 0, none⟩))) HT_.out HW_.out (by kernel_rfl) (by kernel_rfl) ?_ ?_ ?_
         · exact ⟨.bool false, 0, 0, .bool false, .bool false, .bool false, .bool false, .bool false, by simp only [putSel, Bool.false_eq_true, if_false], HO_3.out, HB.out, fun h_ => absurd h_ (by decide), fun h_ => absurd h_ (by decide), fun h_ => absurd h_ (by decide), fun h_ => absurd h_ (by decide), fun h_ => absurd h_ (by decide), fun h_ => absurd h_ (by decide), fun h_ => absurd h_ (by decide), fun h_ => absurd h_ (by decide), fun h_ => absurd h_ (by decide), fun h_ => absurd h_ (by decide), fun h_ => absurd h_ (by decide), fun h_ => absurd h_ (by decide), fun h_ => absurd h_ (by decide), fun h_ => absurd h_ (by decide), fun h_ => absurd h_ (by decide), fun h_ => absurd h_ (by decide)⟩
         · skip
           clear HB HO_3
           refine steps_cons ?_ ?_
           · rintro b a w' ⟨v403, gb407, gb408, m10_, m11_, m12_, m14_, m15_, ha, Q_HO_3, Q_HB, Q_NB408_407, Q_NB407_408, Q_HO404, Q_BK407, Q_GW407, Q_GE407, Q_BK408, Q_GW408, Q_GE408, Q_BK407_e16, Q_BK408_e17, Q_X10_, Q_X11_, Q_X12_, Q_X14_, Q_X15_⟩ hb_ hon hoff
             refine ⟨_, rfl, fun K hK => ?_⟩
             have e28 : a.tmps[28]? = some (.int .i64 (l0.length : Int)) := by rw [ha]; exact (putSel_off rfl).trans rfl
             replace ha := Aside0.mk ha
             have HO_3 := Aside0.mk Q_HO_3
             have HB := Aside0.mk Q_HB
             refine value_ (w1 := w') (v := .int .i64 ji13) (by rfl) rfl ?_ ?_
             · go_simp
               (try simp only [i64_w])
               try rfl
             refine hK.out _ _ ⟨v403, gb407, gb408, m10_, m11_, m12_, m14_, m15_, (by rw [ha.out]; exact putSel_upk 0 hb_ rfl rfl rfl), Q_HO_3, Q_HB, Q_NB408_407, Q_NB407_408, fun h0_ => absurd ((hoff 10 (by kernel_rfl)).symm.trans h0_) (by decide), Q_BK407, Q_GW407, Q_GE407, Q_BK408, Q_GW408, Q_GE408, fun h0_ => absurd ((hoff 16 (by kernel_rfl)).symm.trans h0_) (by decide), fun h0_ => absurd ((hoff 17 (by kernel_rfl)).symm.trans h0_) (by decide), fun h0_ => absurd ((hoff 10 (by kernel_rfl)).symm.trans h0_) (by decide), fun h0_ => absurd ((hoff 11 (by kernel_rfl)).symm.trans h0_) (by decide), fun h0_ => absurd ((hoff 12 (by kernel_rfl)).symm.trans h0_) (by decide), Q_X14_, Q_X15_⟩
           refine steps_cons ?_ ?_
           · rintro b a w' ⟨v403, gb407, gb408, m10_, m11_, m12_, m14_, m15_, ha, Q_HO_3, Q_HB, Q_NB408_407, Q_NB407_408, Q_HO404, Q_BK407, Q_GW407, Q_GE407, Q_BK408, Q_GW408, Q_GE408, Q_BK407_e16, Q_BK408_e17, Q_X10_, Q_X11_, Q_X12_, Q_X14_, Q_X15_⟩ hb_ hon hoff
             refine ⟨_, rfl, fun K hK => ?_⟩
             have e27 : a.tmps[27]? = some (.slice (some ad400) l0.length c0) := by rw [ha]; exact (putSel_off rfl).trans rfl
             have e29 : a.tmps[29]? = some (.int .i64 ji13) := by rw [ha]; exact putSel_on (e := (2, 29, .int .i64 ji13)) 0 rfl rfl (hon 2 (by kernel_rfl)) rfl
             replace ha := Aside0.mk ha
             have HO_3 := Aside0.mk Q_HO_3
             have HB := Aside0.mk Q_HB
             have hs0_ : w'.cell? (ad400.add ((ji13)).toNat) = some (.slice A400_0 (rd_L5 l0 (ji13)).length c400_0) := ((HB.out.cell (World.block_lt_of_cell? w _ hw400_0)).trans hw400_0)
             refine value_ (w1 := w') (v := .pointer (some (ad400.add ((ji13)).toNat))) (by rfl) rfl ?_ ?_
             · go_simp
               (try simp only [i64_w])
               try rfl
             refine hK.out _ _ ⟨v403, gb407, gb408, m10_, m11_, m12_, m14_, m15_, (by rw [ha.out]; exact putSel_upk 1 hb_ rfl rfl rfl), Q_HO_3, Q_HB, Q_NB408_407, Q_NB407_408, fun h0_ => absurd ((hoff 10 (by kernel_rfl)).symm.trans h0_) (by decide), Q_BK407, Q_GW407, Q_GE407, Q_BK408, Q_GW408, Q_GE408, fun h0_ => absurd ((hoff 16 (by kernel_rfl)).symm.trans h0_) (by decide), fun h0_ => absurd ((hoff 17 (by kernel_rfl)).symm.trans h0_) (by decide), fun h0_ => absurd ((hoff 10 (by kernel_rfl)).symm.trans h0_) (by decide), fun h0_ => absurd ((hoff 11 (by kernel_rfl)).symm.trans h0_) (by decide), fun h0_ => absurd ((hoff 12 (by kernel_rfl)).symm.trans h0_) (by decide), Q_X14_, Q_X15_⟩
           refine steps_cons ?_ ?_
           · rintro b a w' ⟨v403, gb407, gb408, m10_, m11_, m12_, m14_, m15_, ha, Q_HO_3, Q_HB, Q_NB408_407, Q_NB407_408, Q_HO404, Q_BK407, Q_GW407, Q_GE407, Q_BK408, Q_GW408, Q_GE408, Q_BK407_e16, Q_BK408_e17, Q_X10_, Q_X11_, Q_X12_, Q_X14_, Q_X15_⟩ hb_ hon hoff
             refine ⟨_, rfl, fun K hK => ?_⟩
             have e30 : a.tmps[30]? = some (.pointer (some (ad400.add ((ji13)).toNat))) := by rw [ha]; exact putSel_on (e := (3, 30, .pointer (some (ad400.add ((ji13)).toNat)))) 1 rfl rfl (hon 3 (by kernel_rfl)) rfl
             replace ha := Aside0.mk ha
             have HO_3 := Aside0.mk Q_HO_3
             have HB := Aside0.mk Q_HB
             have hs0_ : w'.cell? (ad400.add ((ji13)).toNat) = some (.slice A400_0 (rd_L5 l0 (ji13)).length c400_0) := ((HB.out.cell (World.block_lt_of_cell? w _ hw400_0)).trans hw400_0)
             refine value_ (w1 := w') (v := .slice A400_0 (rd_L5 l0 (ji13)).length c400_0) (by rfl) rfl ?_ ?_
             · go_simp
               (try simp only [i64_w])
               try rfl
             refine hK.out _ _ ⟨v403, gb407, gb408, m10_, m11_, m12_, m14_, m15_, (by rw [ha.out]; exact putSel_upk 2 hb_ rfl rfl rfl), Q_HO_3, Q_HB, Q_NB408_407, Q_NB407_408, fun h0_ => absurd ((hoff 10 (by kernel_rfl)).symm.trans h0_) (by decide), Q_BK407, Q_GW407, Q_GE407, Q_BK408, Q_GW408, Q_GE408, fun h0_ => absurd ((hoff 16 (by kernel_rfl)).symm.trans h0_) (by decide), fun h0_ => absurd ((hoff 17 (by kernel_rfl)).symm.trans h0_) (by decide), fun h0_ => absurd ((hoff 10 (by kernel_rfl)).symm.trans h0_) (by decide), fun h0_ => absurd ((hoff 11 (by kernel_rfl)).symm.trans h0_) (by decide), fun h0_ => absurd ((hoff 12 (by kernel_rfl)).symm.trans h0_) (by decide), Q_X14_, Q_X15_⟩
           refine steps_cons ?_ ?_
           · rintro b a w' ⟨v403, gb407, gb408, m10_, m11_, m12_, m14_, m15_, ha, Q_HO_3, Q_HB, Q_NB408_407, Q_NB407_408, Q_HO404, Q_BK407, Q_GW407, Q_GE407, Q_BK408, Q_GW408, Q_GE408, Q_BK407_e16, Q_BK408_e17, Q_X10_, Q_X11_, Q_X12_, Q_X14_, Q_X15_⟩ hb_ hon hoff
             refine ⟨_, rfl, fun K hK => ?_⟩
             have e33 : a.tmps[33]? = some (.int .i64 (l0.length : Int)) := by rw [ha]; exact (putSel_off rfl).trans rfl
             replace ha := Aside0.mk ha
             have HO_3 := Aside0.mk Q_HO_3
             have HB := Aside0.mk Q_HB
             refine value_ (w1 := w') (v := .int .i64 ji16) (by rfl) rfl ?_ ?_
             · go_simp
               (try simp only [i64_w])
               try rfl
             refine hK.out _ _ ⟨v403, gb407, gb408, m10_, m11_, m12_, m14_, m15_, (by rw [ha.out]; exact putSel_upk 3 hb_ rfl rfl rfl), Q_HO_3, Q_HB, Q_NB408_407, Q_NB407_408, fun h0_ => absurd ((hoff 10 (by kernel_rfl)).symm.trans h0_) (by decide), Q_BK407, Q_GW407, Q_GE407, Q_BK408, Q_GW408, Q_GE408, fun h0_ => absurd ((hoff 16 (by kernel_rfl)).symm.trans h0_) (by decide), fun h0_ => absurd ((hoff 17 (by kernel_rfl)).symm.trans h0_) (by decide), fun h0_ => absurd ((hoff 10 (by kernel_rfl)).symm.trans h0_) (by decide), fun h0_ => absurd ((hoff 11 (by kernel_rfl)).symm.trans h0_) (by decide), fun h0_ => absurd ((hoff 12 (by kernel_rfl)).symm.trans h0_) (by decide), Q_X14_, Q_X15_⟩
           refine steps_cons ?_ ?_
           · rintro b a w' ⟨v403, gb407, gb408, m10_, m11_, m12_, m14_, m15_, ha, Q_HO_3, Q_HB, Q_NB408_407, Q_NB407_408, Q_HO404, Q_BK407, Q_GW407, Q_GE407, Q_BK408, Q_GW408, Q_GE408, Q_BK407_e16, Q_BK408_e17, Q_X10_, Q_X11_, Q_X12_, Q_X14_, Q_X15_⟩ hb_ hon hoff
             refine ⟨_, rfl, fun K hK => ?_⟩
             have e32 : a.tmps[32]? = some (.slice (some ad400) l0.length c0) := by rw [ha]; exact (putSel_off rfl).trans rfl
             have e34 : a.tmps[34]? = some (.int .i64 ji16) := by rw [ha]; exact putSel_on (e := (7, 34, .int .i64 ji16)) 3 rfl rfl (hon 7 (by kernel_rfl)) rfl
             replace ha := Aside0.mk ha
             have HO_3 := Aside0.mk Q_HO_3
             have HB := Aside0.mk Q_HB
             have hs1_ : w'.cell? (ad400.add ((ji16)).toNat) = some (.slice A401_0 (rd_L5 l0 (ji16)).length c401_0) := ((HB.out.cell (World.block_lt_of_cell? w _ hw401_0)).trans hw401_0)
             refine value_ (w1 := w') (v := .pointer (some (ad400.add ((ji16)).toNat))) (by rfl) rfl ?_ ?_
             · go_simp
               (try simp only [i64_w])
               try rfl
             refine hK.out _ _ ⟨v403, gb407, gb408, m10_, m11_, m12_, m14_, m15_, (by rw [ha.out]; exact putSel_upk 4 hb_ rfl rfl rfl), Q_HO_3, Q_HB, Q_NB408_407, Q_NB407_408, fun h0_ => absurd ((hoff 10 (by kernel_rfl)).symm.trans h0_) (by decide), Q_BK407, Q_GW407, Q_GE407, Q_BK408, Q_GW408, Q_GE408, fun h0_ => absurd ((hoff 16 (by kernel_rfl)).symm.trans h0_) (by decide), fun h0_ => absurd ((hoff 17 (by kernel_rfl)).symm.trans h0_) (by decide), fun h0_ => absurd ((hoff 10 (by kernel_rfl)).symm.trans h0_) (by decide), fun h0_ => absurd ((hoff 11 (by kernel_rfl)).symm.trans h0_) (by decide), fun h0_ => absurd ((hoff 12 (by kernel_rfl)).symm.trans h0_) (by decide), Q_X14_, Q_X15_⟩
           refine steps_cons ?_ ?_
           · rintro b a w' ⟨v403, gb407, gb408, m10_, m11_, m12_, m14_, m15_, ha, Q_HO_3, Q_HB, Q_NB408_407, Q_NB407_408, Q_HO404, Q_BK407, Q_GW407, Q_GE407, Q_BK408, Q_GW408, Q_GE408, Q_BK407_e16, Q_BK408_e17, Q_X10_, Q_X11_, Q_X12_, Q_X14_, Q_X15_⟩ hb_ hon hoff
             refine ⟨_, rfl, fun K hK => ?_⟩
             have e35 : a.tmps[35]? = some (.pointer (some (ad400.add ((ji16)).toNat))) := by rw [ha]; exact putSel_on (e := (8, 35, .pointer (some (ad400.add ((ji16)).toNat)))) 4 rfl rfl (hon 8 (by kernel_rfl)) rfl
             replace ha := Aside0.mk ha
             have HO_3 := Aside0.mk Q_HO_3
             have HB := Aside0.mk Q_HB
             have hs1_ : w'.cell? (ad400.add ((ji16)).toNat) = some (.slice A401_0 (rd_L5 l0 (ji16)).length c401_0) := ((HB.out.cell (World.block_lt_of_cell? w _ hw401_0)).trans hw401_0)
             refine value_ (w1 := w') (v := .slice A401_0 (rd_L5 l0 (ji16)).length c401_0) (by rfl) rfl ?_ ?_
             · go_simp
               (try simp only [i64_w])
               try rfl
             refine hK.out _ _ ⟨v403, gb407, gb408, m10_, m11_, m12_, m14_, m15_, (by rw [ha.out]; exact putSel_upk 5 hb_ rfl rfl rfl), Q_HO_3, Q_HB, Q_NB408_407, Q_NB407_408, fun h0_ => absurd ((hoff 10 (by kernel_rfl)).symm.trans h0_) (by decide), Q_BK407, Q_GW407, Q_GE407, Q_BK408, Q_GW408, Q_GE408, fun h0_ => absurd ((hoff 16 (by kernel_rfl)).symm.trans h0_) (by decide), fun h0_ => absurd ((hoff 17 (by kernel_rfl)).symm.trans h0_) (by decide), fun h0_ => absurd ((hoff 10 (by kernel_rfl)).symm.trans h0_) (by decide), fun h0_ => absurd ((hoff 11 (by kernel_rfl)).symm.trans h0_) (by decide), fun h0_ => absurd ((hoff 12 (by kernel_rfl)).symm.trans h0_) (by decide), Q_X14_, Q_X15_⟩
           refine steps_cons ?_ ?_
           · rintro b a w' ⟨v403, gb407, gb408, m10_, m11_, m12_, m14_, m15_, ha, Q_HO_3, Q_HB, Q_NB408_407, Q_NB407_408, Q_HO404, Q_BK407, Q_GW407, Q_GE407, Q_BK408, Q_GW408, Q_GE408, Q_BK407_e16, Q_BK408_e17, Q_X10_, Q_X11_, Q_X12_, Q_X14_, Q_X15_⟩ hb_ hon hoff
             refine ⟨_, rfl, fun K hK => ?_⟩
             have e31 : a.tmps[31]? = some (.slice A400_0 (rd_L5 l0 (ji13)).length c400_0) := by rw [ha]; exact putSel_on (e := (4, 31, .slice A400_0 (rd_L5 l0 (ji13)).length c400_0)) 2 rfl rfl (hon 4 (by kernel_rfl)) rfl
             have e36 : a.tmps[36]? = some (.slice A401_0 (rd_L5 l0 (ji16)).length c401_0) := by rw [ha]; exact putSel_on (e := (9, 36, .slice A401_0 (rd_L5 l0 (ji16)).length c401_0)) 5 rfl rfl (hon 9 (by kernel_rfl)) rfl
             replace ha := Aside0.mk ha
             have HO_3 := Aside0.mk Q_HO_3
             have HB := Aside0.mk Q_HB
             refine goes_ Try.func15 (by kernel_rfl) rfl #[.slice A400_0 (rd_L5 l0 (ji13)).length c400_0, .slice A401_0 (rd_L5 l0 (ji16)).length c401_0] (by rfl) rfl rfl (by (try simp only [List.map_toArray, List.map_cons, List.map_nil]); first | done | (simp only [eval_of e31, eval_of e36]; done) | (simp only [hji13, hji16]; rfl) | rfl | (simp only [List.length_drop, List.length_take]; rfl)) ?_
             with_reducible refine (diff_Script.calls kj2 _ _ (rd_L5 l0 (ji13)) _ _ (rd_L5 l0 (ji16)) t402 t405 t406 _ ?side1 ?side2 ?side3 ?side4 A19.out).mono ?_
             (case side1 => repeat (first | exact (Kd.C_below HR400_0.out HB.out) | (with_reducible refine Kd.C_alloc ?_ _) | (with_reducible refine Kd.C_drewN ?_ _) | (with_reducible refine Kd.C_drew ?_)))
             (case side2 => exact HC400_0.out)
             (case side3 => repeat (first | exact (Kd.C_below HR401_0.out HB.out) | (with_reducible refine Kd.C_alloc ?_ _) | (with_reducible refine Kd.C_drewN ?_ _) | (with_reducible refine Kd.C_drew ?_)))
             (case side4 => exact HC401_0.out)
             rintro e w21 ⟨v403, rfl, ho0, hb⟩
             refine ⟨_, rfl, ?_⟩
             have n0_ := Aside0.mk (Kd.R_below (by (with_reducible repeat (first | apply Kd.R_alloc | apply Kd.R_drewN | apply Kd.R_drew)); exact HO_3.out) hb)
             have n1_ := Aside0.mk (Kd.S_lower ho0 (below_size (by repeat (first | (with_reducible first | exact HB.out | apply below_alloc | apply pw_below_drewN | apply below_drew1) | exact HB.out))))
             have n2_ := Aside0.mk (below_step (by repeat (first | (with_reducible first | exact HB.out | apply below_alloc | apply pw_below_drewN | apply below_drew1) | exact HB.out)) hb)
             have z_BK407 := fun (h0_ : b 14 = true) (h1_ : b 16 = false) => (show w21.heap[gb407]? = some (.cells #[.slice none 0 0] 38 (0, 0)) from by first | exact (blk_below (g := gb407) (o := .cells #[.slice none 0 0] 38 (0, 0)) (by (with_reducible repeat (first | refine blk_drewN ?_ _ | refine blk_drew ?_ | refine blk_alloc ?_ _)); exact (Q_BK407 h0_ h1_)) hb))
             have z_BK408 := fun (h0_ : b 15 = true) (h1_ : b 17 = false) => (show w21.heap[gb408]? = some (.cells #[.int .i64 0, .int .i64 0] 25 (0, 0)) from by first | exact (blk_below (g := gb408) (o := .cells #[.int .i64 0, .int .i64 0] 25 (0, 0)) (by (with_reducible repeat (first | refine blk_drewN ?_ _ | refine blk_drew ?_ | refine blk_alloc ?_ _)); exact (Q_BK408 h0_ h1_)) hb))
             clear HO_3
             clear HB
             have HO_3 := n0_
             have HO404 := n1_
             have HB := n2_
             clear n0_ n1_ n2_
             (try clear hb)
             (try clear hb2)
             (try clear hk)
             (try clear hi)
             (try clear ho0)
             refine hK.out _ _ ⟨v403, gb407, gb408, (.tuple #[.agg #[v403], .agg #[.int .i64 t405, .int .i64 t406]]), m11_, m12_, m14_, m15_, (by rw [ha.out]; exact putSel_upk 6 hb_ rfl rfl rfl), (by (with_reducible repeat (first | apply Kd.R_alloc | apply Kd.R_drewN | apply Kd.R_drew)); exact HO_3.out), (by repeat (first | (with_reducible first | exact HB.out | apply below_alloc | apply pw_below_drewN | apply below_drew1) | exact HB.out)), Q_NB408_407, Q_NB407_408, fun _ => (by (with_reducible repeat (first | apply Kd.S_alloc | apply Kd.S_drewN | apply Kd.S_drew)); exact HO404.out), z_BK407, Q_GW407, Q_GE407, z_BK408, Q_GW408, Q_GE408, fun h0_ => absurd ((hoff 16 (by kernel_rfl)).symm.trans h0_) (by decide), fun h0_ => absurd ((hoff 17 (by kernel_rfl)).symm.trans h0_) (by decide), fun _ => rfl, fun h0_ => absurd ((hoff 11 (by kernel_rfl)).symm.trans h0_) (by decide), fun h0_ => absurd ((hoff 12 (by kernel_rfl)).symm.trans h0_) (by decide), Q_X14_, Q_X15_⟩
           refine steps_cons ?_ ?_
           · rintro b a w' ⟨v403, gb407, gb408, m10_, m11_, m12_, m14_, m15_, ha, Q_HO_3, Q_HB, Q_NB408_407, Q_NB407_408, Q_HO404, Q_BK407, Q_GW407, Q_GE407, Q_BK408, Q_GW408, Q_GE408, Q_BK407_e16, Q_BK408_e17, Q_X10_, Q_X11_, Q_X12_, Q_X14_, Q_X15_⟩ hb_ hon hoff
             refine ⟨_, rfl, fun K hK => ?_⟩
             have e37 : a.tmps[37]? = some (m10_) := by rw [ha]; exact putSel_on (e := (10, 37, m10_)) 6 rfl rfl (hon 10 (by kernel_rfl)) rfl
             rw [Q_X10_ (hon 10 (by kernel_rfl))] at e37
             replace ha := Aside0.mk ha
             have HO_3 := Aside0.mk Q_HO_3
             have HB := Aside0.mk Q_HB
             have HO404 := Aside0.mk (Q_HO404 (hon 10 (by kernel_rfl)))
             refine value_ (w1 := w') (v := .tuple #[.agg #[v403], .agg #[.int .i64 t405, .int .i64 t406]]) (by rfl) rfl ?_ ?_
             · go_simp
               (try simp only [i64_w])
               try rfl
             refine hK.out _ _ ⟨v403, gb407, gb408, m10_, (.tuple #[.agg #[v403], .agg #[.int .i64 t405, .int .i64 t406]]), m12_, m14_, m15_, (by rw [ha.out]; exact putSel_upk 7 hb_ rfl rfl rfl), Q_HO_3, Q_HB, Q_NB408_407, Q_NB407_408, Q_HO404, Q_BK407, Q_GW407, Q_GE407, Q_BK408, Q_GW408, Q_GE408, fun h0_ => absurd ((hoff 16 (by kernel_rfl)).symm.trans h0_) (by decide), fun h0_ => absurd ((hoff 17 (by kernel_rfl)).symm.trans h0_) (by decide), Q_X10_, fun _ => rfl, fun h0_ => absurd ((hoff 12 (by kernel_rfl)).symm.trans h0_) (by decide), Q_X14_, Q_X15_⟩
           refine steps_cons ?_ ?_
           · rintro b a w' ⟨v403, gb407, gb408, m10_, m11_, m12_, m14_, m15_, ha, Q_HO_3, Q_HB, Q_NB408_407, Q_NB407_408, Q_HO404, Q_BK407, Q_GW407, Q_GE407, Q_BK408, Q_GW408, Q_GE408, Q_BK407_e16, Q_BK408_e17, Q_X10_, Q_X11_, Q_X12_, Q_X14_, Q_X15_⟩ hb_ hon hoff
             refine ⟨_, rfl, fun K hK => ?_⟩
             have e26 : a.tmps[26]? = some (m11_) := by rw [ha]; exact putSel_on (e := (11, 26, m11_)) 7 rfl rfl (hon 11 (by kernel_rfl)) rfl
             rw [Q_X11_ (hon 11 (by kernel_rfl))] at e26
             replace ha := Aside0.mk ha
             have HO_3 := Aside0.mk Q_HO_3
             have HB := Aside0.mk Q_HB
             have HO404 := Aside0.mk (Q_HO404 (hon 10 (by kernel_rfl)))
             refine value_ (w1 := w') (v := .agg #[v403]) (by rfl) rfl ?_ ?_
             · go_simp
               (try simp only [i64_w])
               try rfl
             refine hK.out _ _ ⟨v403, gb407, gb408, m10_, m11_, (.agg #[v403]), m14_, m15_, (by rw [ha.out]; exact putSel_upk 8 hb_ rfl rfl rfl), Q_HO_3, Q_HB, Q_NB408_407, Q_NB407_408, Q_HO404, Q_BK407, Q_GW407, Q_GE407, Q_BK408, Q_GW408, Q_GE408, fun h0_ => absurd ((hoff 16 (by kernel_rfl)).symm.trans h0_) (by decide), fun h0_ => absurd ((hoff 17 (by kernel_rfl)).symm.trans h0_) (by decide), Q_X10_, Q_X11_, fun _ => rfl, Q_X14_, Q_X15_⟩
           refine steps_cons ?_ ?_
           · rintro b a w' ⟨v403, gb407, gb408, m10_, m11_, m12_, m14_, m15_, ha, Q_HO_3, Q_HB, Q_NB408_407, Q_NB407_408, Q_HO404, Q_BK407, Q_GW407, Q_GE407, Q_BK408, Q_GW408, Q_GE408, Q_BK407_e16, Q_BK408_e17, Q_X10_, Q_X11_, Q_X12_, Q_X14_, Q_X15_⟩ hb_ hon hoff
             refine ⟨_, rfl, fun K hK => ?_⟩
             have e26 : a.tmps[26]? = some (m11_) := by rw [ha]; exact putSel_on (e := (11, 26, m11_)) 7 rfl rfl (hon 11 (by kernel_rfl)) rfl
             rw [Q_X11_ (hon 11 (by kernel_rfl))] at e26
             replace ha := Aside0.mk ha
             have HO_3 := Aside0.mk Q_HO_3
             have HB := Aside0.mk Q_HB
             have HO404 := Aside0.mk (Q_HO404 (hon 10 (by kernel_rfl)))
             refine value_ (w1 := w') (v := .agg #[.int .i64 t405, .int .i64 t406]) (by rfl) rfl ?_ ?_
             · go_simp
               (try simp only [i64_w])
               try rfl
             refine hK.out _ _ ⟨v403, gb407, gb408, m10_, m11_, m12_, m14_, m15_, (by rw [ha.out]; exact putSel_upk 9 hb_ rfl rfl rfl), Q_HO_3, Q_HB, Q_NB408_407, Q_NB407_408, Q_HO404, Q_BK407, Q_GW407, Q_GE407, Q_BK408, Q_GW408, Q_GE408, Q_BK407_e16, fun h0_ => absurd ((hoff 17 (by kernel_rfl)).symm.trans h0_) (by decide), Q_X10_, Q_X11_, Q_X12_, Q_X14_, Q_X15_⟩
           refine steps_cons ?_ ?_
           · rintro b a w' ⟨v403, gb407, gb408, m10_, m11_, m12_, m14_, m15_, ha, Q_HO_3, Q_HB, Q_NB408_407, Q_NB407_408, Q_HO404, Q_BK407, Q_GW407, Q_GE407, Q_BK408, Q_GW408, Q_GE408, Q_BK407_e16, Q_BK408_e17, Q_X10_, Q_X11_, Q_X12_, Q_X14_, Q_X15_⟩ hb_ hon hoff
             refine ⟨_, rfl, fun K hK => ?_⟩
             replace ha := Aside0.mk ha
             have HO_3 := Aside0.mk Q_HO_3
             have HB := Aside0.mk Q_HB
             refine box_step ?hg (N := 6) ?hd (cs := #[.slice none 0 0]) (t := 38) ?hr ?_; (case hd => rfl); (case hg => rfl); (case hr => first | (go_simp; done) | (go_simp; rfl))
             intro gb407 hg w21 hbox hb
             have n0_ := Aside0.mk (Kd.R_below (by (with_reducible repeat (first | apply Kd.R_alloc | apply Kd.R_drewN | apply Kd.R_drew)); exact HO_3.out) hb)
             have n1_ := Aside0.mk (below_step (by repeat (first | (with_reducible first | exact HB.out | apply below_alloc | apply pw_below_drewN | apply below_drew1) | exact HB.out)) hb)
             have n2_ := Aside0.mk (hbox)
             have n3_ := Aside0.mk ((by rw [hg]; exact (below_size (by repeat (first | (with_reducible first | exact HB.out | apply below_alloc | apply pw_below_drewN | apply below_drew1) | exact HB.out))) : w.heap.size ≤ gb407))
             have n4_ := Aside0.mk ((by rw [hg]; exact (below_size (by repeat (first | (with_reducible first | exact HB.out | apply below_alloc | apply pw_below_drewN | apply below_drew1) | exact HB.out))) : w.heap.size ≤ gb407))
             have z_NB408_407 := fun (h0_ : up b 14 14 = true) (h1_ : up b 14 15 = true) => (show gb408 ≠ gb407 from ((by rw [hg]; exact Nat.ne_of_lt (blk_lt (g := gb408) (o := .cells #[.int .i64 0, .int .i64 0] 25 (0, 0)) (by (with_reducible repeat (first | refine blk_drewN ?_ _ | refine blk_drew ?_ | refine blk_alloc ?_ _)); exact (Q_BK408 h1_ (hoff 17 (by kernel_rfl))))) : gb408 ≠ gb407)))
             have z_NB407_408 := fun (h0_ : up b 14 14 = true) (h1_ : up b 14 15 = true) => (show gb407 ≠ gb408 from ((by rw [hg]; exact Nat.ne_of_gt (blk_lt (g := gb408) (o := .cells #[.int .i64 0, .int .i64 0] 25 (0, 0)) (by (with_reducible repeat (first | refine blk_drewN ?_ _ | refine blk_drew ?_ | refine blk_alloc ?_ _)); exact (Q_BK408 h1_ (hoff 17 (by kernel_rfl))))) : gb407 ≠ gb408)))
             have z_HO404 := fun (h0_ : b 10 = true) => (show Kd.S k42 42 w21 w.heap.size (fun _ => True) v403 t402 from by first | exact (Kd.S_below (by (with_reducible repeat (first | apply Kd.S_alloc | apply Kd.S_drewN | apply Kd.S_drew)); exact (Q_HO404 h0_)) hb) | exact Kd.S_mono (Kd.S_below (by (with_reducible repeat (first | apply Kd.S_alloc | apply Kd.S_drewN | apply Kd.S_drew)); exact (Q_HO404 h0_)) hb) (fun _ h_ => by first | trivial | exact h_ | exact h_.1))
             have z_BK408 := fun (h0_ : b 15 = true) (h1_ : b 17 = false) => (show w21.heap[gb408]? = some (.cells #[.int .i64 0, .int .i64 0] 25 (0, 0)) from by first | exact (blk_below (g := gb408) (o := .cells #[.int .i64 0, .int .i64 0] 25 (0, 0)) (by (with_reducible repeat (first | refine blk_drewN ?_ _ | refine blk_drew ?_ | refine blk_alloc ?_ _)); exact (Q_BK408 h0_ h1_)) hb))
             clear HO_3
             clear HB
             have HO_3 := n0_
             have HB := n1_
             have BK407 := n2_
             have GW407 := n3_
             have GE407 := n4_
             clear n0_ n1_ n2_ n3_ n4_
             clear hb hbox hg
             refine hK.out _ _ ⟨v403, gb407, gb408, m10_, m11_, m12_, (.pointer (some ⟨gb407, 0, none⟩)), m15_, (by rw [ha.out]; exact putSel_upk 10 hb_ rfl rfl rfl), (by (with_reducible repeat (first | apply Kd.R_alloc | apply Kd.R_drewN | apply Kd.R_drew)); exact HO_3.out), (by repeat (first | (with_reducible first | exact HB.out | apply below_alloc | apply pw_below_drewN | apply below_drew1 | refine below_set ?_ GE407.out) | exact HB.out)), z_NB408_407, z_NB407_408, z_HO404, fun _ _ => (by (with_reducible repeat (first | refine blk_drewN ?_ _ | refine blk_drew ?_ | refine blk_alloc ?_ _)); exact BK407.out), fun _ => GW407.out, fun _ => GE407.out, z_BK408, Q_GW408, Q_GE408, fun h0_ => absurd ((hoff 16 (by kernel_rfl)).symm.trans h0_) (by decide), fun h0_ => absurd ((hoff 17 (by kernel_rfl)).symm.trans h0_) (by decide), Q_X10_, Q_X11_, Q_X12_, fun _ => rfl, Q_X15_⟩
           refine steps_cons ?_ ?_
           · rintro b a w' ⟨v403, gb407, gb408, m10_, m11_, m12_, m14_, m15_, ha, Q_HO_3, Q_HB, Q_NB408_407, Q_NB407_408, Q_HO404, Q_BK407, Q_GW407, Q_GE407, Q_BK408, Q_GW408, Q_GE408, Q_BK407_e16, Q_BK408_e17, Q_X10_, Q_X11_, Q_X12_, Q_X14_, Q_X15_⟩ hb_ hon hoff
             refine ⟨_, rfl, fun K hK => ?_⟩
             replace ha := Aside0.mk ha
             have HO_3 := Aside0.mk Q_HO_3
             have HB := Aside0.mk Q_HB
             refine box_step ?hg (N := 7) ?hd (cs := #[.int .i64 0, .int .i64 0]) (t := 25) ?hr ?_; (case hd => rfl); (case hg => rfl); (case hr => first | (go_simp; done) | (go_simp; rfl))
             intro gb408 hg w21 hbox hb
             have n0_ := Aside0.mk (Kd.R_below (by (with_reducible repeat (first | apply Kd.R_alloc | apply Kd.R_drewN | apply Kd.R_drew)); exact HO_3.out) hb)
             have n1_ := Aside0.mk (below_step (by repeat (first | (with_reducible first | exact HB.out | apply below_alloc | apply pw_below_drewN | apply below_drew1) | exact HB.out)) hb)
             have n2_ := Aside0.mk (hbox)
             have n3_ := Aside0.mk ((by rw [hg]; exact (below_size (by repeat (first | (with_reducible first | exact HB.out | apply below_alloc | apply pw_below_drewN | apply below_drew1) | exact HB.out))) : w.heap.size ≤ gb408))
             have n4_ := Aside0.mk ((by rw [hg]; exact (below_size (by repeat (first | (with_reducible first | exact HB.out | apply below_alloc | apply pw_below_drewN | apply below_drew1) | exact HB.out))) : w.heap.size ≤ gb408))
             have z_NB408_407 := fun (h0_ : up b 15 14 = true) (h1_ : up b 15 15 = true) => (show gb408 ≠ gb407 from ((by rw [hg]; exact Nat.ne_of_gt (blk_lt (g := gb407) (o := .cells #[.slice none 0 0] 38 (0, 0)) (by (with_reducible repeat (first | refine blk_drewN ?_ _ | refine blk_drew ?_ | refine blk_alloc ?_ _)); exact (Q_BK407 h0_ (hoff 16 (by kernel_rfl))))) : gb408 ≠ gb407)))
             have z_NB407_408 := fun (h0_ : up b 15 14 = true) (h1_ : up b 15 15 = true) => (show gb407 ≠ gb408 from ((by rw [hg]; exact Nat.ne_of_lt (blk_lt (g := gb407) (o := .cells #[.slice none 0 0] 38 (0, 0)) (by (with_reducible repeat (first | refine blk_drewN ?_ _ | refine blk_drew ?_ | refine blk_alloc ?_ _)); exact (Q_BK407 h0_ (hoff 16 (by kernel_rfl))))) : gb407 ≠ gb408)))
             have z_HO404 := fun (h0_ : b 10 = true) => (show Kd.S k42 42 w21 w.heap.size (fun _ => True) v403 t402 from by first | exact (Kd.S_below (by (with_reducible repeat (first | apply Kd.S_alloc | apply Kd.S_drewN | apply Kd.S_drew)); exact (Q_HO404 h0_)) hb) | exact Kd.S_mono (Kd.S_below (by (with_reducible repeat (first | apply Kd.S_alloc | apply Kd.S_drewN | apply Kd.S_drew)); exact (Q_HO404 h0_)) hb) (fun _ h_ => by first | trivial | exact h_ | exact h_.1))
             have z_BK407 := fun (h0_ : b 14 = true) (h1_ : b 16 = false) => (show w21.heap[gb407]? = some (.cells #[.slice none 0 0] 38 (0, 0)) from by first | exact (blk_below (g := gb407) (o := .cells #[.slice none 0 0] 38 (0, 0)) (by (with_reducible repeat (first | refine blk_drewN ?_ _ | refine blk_drew ?_ | refine blk_alloc ?_ _)); exact (Q_BK407 h0_ h1_)) hb))
             clear HO_3
             clear HB
             have HO_3 := n0_
             have HB := n1_
             have BK408 := n2_
             have GW408 := n3_
             have GE408 := n4_
             clear n0_ n1_ n2_ n3_ n4_
             clear hb hbox hg
             refine hK.out _ _ ⟨v403, gb407, gb408, m10_, m11_, m12_, m14_, (.pointer (some ⟨gb408, 0, none⟩)), (by rw [ha.out]; exact putSel_upk 11 hb_ rfl rfl rfl), (by (with_reducible repeat (first | apply Kd.R_alloc | apply Kd.R_drewN | apply Kd.R_drew)); exact HO_3.out), (by repeat (first | (with_reducible first | exact HB.out | apply below_alloc | apply pw_below_drewN | apply below_drew1 | refine below_set ?_ GE408.out) | exact HB.out)), z_NB408_407, z_NB407_408, z_HO404, z_BK407, Q_GW407, Q_GE407, fun _ _ => (by (with_reducible repeat (first | refine blk_drewN ?_ _ | refine blk_drew ?_ | refine blk_alloc ?_ _)); exact BK408.out), fun _ => GW408.out, fun _ => GE408.out, fun h0_ => absurd ((hoff 16 (by kernel_rfl)).symm.trans h0_) (by decide), fun h0_ => absurd ((hoff 17 (by kernel_rfl)).symm.trans h0_) (by decide), Q_X10_, Q_X11_, Q_X12_, Q_X14_, fun _ => rfl⟩
           refine steps_cons ?_ ?_
           · rintro b a w' ⟨v403, gb407, gb408, m10_, m11_, m12_, m14_, m15_, ha, Q_HO_3, Q_HB, Q_NB408_407, Q_NB407_408, Q_HO404, Q_BK407, Q_GW407, Q_GE407, Q_BK408, Q_GW408, Q_GE408, Q_BK407_e16, Q_BK408_e17, Q_X10_, Q_X11_, Q_X12_, Q_X14_, Q_X15_⟩ hb_ hon hoff
             refine ⟨_, rfl, fun K hK => ?_⟩
             have e6 : a.tmps[6]? = some (m14_) := by rw [ha]; exact putSel_on (e := (14, 6, m14_)) 10 rfl rfl (hon 14 (by kernel_rfl)) rfl
             rw [Q_X14_ (hon 14 (by kernel_rfl))] at e6
             have e38 : a.tmps[38]? = some (m12_) := by rw [ha]; exact putSel_on (e := (12, 38, m12_)) 8 rfl rfl (hon 12 (by kernel_rfl)) rfl
             rw [Q_X12_ (hon 12 (by kernel_rfl))] at e38
             replace ha := Aside0.mk ha
             have HO_3 := Aside0.mk Q_HO_3
             have HB := Aside0.mk Q_HB
             have NB408_407 := Aside0.mk (Q_NB408_407 (hon 14 (by kernel_rfl)) (hon 15 (by kernel_rfl)))
             have NB407_408 := Aside0.mk (Q_NB407_408 (hon 14 (by kernel_rfl)) (hon 15 (by kernel_rfl)))
             have HO404 := Aside0.mk (Q_HO404 (hon 10 (by kernel_rfl)))
             have BK407 := Aside0.mk (Q_BK407 (hon 14 (by kernel_rfl)) hb_)
             have GW407 := Aside0.mk (Q_GW407 (hon 14 (by kernel_rfl)))
             have GE407 := Aside0.mk (Q_GE407 (hon 14 (by kernel_rfl)))
             have BK408 := Aside0.mk (Q_BK408 (hon 15 (by kernel_rfl)) (hoff 17 (by kernel_rfl)))
             have GW408 := Aside0.mk (Q_GW408 (hon 15 (by kernel_rfl)))
             have GE408 := Aside0.mk (Q_GE408 (hon 15 (by kernel_rfl)))
             obtain ⟨Ao25, co25, eo25⟩ := Kd.S_slice HO404.out
             (first | subst eo25 | (injection eo25 with f1_ f2_ f3_; have f4_ := f1_.symm; have f5_ := f3_.symm; clear f1_ f2_ f3_; subst f4_; subst f5_))
             have hs26 : w'.cell? ⟨gb407, 0, none⟩ = some (.slice none 0 0) := (blk_cell BK407.out 0).trans rfl
             have hfs26 := blk_frozen BK407.out 0
             have hns26_1 := NB408_407.out
             have hms26_1 := NB407_408.out
             refine skip_ (w1 := ?_) (by rfl) rfl ?_ ?_
             rotate_left
             · go_simp
               rfl
             refine hK.out _ _ ⟨.slice Ao25 t402.length co25, gb407, gb408, m10_, m11_, m12_, m14_, m15_, (by rw [ha.out]; exact putSel_none (v := undef) rfl), (by (with_reducible repeat (first | apply Kd.R_alloc | apply Kd.R_drewN | apply Kd.R_drew)); exact Kd.R_mono (Kd.R_far (p := ⟨gb407, 0, none⟩) (Kd.R_types HO_3.out BK407.out (by decide)) (fun _ hk => hk.2) (.slice Ao25 t402.length co25)) (fun _ hk => trivial)), (by repeat (first | (with_reducible first | exact HB.out | apply below_alloc | apply pw_below_drewN | apply below_drew1 | refine below_set ?_ GE407.out | refine below_set ?_ GE408.out) | exact HB.out)), fun _ _ => NB408_407.out, fun _ _ => NB407_408.out, fun _ => (by (with_reducible repeat (first | apply Kd.S_alloc | apply Kd.S_drewN | apply Kd.S_drew)); exact Kd.S_mono (Kd.S_far (p := ⟨gb407, 0, none⟩) (Kd.S_types HO404.out BK407.out (by decide)) (fun _ hk => hk.2) (.slice Ao25 t402.length co25)) (fun _ hk => trivial)), fun _ h1_ => absurd ((up_self b 16).symm.trans h1_) (by decide), fun _ => GW407.out, fun _ => GE407.out, fun _ _ => (by (with_reducible repeat (first | refine blk_drewN ?_ _ | refine blk_drew ?_ | refine blk_alloc ?_ _)); refine blk_far ?_ NB408_407.out _; (with_reducible repeat (first | refine blk_drewN ?_ _ | refine blk_drew ?_ | refine blk_alloc ?_ _)); exact BK408.out), fun _ => GW408.out, fun _ => GE408.out, fun _ => (by (with_reducible repeat (first | refine blk_drewN ?_ _ | refine blk_drew ?_ | refine blk_alloc ?_ _)); refine blk_put (cs := #[.slice none 0 0]) ?_ 0 _ rfl; (with_reducible repeat (first | refine blk_drewN ?_ _ | refine blk_drew ?_ | refine blk_alloc ?_ _)); exact BK407.out), fun h0_ => absurd ((hoff 17 (by kernel_rfl)).symm.trans h0_) (by decide), Q_X10_, Q_X11_, Q_X12_, Q_X14_, Q_X15_⟩
           refine steps_cons ?_ ?_
           · rintro b a w' ⟨v403, gb407, gb408, m10_, m11_, m12_, m14_, m15_, ha, Q_HO_3, Q_HB, Q_NB408_407, Q_NB407_408, Q_HO404, Q_BK407, Q_GW407, Q_GE407, Q_BK408, Q_GW408, Q_GE408, Q_BK407_e16, Q_BK408_e17, Q_X10_, Q_X11_, Q_X12_, Q_X14_, Q_X15_⟩ hb_ hon hoff
             refine ⟨_, rfl, fun K hK => ?_⟩
             have e7 : a.tmps[7]? = some (m15_) := by rw [ha]; exact putSel_on (e := (15, 7, m15_)) 11 rfl rfl (hon 15 (by kernel_rfl)) rfl
             rw [Q_X15_ (hon 15 (by kernel_rfl))] at e7
             have e39 : a.tmps[39]? = some (.agg #[.int .i64 t405, .int .i64 t406]) := by rw [ha]; exact putSel_on (e := (13, 39, .agg #[.int .i64 t405, .int .i64 t406])) 9 rfl rfl (hon 13 (by kernel_rfl)) rfl
             replace ha := Aside0.mk ha
             have HO_3 := Aside0.mk Q_HO_3
             have HB := Aside0.mk Q_HB
             have NB408_407 := Aside0.mk (Q_NB408_407 (hon 14 (by kernel_rfl)) (hon 15 (by kernel_rfl)))
             have NB407_408 := Aside0.mk (Q_NB407_408 (hon 14 (by kernel_rfl)) (hon 15 (by kernel_rfl)))
             have HO404 := Aside0.mk (Q_HO404 (hon 10 (by kernel_rfl)))
             have GW407 := Aside0.mk (Q_GW407 (hon 14 (by kernel_rfl)))
             have GE407 := Aside0.mk (Q_GE407 (hon 14 (by kernel_rfl)))
             have BK408 := Aside0.mk (Q_BK408 (hon 15 (by kernel_rfl)) hb_)
             have GW408 := Aside0.mk (Q_GW408 (hon 15 (by kernel_rfl)))
             have GE408 := Aside0.mk (Q_GE408 (hon 15 (by kernel_rfl)))
             have BK407 := Aside0.mk (Q_BK407_e16 (hon 16 (by kernel_rfl)))
             have hs27 : w'.cell? ⟨gb408, 0, none⟩ = some (.int .i64 0) := (blk_cell BK408.out 0).trans rfl
             have hfs27 := blk_frozen BK408.out 0
             have hns27_0 := NB407_408.out
             have hms27_0 := NB408_407.out
             have hs28 : w'.cell? ⟨gb408, 1, none⟩ = some (.int .i64 0) := (blk_cell BK408.out 1).trans rfl
             have hfs28 := blk_frozen BK408.out 1
             have hns28_0 := NB407_408.out
             have hms28_0 := NB408_407.out
             refine skip_ (w1 := ?_) (by rfl) rfl ?_ ?_
             rotate_left
             · go_simp
               rfl
             refine hK.out _ _ ⟨v403, gb407, gb408, m10_, m11_, m12_, m14_, m15_, (by rw [ha.out]; exact putSel_none (v := undef) rfl), (by (with_reducible repeat (first | apply Kd.R_alloc | apply Kd.R_drewN | apply Kd.R_drew)); exact Kd.R_mono (Kd.R_far (p := ⟨gb408, 1, none⟩) (Kd.R_far (p := ⟨gb408, 0, none⟩) (Kd.R_types HO_3.out BK408.out (by decide)) (fun _ hk => hk.2) (.int .i64 t405)) (fun _ hk => hk.2) (.int .i64 t406)) (fun _ hk => trivial)), (by repeat (first | (with_reducible first | exact HB.out | apply below_alloc | apply pw_below_drewN | apply below_drew1 | refine below_set ?_ GE407.out | refine below_set ?_ GE408.out) | exact HB.out)), fun _ _ => NB408_407.out, fun _ _ => NB407_408.out, fun _ => (by (with_reducible repeat (first | apply Kd.S_alloc | apply Kd.S_drewN | apply Kd.S_drew)); exact Kd.S_mono (Kd.S_far (p := ⟨gb408, 1, none⟩) (Kd.S_far (p := ⟨gb408, 0, none⟩) (Kd.S_types HO404.out BK408.out (by decide)) (fun _ hk => hk.2) (.int .i64 t405)) (fun _ hk => hk.2) (.int .i64 t406)) (fun _ hk => trivial)), fun _ h1_ => absurd ((hon 16 (by kernel_rfl)).symm.trans h1_) (by decide), fun _ => GW407.out, fun _ => GE407.out, fun _ h1_ => absurd ((up_self b 17).symm.trans h1_) (by decide), fun _ => GW408.out, fun _ => GE408.out, fun _ => (by (with_reducible repeat (first | refine blk_drewN ?_ _ | refine blk_drew ?_ | refine blk_alloc ?_ _)); refine blk_far ?_ NB407_408.out _; (with_reducible repeat (first | refine blk_drewN ?_ _ | refine blk_drew ?_ | refine blk_alloc ?_ _)); refine blk_far ?_ NB407_408.out _; (with_reducible repeat (first | refine blk_drewN ?_ _ | refine blk_drew ?_ | refine blk_alloc ?_ _)); exact BK407.out), fun _ => (by (with_reducible repeat (first | refine blk_drewN ?_ _ | refine blk_drew ?_ | refine blk_alloc ?_ _)); refine blk_put (cs := #[.int .i64 t405, .int .i64 0]) ?_ 1 _ rfl; (with_reducible repeat (first | refine blk_drewN ?_ _ | refine blk_drew ?_ | refine blk_alloc ?_ _)); refine blk_put (cs := #[.int .i64 0, .int .i64 0]) ?_ 0 _ rfl; (with_reducible repeat (first | refine blk_drewN ?_ _ | refine blk_drew ?_ | refine blk_alloc ?_ _)); exact BK408.out), Q_X10_, Q_X11_, Q_X12_, Q_X14_, Q_X15_⟩
           exact steps_nil
         rintro b a w28 hall ⟨v403, gb407, gb408, m10_, m11_, m12_, m14_, m15_, ha, Q_HO_3, Q_HB, Q_NB408_407, Q_NB407_408, Q_HO404, Q_BK407, Q_GW407, Q_GE407, Q_BK408, Q_GW408, Q_GE408, Q_BK407_e16, Q_BK408_e17, Q_X10_, Q_X11_, Q_X12_, Q_X14_, Q_X15_⟩
         clear HB HO_3
         have hb2_ := hall 2 (by kernel_rfl)
         have hb3_ := hall 3 (by kernel_rfl)
         have hb4_ := hall 4 (by kernel_rfl)
         have hb7_ := hall 7 (by kernel_rfl)
         have hb8_ := hall 8 (by kernel_rfl)
         have hb9_ := hall 9 (by kernel_rfl)
         have hb10_ := hall 10 (by kernel_rfl)
         have hb11_ := hall 11 (by kernel_rfl)
         have hb12_ := hall 12 (by kernel_rfl)
         have hb13_ := hall 13 (by kernel_rfl)
         have hb14_ := hall 14 (by kernel_rfl)
         have hb15_ := hall 15 (by kernel_rfl)
         have hb16_ := hall 16 (by kernel_rfl)
         have hb17_ := hall 17 (by kernel_rfl)
         subst ha
         obtain rfl := Q_X10_ hb10_
         obtain rfl := Q_X11_ hb11_
         obtain rfl := Q_X12_ hb12_
         obtain rfl := Q_X14_ hb14_
         obtain rfl := Q_X15_ hb15_
         simp only [putSel, hb2_, hb3_, hb4_, hb7_, hb8_, hb9_, hb10_, hb11_, hb12_, hb13_, hb14_, hb15_, hb16_, hb17_, if_true, Act.put, List.setIfInBounds_toArray, List.set_cons_zero, List.set_cons_succ]
         have HO_3 := Aside0.mk Q_HO_3
         clear Q_HO_3
         have HB := Aside0.mk Q_HB
         clear Q_HB
         have NB408_407 := Aside0.mk (Q_NB408_407 hb14_ hb15_)
         clear Q_NB408_407
         have NB407_408 := Aside0.mk (Q_NB407_408 hb14_ hb15_)
         clear Q_NB407_408
         have HO404 := Aside0.mk (Q_HO404 hb10_)
         clear Q_HO404
         clear Q_BK407
         have GW407 := Aside0.mk (Q_GW407 hb14_)
         clear Q_GW407
         have GE407 := Aside0.mk (Q_GE407 hb14_)
         clear Q_GE407
         clear Q_BK408
         have GW408 := Aside0.mk (Q_GW408 hb15_)
         clear Q_GW408
         have GE408 := Aside0.mk (Q_GE408 hb15_)
         clear Q_GE408
         have BK407 := Aside0.mk (Q_BK407_e16 hb16_)
         clear Q_BK407_e16
         have BK408 := Aside0.mk (Q_BK408_e17 hb17_)
         clear Q_BK408_e17
         clear hall hb2_ hb3_ hb4_ hb7_ hb8_ hb9_ hb10_ hb11_ hb12_ hb13_ hb14_ hb15_ hb16_ hb17_
         try go_wp2
         go_loopg [8, 9] kj2 (fun kq v8 v9 w' => ∃ (x8_2 : Int) (x9_2 : Int), v8 = .int .i64 x8_2 ∧ v9 = .int .i64 x9_2 ∧ Aside0 (changeforgelaw2_BlameNewest.l0 kq t393 (l0.length : Int) x8_2 x9_2 t402 t405 t406 = some r) ∧ Aside0 (kq ≤ kj2) ∧ Aside0 (Kd.R (Kd.int .i64) 3 w' w.heap.size (fun _ => True) v394 t393) ∧ Aside0 (Kd.S k42 42 w' w.heap.size (fun _ => True) v403 t402) ∧ Aside0 (w'.heap[gb407]? = some (.cells #[v403] 38 (0, 0))) ∧ Aside0 (w'.heap[gb408]? = some (.cells #[.int .i64 t405, .int .i64 t406] 25 (0, 0))) ∧ Aside0 (Below w.heap.size w w'))
         case atStart => exact ⟨(0), (0), (by first | rfl | (simp; done) | (simp [*]; done)), (by first | rfl | (simp; done) | (simp [*]; done)), H', ⟨Nat.le_refl _⟩, ⟨by (with_reducible repeat (first | apply Kd.R_alloc | apply Kd.R_drewN | apply Kd.R_drew)); exact HO_3.out⟩, ⟨by (with_reducible repeat (first | apply Kd.S_alloc | apply Kd.S_drewN | apply Kd.S_drew)); exact HO404.out⟩, ⟨by (with_reducible repeat (first | refine blk_drewN ?_ _ | refine blk_drew ?_ | refine blk_alloc ?_ _)); exact BK407.out⟩, ⟨by (with_reducible repeat (first | refine blk_drewN ?_ _ | refine blk_drew ?_ | refine blk_alloc ?_ _)); exact BK408.out⟩, ⟨by repeat (first | (with_reducible first | exact HB.out | apply below_alloc | apply pw_below_drewN | apply below_drew1 | refine below_set ?_ GE407.out | refine below_set ?_ GE408.out) | exact HB.out)⟩⟩
         clear H'
         try clear c1
         try clear p2
         try clear c4
         try clear p4
         try clear q4
         try clear hx4
         try clear c6
         try clear p6
         try clear c7
         try clear c7b0
         try clear c7b1
         try clear c8
         try clear c10
         try clear c14
         try clear c14b0
         try clear c15
         try clear c15b0
         try clear c17
         try clear c17b0
         try clear c18
         try clear c18b0
         try clear hcz6_0
         try clear hcz6_1
         try clear hcz8_0
         try clear hcz8_1
         try clear hcz9_0
         try clear hcz9_1
         try clear hfz6_0
         try clear hfz6_1
         try clear hfz8_0
         try clear hfz8_1
         try clear hfz9_0
         try clear hfz9_1
         try clear hx400_0
         try clear hx401_0
         try clear p2
         try clear p400
         try clear p401
         try clear q400
         try clear q401
         obtain ⟨x8_2, x9_2, rfl, rfl, HA, HK2, HO_3, HO_408000, BK407, BK408, HB⟩ := hrel
         cases gk with
         | zero => exact absurd HA.out (by simp [changeforgelaw2_BlameNewest.l0])
         | succ k2 =>
         have H := HA.out
         clear HA
         simp only [changeforgelaw2_BlameNewest.l0] at H
         by_cases c29 : x9_2 < (t402.length : Int)
         · rw [if_pos c29] at H
           have c29b0 : decide (x9_2 < (t402.length : Int)) = true := decide_eq_true c29
           clear c29
           by_cases c30 : 0 ≤ x9_2
           · rw [if_pos c30] at H
             have c30b0 : decide (0 ≤ x9_2) = true := decide_eq_true c30
             clear c30
             have H' := Aside0.mk H
             clear H
             have hnb31 := NB407_408.out
             have hnc31 := NB408_407.out
             have hcz32_0 : wr.cell? ⟨gb407, 0, none⟩ = some (v403) := (blk_cell BK407.out 0).trans rfl
             have hfz32_0 := blk_frozen BK407.out 0
             obtain ⟨Ao33, co33, eo33⟩ := Kd.S_slice HO_408000.out
             subst eo33
             have p409 : 0 ≤ (x9_2 : Int) := of_decide_eq_true (by first | (with_reducible assumption) | assumption)
             have q409 : x9_2 < (t402.length : Int) := of_decide_eq_true (by first | (with_reducible assumption) | assumption)
             obtain ⟨ad409, A409_1, c409_1, A409_2, c409_2, e409, hx409_0, hx409_1, hx409_2, hl409_1, hi409_1, hl409_2, hi409_2⟩ := at_T42 (Kd.S_reads' HO_408000.out).2.2 x9_2 p409 q409
             cases e409
             obtain ⟨ce409, hce409, hMe409, hcc409⟩ := Kd.S_get HO_408000.out z42 x9_2 p409 (by first | exact q409 | exact of_decide_eq_true (by first | (with_reducible assumption) | assumption) | (have e_ := (Kd.S_reads' HO_408000.out).1; omega))
             obtain ⟨ve409_1, ve409_2, rfl, ge409_1, ge409_2⟩ := k42_openM hMe409
             have hv409_1 := hcc409 1 _ rfl
             rw [add_field _ _ 1 (by omega)] at hv409_1
             replace hv409_1 := Option.some.inj (hv409_1.symm.trans hx409_1)
             rw [hv409_1] at ge409_1
             have HL409_1 := Aside0.mk (show Kd.R Kd.string 9 _ _ _ _ ((rd_T42 t402 x9_2).f1) from ge409_1)
             clear hv409_1 ge409_1
             have hv409_2 := hcc409 2 _ rfl
             rw [add_field _ _ 2 (by omega)] at hv409_2
             replace hv409_2 := Option.some.inj (hv409_2.symm.trans hx409_2)
             rw [hv409_2] at ge409_2
             have HL409_2 := Aside0.mk (show Kd.R Kd.string 9 _ _ _ _ ((rd_T42 t402 x9_2).f2) from ge409_2)
             clear hv409_2 ge409_2
             clear hcc409 hce409
             have HR409_1 := Aside0.mk hi409_1
             have HC409_1 := Aside0.mk hl409_1
             clear hi409_1 hl409_1
             have HR409_2 := Aside0.mk hi409_2
             have HC409_2 := Aside0.mk hl409_2
             clear hi409_2 hl409_2
             replace p409 := eq_true p409
             replace q409 := eq_true q409
             go_wp2
             go_roundg k2
             case measure => have := HJ2.out; have := HK2.out; omega
             case rel => exact ⟨(wrap64 (x8_2 + (((rd_T42 t402 x9_2).f2).length : Int))), (wrap64 (x9_2 + 1)), (by first | rfl | (simp; done) | (simp [*]; done)), (by first | rfl | (simp; done) | (simp [*]; done)), H', ⟨by have := HJ2.out; have := HK2.out; omega⟩, ⟨by (with_reducible repeat (first | apply Kd.R_alloc | apply Kd.R_drewN | apply Kd.R_drew)); exact HO_3.out⟩, ⟨by (with_reducible repeat (first | apply Kd.S_alloc | apply Kd.S_drewN | apply Kd.S_drew)); exact HO_408000.out⟩, ⟨by (with_reducible repeat (first | refine blk_drewN ?_ _ | refine blk_drew ?_ | refine blk_alloc ?_ _)); exact BK407.out⟩, ⟨by (with_reducible repeat (first | refine blk_drewN ?_ _ | refine blk_drew ?_ | refine blk_alloc ?_ _)); exact BK408.out⟩, ⟨by repeat (first | (with_reducible first | exact HB.out | apply below_alloc | apply pw_below_drewN | apply below_drew1 | refine below_set ?_ GE407.out | refine below_set ?_ GE408.out) | exact HB.out)⟩⟩
           rw [if_neg c30] at H
           exact absurd H (by simp)
         rw [if_neg c29] at H
         have c29b0 : decide (x9_2 < (t402.length : Int)) = false := decide_eq_false c29
         clear c29
         have H' := Aside0.mk H
         clear H
         have hnb34 := NB407_408.out
         have hnc34 := NB408_407.out
         have hcz35_0 : wr.cell? ⟨gb407, 0, none⟩ = some (v403) := (blk_cell BK407.out 0).trans rfl
         have hfz35_0 := blk_frozen BK407.out 0
         obtain ⟨Ao36, co36, eo36⟩ := Kd.S_slice HO_408000.out
         subst eo36
         go_wp2
         go_loopg [8, 10] k2 (fun kq v8 v10 w' => ∃ (x8_3 : Int) (x10_3 : Int), v8 = .int .i64 x8_3 ∧ v10 = .int .i64 x10_3 ∧ Aside0 (changeforgelaw2_BlameNewest.l1 kq t393 (l0.length : Int) x8_3 x10_3 t405 t406 = some r) ∧ Aside0 (kq ≤ k2) ∧ Aside0 (Kd.R (Kd.int .i64) 3 w' w.heap.size (fun _ => True) v394 t393) ∧ Aside0 (w'.heap[gb408]? = some (.cells #[.int .i64 t405, .int .i64 t406] 25 (0, 0))) ∧ Aside0 (Below w.heap.size w w'))
         case atStart => exact ⟨(x8_2), (0), (by first | rfl | (simp; done) | (simp [*]; done)), (by first | rfl | (simp; done) | (simp [*]; done)), H', ⟨Nat.le_refl _⟩, ⟨by (with_reducible repeat (first | apply Kd.R_alloc | apply Kd.R_drewN | apply Kd.R_drew)); exact HO_3.out⟩, ⟨by (with_reducible repeat (first | refine blk_drewN ?_ _ | refine blk_drew ?_ | refine blk_alloc ?_ _)); exact BK408.out⟩, ⟨by repeat (first | (with_reducible first | exact HB.out | apply below_alloc | apply pw_below_drewN | apply below_drew1 | refine below_set ?_ GE407.out | refine below_set ?_ GE408.out) | exact HB.out)⟩⟩
         clear H'
         try clear c1
         try clear c2
         try clear p2
         try clear c3
         try clear c4
         try clear p4
         try clear q4
         try clear hx4
         try clear c6
         try clear p6
         try clear c7
         try clear c7b0
         try clear c7b1
         try clear c8
         try clear c10
         try clear c14
         try clear c14b0
         try clear c15
         try clear c15b0
         try clear c17
         try clear c17b0
         try clear c18
         try clear c18b0
         try clear c29
         try clear c29b0
         try clear c30
         try clear c30b0
         try clear c31
         try clear c34
         try clear hcz32_0
         try clear hcz35_0
         try clear hcz6_0
         try clear hcz6_1
         try clear hcz8_0
         try clear hcz8_1
         try clear hcz9_0
         try clear hcz9_1
         try clear hfz32_0
         try clear hfz35_0
         try clear hfz6_0
         try clear hfz6_1
         try clear hfz8_0
         try clear hfz8_1
         try clear hfz9_0
         try clear hfz9_1
         try clear hx400_0
         try clear hx401_0
         try clear hx409_0
         try clear hx409_1
         try clear hx409_2
         try clear p2
         try clear p4
         try clear p400
         try clear p401
         try clear p409
         try clear p6
         try clear q4
         try clear q400
         try clear q401
         try clear q409
         obtain ⟨x8_3, x10_3, rfl, rfl, HA, HK3, HO_3, BK408, HB⟩ := hrel
         cases gk with
         | zero => exact absurd HA.out (by simp [changeforgelaw2_BlameNewest.l1])
         | succ k3 =>
         have H := HA.out
         clear HA
         simp only [changeforgelaw2_BlameNewest.l1] at H
         by_cases c37 : x10_3 < (t393.length : Int)
         · rw [if_pos c37] at H
           have c37b0 : decide (x10_3 < (t393.length : Int)) = true := decide_eq_true c37
           clear c37
           by_cases c38 : 0 ≤ x10_3
           · rw [if_pos c38] at H
             have c38b0 : decide (0 ≤ x10_3) = true := decide_eq_true c38
             clear c38
             by_cases c39 : (rd t393 x10_3) = (wrap64 ((l0.length : Int) - 1))
             · rw [if_pos c39] at H
               have c39b0 : ((rd t393 x10_3) == (wrap64 ((l0.length : Int) - 1))) = true := beq_iff_eq.mpr c39
               have c39b1 : ((rd t393 x10_3) != (wrap64 ((l0.length : Int) - 1))) = false := bne_eq_false_iff_eq.mpr c39
               clear c39
               have H' := Aside0.mk H
               clear H
               obtain ⟨Ao40, co40, eo40⟩ := Kd.R_slice HO_3.out
               subst eo40
               have p410 : 0 ≤ (x10_3 : Int) := of_decide_eq_true (by first | (with_reducible assumption) | assumption)
               have q410 : x10_3 < (t393.length : Int) := of_decide_eq_true (by first | (with_reducible assumption) | assumption)
               obtain ⟨ad410, e410, hx410_0⟩ := Kd.at_int (Kd.R_reads' HO_3.out).2.2 x10_3 p410 q410
               cases e410
               replace p410 := eq_true p410
               replace q410 := eq_true q410
               go_wp2
               go_roundg k3
               case measure => have := HJ2.out; have := HK2.out; have := HK3.out; omega
               case rel => exact ⟨(wrap64 (x8_3 - 1)), (wrap64 (x10_3 + 1)), (by first | rfl | (simp; done) | (simp [*]; done)), (by first | rfl | (simp; done) | (simp [*]; done)), H', ⟨by have := HJ2.out; have := HK2.out; have := HK3.out; omega⟩, ⟨by (with_reducible repeat (first | apply Kd.R_alloc | apply Kd.R_drewN | apply Kd.R_drew)); exact HO_3.out⟩, ⟨by (with_reducible repeat (first | refine blk_drewN ?_ _ | refine blk_drew ?_ | refine blk_alloc ?_ _)); exact BK408.out⟩, ⟨by repeat (first | (with_reducible first | exact HB.out | apply below_alloc | apply pw_below_drewN | apply below_drew1 | refine below_set ?_ GE408.out) | exact HB.out)⟩⟩
             rw [if_neg c39] at H
             have c39b0 : ((rd t393 x10_3) == (wrap64 ((l0.length : Int) - 1))) = false := beq_eq_false_iff_ne.mpr c39
             have c39b1 : ((rd t393 x10_3) != (wrap64 ((l0.length : Int) - 1))) = true := bne_iff_ne.mpr c39
             have H' := Aside0.mk H
             clear H
             obtain ⟨Ao41, co41, eo41⟩ := Kd.R_slice HO_3.out
             subst eo41
             have p410 : 0 ≤ (x10_3 : Int) := of_decide_eq_true (by first | (with_reducible assumption) | assumption)
             have q410 : x10_3 < (t393.length : Int) := of_decide_eq_true (by first | (with_reducible assumption) | assumption)
             obtain ⟨ad410, e410, hx410_0⟩ := Kd.at_int (Kd.R_reads' HO_3.out).2.2 x10_3 p410 q410
             cases e410
             replace p410 := eq_true p410
             replace q410 := eq_true q410
             go_wp2
             go_roundg k3
             case measure => have := HJ2.out; have := HK2.out; have := HK3.out; omega
             case rel => exact ⟨(x8_3), (wrap64 (x10_3 + 1)), (by first | rfl | (simp; done) | (simp [*]; done)), (by first | rfl | (simp; done) | (simp [*]; done)), H', ⟨by have := HJ2.out; have := HK2.out; have := HK3.out; omega⟩, ⟨by (with_reducible repeat (first | apply Kd.R_alloc | apply Kd.R_drewN | apply Kd.R_drew)); exact HO_3.out⟩, ⟨by (with_reducible repeat (first | refine blk_drewN ?_ _ | refine blk_drew ?_ | refine blk_alloc ?_ _)); exact BK408.out⟩, ⟨by repeat (first | (with_reducible first | exact HB.out | apply below_alloc | apply pw_below_drewN | apply below_drew1 | refine below_set ?_ GE408.out) | exact HB.out)⟩⟩
           rw [if_neg c38] at H
           exact absurd H (by simp)
         rw [if_neg c37] at H
         have c37b0 : decide (x10_3 < (t393.length : Int)) = false := decide_eq_false c37
         clear c37
         by_cases c42 : t405 = 0
         · rw [if_pos c42] at H
           have c42b0 : (t405 == 0) = true := beq_iff_eq.mpr c42
           have c42b1 : (t405 != 0) = false := bne_eq_false_iff_eq.mpr c42
           clear c42
           by_cases c43 : x8_3 = 0
           · rw [if_pos c43] at H
             have c43b0 : (x8_3 == 0) = true := beq_iff_eq.mpr c43
             have c43b1 : (x8_3 != 0) = false := bne_eq_false_iff_eq.mpr c43
             clear c43
             replace H := Option.bind_eq_some_iff.mp H
             obtain ⟨t411, A440, H⟩ := H
             replace H : (some t411) = some r := H
             have A44 := Aside0.mk A440
             clear A440
             obtain rfl := Option.some.inj H
             obtain ⟨Ao45, co45, eo45⟩ := Kd.R_slice HO_3.out
             subst eo45
             have hcz46_0 : wr.cell? ⟨gb408, 0, none⟩ = some (.int .i64 t405) := (blk_cell BK408.out 0).trans rfl
             have hcz46_1 : wr.cell? ⟨gb408, 1, none⟩ = some (.int .i64 t406) := (blk_cell BK408.out 1).trans rfl
             have hfz46_0 := blk_frozen BK408.out 0
             have hfz46_1 := blk_frozen BK408.out 1
             go_wp2_with (first | (go_at_call 10; (with_reducible refine (changeforgelaw2_added.calls k3  t411 _ A44.out).mono ?_); rintro e w47 ⟨rfl, hb⟩; have n0_ := Aside0.mk (Kd.R_below (by (with_reducible repeat (first | apply Kd.R_alloc | apply Kd.R_drewN | apply Kd.R_drew)); exact HO_3.out) hb); have n1_ := Aside0.mk (blk_below (g := gb408) (o := .cells #[.int .i64 t405, .int .i64 t406] 25 (0, 0)) (by (with_reducible repeat (first | refine blk_drewN ?_ _ | refine blk_drew ?_ | refine blk_alloc ?_ _)); exact BK408.out) hb); have n2_ := Aside0.mk (below_step (by repeat (first | (with_reducible first | exact HB.out | apply below_alloc | apply pw_below_drewN | apply below_drew1 | refine below_set ?_ GE408.out) | exact HB.out)) hb); clear HO_3; clear BK408; clear HB; have HO_3 := n0_; have BK408 := n1_; have HB := n2_; clear n0_ n1_ n2_; (try clear hb); (try clear hb2); (try clear hk); (try clear hi)))
             go_ret
             exact ⟨by first | rfl | (simp [errW_none, errW_some] <;> rfl) | (simp only [← hji13, ← hji16]; first | rfl | (simp [errW_none, errW_some] <;> rfl)) | (simp [*, errW_none, errW_some] <;> rfl), by repeat (first | (with_reducible first | exact HB.out | apply below_alloc | apply pw_below_drewN | apply below_drew1 | refine below_set ?_ GE408.out) | exact HB.out)⟩
           rw [if_neg c43] at H
           have c43b0 : (x8_3 == 0) = false := beq_eq_false_iff_ne.mpr c43
           have c43b1 : (x8_3 != 0) = true := bne_iff_ne.mpr c43
           obtain rfl := Option.some.inj H
           obtain ⟨Ao48, co48, eo48⟩ := Kd.R_slice HO_3.out
           subst eo48
           have hcz49_0 : wr.cell? ⟨gb408, 0, none⟩ = some (.int .i64 t405) := (blk_cell BK408.out 0).trans rfl
           have hcz49_1 : wr.cell? ⟨gb408, 1, none⟩ = some (.int .i64 t406) := (blk_cell BK408.out 1).trans rfl
           have hfz49_0 := blk_frozen BK408.out 0
           have hfz49_1 := blk_frozen BK408.out 1
           go_wp2
           go_ret
           exact ⟨by first | rfl | (simp [errW_none, errW_some] <;> rfl) | (simp only [← hji13, ← hji16]; first | rfl | (simp [errW_none, errW_some] <;> rfl)) | (simp [*, errW_none, errW_some] <;> rfl), by repeat (first | (with_reducible first | exact HB.out | apply below_alloc | apply pw_below_drewN | apply below_drew1 | refine below_set ?_ GE408.out) | exact HB.out)⟩
         rw [if_neg c42] at H
         have c42b0 : (t405 == 0) = false := beq_eq_false_iff_ne.mpr c42
         have c42b1 : (t405 != 0) = true := bne_iff_ne.mpr c42
         obtain rfl := Option.some.inj H
         obtain ⟨Ao50, co50, eo50⟩ := Kd.R_slice HO_3.out
         subst eo50
         have hcz51_0 : wr.cell? ⟨gb408, 0, none⟩ = some (.int .i64 t405) := (blk_cell BK408.out 0).trans rfl
         have hcz51_1 : wr.cell? ⟨gb408, 1, none⟩ = some (.int .i64 t406) := (blk_cell BK408.out 1).trans rfl
         have hfz51_0 := blk_frozen BK408.out 0
         have hfz51_1 := blk_frozen BK408.out 1
         go_wp2
         go_ret
         exact ⟨by first | rfl | (simp [errW_none, errW_some] <;> rfl) | (simp only [← hji13, ← hji16]; first | rfl | (simp [errW_none, errW_some] <;> rfl)) | (simp [*, errW_none, errW_some] <;> rfl), by repeat (first | (with_reducible first | exact HB.out | apply below_alloc | apply pw_below_drewN | apply below_drew1 | refine below_set ?_ GE408.out) | exact HB.out)⟩
       rw [if_neg c18] at H
       exact absurd H (by simp)
     rw [if_neg c17] at H
     exact absurd H (by simp)
   rw [if_neg c15] at H
   exact absurd H (by simp)
 rw [if_neg c14] at H
 exact absurd H (by simp)
end Go.Proofs.Ytidnkaopndmigaa.P
