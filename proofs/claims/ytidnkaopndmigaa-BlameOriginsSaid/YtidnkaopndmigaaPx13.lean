/- The program's functions as plain Lean functions, each with the proof that the program's call comes to what it says; written by a program of this session out of the translation. -/
import Derived.Test.YtidnkaopndmigaaPx0
import Derived.Test.YtidnkaopndmigaaPx6
import Derived.Test.YtidnkaopndmigaaPx12
namespace Go.Proofs.Ytidnkaopndmigaa.P
open Go.RowKit Go.Proofs.YtidnkaopndmigaaW.PrintWords Go.Proofs.YtidnkaopndmigaaW.PrintLast Go.Proofs.YtidnkaopndmigaaW.PrintMore
attribute [local go_sem] max2_int min2_int max_two min_two max_three min_three max_four min_four   -- for this text's walks alone
set_option linter.unusedVariables false
set_option linter.unusedSimpArgs false

/-! ### changeforgelaw2_BlameOrigins: function 4 -/
mutual
def changeforgelaw2_BlameOrigins.j0 : Nat → List (List ByteArray) → List Int → Bool → Option (Bool)
  | 0, _, _, _ => none
  | k + 1, x0, x3, x20 => if x20 = true then ((changeforgelaw2_added.f k).bind fun t356 => (some t356)) else (if 0 ≤ (wrap64 ((x0.length : Int) - 1)) then (if (wrap64 ((x0.length : Int) - 1)) < (x0.length : Int) then (if (x3.length : Int) = ((rd_L5 x0 (wrap64 ((x0.length : Int) - 1))).length : Int) then (changeforgelaw2_BlameOrigins.l0 k x0 x3 (rd_L5 x0 (wrap64 ((x0.length : Int) - 1))) 0) else (some false)) else (none)) else (none))
def changeforgelaw2_BlameOrigins.l0 : Nat → List (List ByteArray) → List Int → List ByteArray → Int → Option (Bool)
  | 0, _, _, _, _ => none
  | k + 1, x0, x3, x5, x6 => if x6 < (x3.length : Int) then (if 0 ≤ x6 then (if (rd x3 x6) < 0 then (changeforgelaw2_BlameOrigins.j2 k x0 x3 x5 x6 true) else (changeforgelaw2_BlameOrigins.j2 k x0 x3 x5 x6 (decide ((rd x3 x6) ≥ (x0.length : Int))))) else (none)) else ((changeforgelaw2_added.f k).bind fun t358 => (some t358))
def changeforgelaw2_BlameOrigins.j2 : Nat → List (List ByteArray) → List Int → List ByteArray → Int → Bool → Option (Bool)
  | 0, _, _, _, _, _ => none
  | k + 1, x0, x3, x5, x6, x52 => if x52 = true then (some false) else (if 0 ≤ x6 then (if x6 < (x3.length : Int) then (changeforgelaw2_BlameOrigins.l1 k x0 x3 x5 x6 (rd x3 x6)) else (none)) else (none))
def changeforgelaw2_BlameOrigins.l1 : Nat → List (List ByteArray) → List Int → List ByteArray → Int → Int → Option (Bool)
  | 0, _, _, _, _, _ => none
  | k + 1, x0, x3, x5, x6, x7 => if x7 < (x0.length : Int) then (if 0 ≤ x6 then (if x6 ≤ (wrap64 (x6 + 1)) then (if (wrap64 (x6 + 1)) ≤ (x5.length : Int) then (if 0 ≤ x7 then ((changeforgelaw2_follows.f k ((x5.take ((wrap64 (x6 + 1)) : Int).toNat).drop (x6 : Int).toNat) (rd_L5 x0 x7)).bind fun t364 => (if t364 = true then (changeforgelaw2_BlameOrigins.l1 k x0 x3 x5 x6 (wrap64 (x7 + 1))) else (some false))) else (none)) else (none)) else (none)) else (none)) else (changeforgelaw2_BlameOrigins.l0 k x0 x3 x5 (wrap64 (x6 + 1)))
end
def changeforgelaw2_BlameOrigins.f (k : Nat) (l0 : List (List ByteArray)) : Option (Bool) := (blame_Annotate.f k l0).bind fun bt350 => (if bt350.2.1 = 0 then (changeforgelaw2_BlameOrigins.j0 k l0 bt350.1 ((l0.length : Int) == 0)) else (changeforgelaw2_BlameOrigins.j0 k l0 bt350.1 true))
theorem changeforgelaw2_BlameOrigins.mono_l : ∀ k, (∀ y0 y1 y2, LeO (changeforgelaw2_BlameOrigins.j0 k y0 y1 y2) (changeforgelaw2_BlameOrigins.j0 (k + 1) y0 y1 y2)) ∧ (∀ y0 y1 y2 y3, LeO (changeforgelaw2_BlameOrigins.l0 k y0 y1 y2 y3) (changeforgelaw2_BlameOrigins.l0 (k + 1) y0 y1 y2 y3)) ∧ (∀ y0 y1 y2 y3 y4, LeO (changeforgelaw2_BlameOrigins.j2 k y0 y1 y2 y3 y4) (changeforgelaw2_BlameOrigins.j2 (k + 1) y0 y1 y2 y3 y4)) ∧ (∀ y0 y1 y2 y3 y4, LeO (changeforgelaw2_BlameOrigins.l1 k y0 y1 y2 y3 y4) (changeforgelaw2_BlameOrigins.l1 (k + 1) y0 y1 y2 y3 y4))
  | 0 => ⟨fun _ _ _ r h => by simp [changeforgelaw2_BlameOrigins.j0] at h, fun _ _ _ _ r h => by simp [changeforgelaw2_BlameOrigins.l0] at h, fun _ _ _ _ _ r h => by simp [changeforgelaw2_BlameOrigins.j2] at h, fun _ _ _ _ _ r h => by simp [changeforgelaw2_BlameOrigins.l1] at h⟩
  | k + 1 => by
    obtain ⟨ih0, ih1, ih2, ih3⟩ := changeforgelaw2_BlameOrigins.mono_l k
    refine ⟨?_, ?_, ?_, ?_⟩
    · intro y0 y1 y2
      unfold changeforgelaw2_BlameOrigins.j0
      repeat' first
      | (with_reducible exact ih0 _ _ _)
      | (with_reducible exact ih1 _ _ _ _)
      | (with_reducible exact ih2 _ _ _ _ _)
      | (with_reducible exact ih3 _ _ _ _ _)
      | (with_reducible exact blame_Annotate.mono _ _)
      | (with_reducible exact changeforgelaw2_added.mono _)
      | (with_reducible exact changeforgelaw2_follows.mono _ _ _)
      | (with_reducible exact LeO.refl _)
      | (with_reducible exact LeO.none _)
      | (with_reducible refine LeO.ite ?_ ?_)
      | (with_reducible refine LeO.bind ?_ (fun _ => ?_))
      | exact ih0 _ _ _
      | exact ih1 _ _ _ _
      | exact ih2 _ _ _ _ _
      | exact ih3 _ _ _ _ _
      | exact blame_Annotate.mono _ _
      | exact changeforgelaw2_added.mono _
      | exact changeforgelaw2_follows.mono _ _ _
      | exact LeO.none _
      | refine LeO.ite ?_ ?_
      | refine LeO.bind ?_ (fun _ => ?_)
    · intro y0 y1 y2 y3
      unfold changeforgelaw2_BlameOrigins.l0
      repeat' first
      | (with_reducible exact ih0 _ _ _)
      | (with_reducible exact ih1 _ _ _ _)
      | (with_reducible exact ih2 _ _ _ _ _)
      | (with_reducible exact ih3 _ _ _ _ _)
      | (with_reducible exact blame_Annotate.mono _ _)
      | (with_reducible exact changeforgelaw2_added.mono _)
      | (with_reducible exact changeforgelaw2_follows.mono _ _ _)
      | (with_reducible exact LeO.refl _)
      | (with_reducible exact LeO.none _)
      | (with_reducible refine LeO.ite ?_ ?_)
      | (with_reducible refine LeO.bind ?_ (fun _ => ?_))
      | exact ih0 _ _ _
      | exact ih1 _ _ _ _
      | exact ih2 _ _ _ _ _
      | exact ih3 _ _ _ _ _
      | exact blame_Annotate.mono _ _
      | exact changeforgelaw2_added.mono _
      | exact changeforgelaw2_follows.mono _ _ _
      | exact LeO.none _
      | refine LeO.ite ?_ ?_
      | refine LeO.bind ?_ (fun _ => ?_)
    · intro y0 y1 y2 y3 y4
      unfold changeforgelaw2_BlameOrigins.j2
      repeat' first
      | (with_reducible exact ih0 _ _ _)
      | (with_reducible exact ih1 _ _ _ _)
      | (with_reducible exact ih2 _ _ _ _ _)
      | (with_reducible exact ih3 _ _ _ _ _)
      | (with_reducible exact blame_Annotate.mono _ _)
      | (with_reducible exact changeforgelaw2_added.mono _)
      | (with_reducible exact changeforgelaw2_follows.mono _ _ _)
      | (with_reducible exact LeO.refl _)
      | (with_reducible exact LeO.none _)
      | (with_reducible refine LeO.ite ?_ ?_)
      | (with_reducible refine LeO.bind ?_ (fun _ => ?_))
      | exact ih0 _ _ _
      | exact ih1 _ _ _ _
      | exact ih2 _ _ _ _ _
      | exact ih3 _ _ _ _ _
      | exact blame_Annotate.mono _ _
      | exact changeforgelaw2_added.mono _
      | exact changeforgelaw2_follows.mono _ _ _
      | exact LeO.none _
      | refine LeO.ite ?_ ?_
      | refine LeO.bind ?_ (fun _ => ?_)
    · intro y0 y1 y2 y3 y4
      unfold changeforgelaw2_BlameOrigins.l1
      repeat' first
      | (with_reducible exact ih0 _ _ _)
      | (with_reducible exact ih1 _ _ _ _)
      | (with_reducible exact ih2 _ _ _ _ _)
      | (with_reducible exact ih3 _ _ _ _ _)
      | (with_reducible exact blame_Annotate.mono _ _)
      | (with_reducible exact changeforgelaw2_added.mono _)
      | (with_reducible exact changeforgelaw2_follows.mono _ _ _)
      | (with_reducible exact LeO.refl _)
      | (with_reducible exact LeO.none _)
      | (with_reducible refine LeO.ite ?_ ?_)
      | (with_reducible refine LeO.bind ?_ (fun _ => ?_))
      | exact ih0 _ _ _
      | exact ih1 _ _ _ _
      | exact ih2 _ _ _ _ _
      | exact ih3 _ _ _ _ _
      | exact blame_Annotate.mono _ _
      | exact changeforgelaw2_added.mono _
      | exact changeforgelaw2_follows.mono _ _ _
      | exact LeO.none _
      | refine LeO.ite ?_ ?_
      | refine LeO.bind ?_ (fun _ => ?_)
theorem changeforgelaw2_BlameOrigins.mono : ∀ a0 k, LeO (changeforgelaw2_BlameOrigins.f k a0) (changeforgelaw2_BlameOrigins.f (k + 1) a0) := by
 intro a0 k
 obtain ⟨ih0, ih1, ih2, ih3⟩ := changeforgelaw2_BlameOrigins.mono_l k
 unfold changeforgelaw2_BlameOrigins.f
 repeat' first
  | (with_reducible exact ih0 _ _ _)
  | (with_reducible exact ih1 _ _ _ _)
  | (with_reducible exact ih2 _ _ _ _ _)
  | (with_reducible exact ih3 _ _ _ _ _)
  | (with_reducible exact blame_Annotate.mono _ _)
  | (with_reducible exact changeforgelaw2_added.mono _)
  | (with_reducible exact changeforgelaw2_follows.mono _ _ _)
  | (with_reducible exact LeO.refl _)
  | (with_reducible exact LeO.none _)
  | (with_reducible refine LeO.ite ?_ ?_)
  | (with_reducible refine LeO.bind ?_ (fun _ => ?_))
  | exact ih0 _ _ _
  | exact ih1 _ _ _ _
  | exact ih2 _ _ _ _ _
  | exact ih3 _ _ _ _ _
  | exact blame_Annotate.mono _ _
  | exact changeforgelaw2_added.mono _
  | exact changeforgelaw2_follows.mono _ _ _
  | exact LeO.none _
  | refine LeO.ite ?_ ?_
  | refine LeO.bind ?_ (fun _ => ?_)
set_option maxHeartbeats 8000000 in
set_option maxRecDepth 100000 in
theorem changeforgelaw2_BlameOrigins.calls (k : Nat) (A0 : Option Addr) (c0 : Nat) (l0 : List (List ByteArray)) (r : Bool) (w : World) (hr0 : Kd.C (Kd.slice 9 Kd.string) w A0 l0.length l0) (hc0 : l0.length ≤ c0) (h : changeforgelaw2_BlameOrigins.f k l0 = some r) :
    Calls Try.prog 4 #[.slice A0 l0.length c0] w fun e w' => e = .returned (.bool r) ∧ Below w.heap.size w w' := by
 have hu25 := Try.underlying25
 have HR0 := Aside0.mk hr0
 have HC0 := Aside0.mk hc0
 clear hr0 hc0
 have HB := Aside0.mk (Below.refl w.heap.size w)
 have H : ((blame_Annotate.f k l0).bind fun bt350 => (if bt350.2.1 = 0 then (changeforgelaw2_BlameOrigins.j0 k l0 bt350.1 ((l0.length : Int) == 0)) else (changeforgelaw2_BlameOrigins.j0 k l0 bt350.1 true))) = some r := h
 clear h
 replace H := Option.bind_eq_some_iff.mp H
 obtain ⟨⟨t350, t353, t354⟩, A20, H⟩ := H
 replace H : (if t353 = 0 then (changeforgelaw2_BlameOrigins.j0 k l0 t350 ((l0.length : Int) == 0)) else (changeforgelaw2_BlameOrigins.j0 k l0 t350 true)) = some r := H
 have A2 := Aside0.mk A20
 clear A20
 have HC3 := Aside0.mk H
 clear H
 go_enter Try.func4, Try.ntmps4
 go_upto_region 2 with (first | (go_at_call 8; (with_reducible refine (blame_Annotate.calls k (fun k_ => k_ < w.heap.size) _ _ l0 t350 t353 t354 _ ?side1 A2.out).mono ?_); (case side1 => exact Kd.V_mk HC0.out (Kd.F_below (Kd.C_F (Kd.heap_slice 9 Kd.heap_string) HR0.out) (by repeat (first | (with_reducible first | exact HB.out | apply below_alloc | apply pw_below_drewN | apply below_drew1) | exact HB.out)))); rintro e w4 ⟨v351, rfl, ho0, hb⟩; have n0_ := Aside0.mk (Kd.R_lower (Kd.R_mono (ok' := fun k_ => True) ho0 (fun _ hk_ => trivial)) (below_size (by repeat (first | (with_reducible first | exact HB.out | apply below_alloc | apply pw_below_drewN | apply below_drew1) | exact HB.out)))); have n1_ := Aside0.mk (below_step (by repeat (first | (with_reducible first | exact HB.out | apply below_alloc | apply pw_below_drewN | apply below_drew1) | exact HB.out)) hb); clear HB; have HO352 := n0_; have HB := n1_; clear n0_ n1_; (try clear hb); (try clear hb2); (try clear hk); (try clear hi); (try clear ho0)) | ((with_reducible refine gate_dst (N := 4) rfl ?_); (try (refine gate_guard (by rfl) ?_; dsimp only)); refine box_event ?hg (N := 4) ?hd (cs := #[.int .i64 0, .int .i64 0]) (t := 25) ?hr ?_; (case hd => rfl); (case hg => rfl); (case hr => first | (go_simp; done) | (go_simp; rfl)); intro gb355 hg w5 hbox hb; have n0_ := Aside0.mk (Kd.R_below (by (with_reducible repeat (first | apply Kd.R_alloc | apply Kd.R_drewN | apply Kd.R_drew)); exact HO352.out) hb); have n1_ := Aside0.mk (below_step (by repeat (first | (with_reducible first | exact HB.out | apply below_alloc | apply pw_below_drewN | apply below_drew1) | exact HB.out)) hb); have n2_ := Aside0.mk (hbox); have n3_ := Aside0.mk ((by rw [hg]; exact (below_size (by repeat (first | (with_reducible first | exact HB.out | apply below_alloc | apply pw_below_drewN | apply below_drew1) | exact HB.out))) : w.heap.size ≤ gb355)); have n4_ := Aside0.mk ((by rw [hg]; exact (below_size (by repeat (first | (with_reducible first | exact HB.out | apply below_alloc | apply pw_below_drewN | apply below_drew1) | exact HB.out))) : w.heap.size ≤ gb355)); clear HO352; clear HB; have HO352 := n0_; have HB := n1_; have BK355 := n2_; have GW355 := n3_; have GE355 := n4_; clear n0_ n1_ n2_ n3_ n4_; clear hb hbox hg; have hcz6_0 : w5.cell? ⟨gb355, 0, none⟩ = some (.int .i64 0) := (blk_cell BK355.out 0).trans rfl; have hcz6_1 : w5.cell? ⟨gb355, 1, none⟩ = some (.int .i64 0) := (blk_cell BK355.out 1).trans rfl; have hfz6_0 := blk_frozen BK355.out 0; have hfz6_1 := blk_frozen BK355.out 1))
 repeat (go_quiet (first | (go_at_call 8; (with_reducible refine (blame_Annotate.calls k (fun k_ => k_ < w.heap.size) _ _ l0 t350 t353 t354 _ ?side1 A2.out).mono ?_); (case side1 => exact Kd.V_mk HC0.out (Kd.F_below (Kd.C_F (Kd.heap_slice 9 Kd.heap_string) HR0.out) (by repeat (first | (with_reducible first | exact HB.out | apply below_alloc | apply pw_below_drewN | apply below_drew1) | exact HB.out)))); rintro e w4 ⟨v351, rfl, ho0, hb⟩; have n0_ := Aside0.mk (Kd.R_lower (Kd.R_mono (ok' := fun k_ => True) ho0 (fun _ hk_ => trivial)) (below_size (by repeat (first | (with_reducible first | exact HB.out | apply below_alloc | apply pw_below_drewN | apply below_drew1) | exact HB.out)))); have n1_ := Aside0.mk (below_step (by repeat (first | (with_reducible first | exact HB.out | apply below_alloc | apply pw_below_drewN | apply below_drew1) | exact HB.out)) hb); clear HB; have HO352 := n0_; have HB := n1_; clear n0_ n1_; (try clear hb); (try clear hb2); (try clear hk); (try clear hi); (try clear ho0)) | ((with_reducible refine gate_dst (N := 4) rfl ?_); (try (refine gate_guard (by rfl) ?_; dsimp only)); refine box_event ?hg (N := 4) ?hd (cs := #[.int .i64 0, .int .i64 0]) (t := 25) ?hr ?_; (case hd => rfl); (case hg => rfl); (case hr => first | (go_simp; done) | (go_simp; rfl)); intro gb355 hg w5 hbox hb; have n0_ := Aside0.mk (Kd.R_below (by (with_reducible repeat (first | apply Kd.R_alloc | apply Kd.R_drewN | apply Kd.R_drew)); exact HO352.out) hb); have n1_ := Aside0.mk (below_step (by repeat (first | (with_reducible first | exact HB.out | apply below_alloc | apply pw_below_drewN | apply below_drew1) | exact HB.out)) hb); have n2_ := Aside0.mk (hbox); have n3_ := Aside0.mk ((by rw [hg]; exact (below_size (by repeat (first | (with_reducible first | exact HB.out | apply below_alloc | apply pw_below_drewN | apply below_drew1) | exact HB.out))) : w.heap.size ≤ gb355)); have n4_ := Aside0.mk ((by rw [hg]; exact (below_size (by repeat (first | (with_reducible first | exact HB.out | apply below_alloc | apply pw_below_drewN | apply below_drew1) | exact HB.out))) : w.heap.size ≤ gb355)); clear HO352; clear HB; have HO352 := n0_; have HB := n1_; have BK355 := n2_; have GW355 := n3_; have GE355 := n4_; clear n0_ n1_ n2_ n3_ n4_; clear hb hbox hg; have hcz6_0 : w5.cell? ⟨gb355, 0, none⟩ = some (.int .i64 0) := (blk_cell BK355.out 0).trans rfl; have hcz6_1 : w5.cell? ⟨gb355, 1, none⟩ = some (.int .i64 0) := (blk_cell BK355.out 1).trans rfl; have hfz6_0 := blk_frozen BK355.out 0; have hfz6_1 := blk_frozen BK355.out 1)); go_upto_region 2 with (first | (go_at_call 8; (with_reducible refine (blame_Annotate.calls k (fun k_ => k_ < w.heap.size) _ _ l0 t350 t353 t354 _ ?side1 A2.out).mono ?_); (case side1 => exact Kd.V_mk HC0.out (Kd.F_below (Kd.C_F (Kd.heap_slice 9 Kd.heap_string) HR0.out) (by repeat (first | (with_reducible first | exact HB.out | apply below_alloc | apply pw_below_drewN | apply below_drew1) | exact HB.out)))); rintro e w4 ⟨v351, rfl, ho0, hb⟩; have n0_ := Aside0.mk (Kd.R_lower (Kd.R_mono (ok' := fun k_ => True) ho0 (fun _ hk_ => trivial)) (below_size (by repeat (first | (with_reducible first | exact HB.out | apply below_alloc | apply pw_below_drewN | apply below_drew1) | exact HB.out)))); have n1_ := Aside0.mk (below_step (by repeat (first | (with_reducible first | exact HB.out | apply below_alloc | apply pw_below_drewN | apply below_drew1) | exact HB.out)) hb); clear HB; have HO352 := n0_; have HB := n1_; clear n0_ n1_; (try clear hb); (try clear hb2); (try clear hk); (try clear hi); (try clear ho0)) | ((with_reducible refine gate_dst (N := 4) rfl ?_); (try (refine gate_guard (by rfl) ?_; dsimp only)); refine box_event ?hg (N := 4) ?hd (cs := #[.int .i64 0, .int .i64 0]) (t := 25) ?hr ?_; (case hd => rfl); (case hg => rfl); (case hr => first | (go_simp; done) | (go_simp; rfl)); intro gb355 hg w5 hbox hb; have n0_ := Aside0.mk (Kd.R_below (by (with_reducible repeat (first | apply Kd.R_alloc | apply Kd.R_drewN | apply Kd.R_drew)); exact HO352.out) hb); have n1_ := Aside0.mk (below_step (by repeat (first | (with_reducible first | exact HB.out | apply below_alloc | apply pw_below_drewN | apply below_drew1) | exact HB.out)) hb); have n2_ := Aside0.mk (hbox); have n3_ := Aside0.mk ((by rw [hg]; exact (below_size (by repeat (first | (with_reducible first | exact HB.out | apply below_alloc | apply pw_below_drewN | apply below_drew1) | exact HB.out))) : w.heap.size ≤ gb355)); have n4_ := Aside0.mk ((by rw [hg]; exact (below_size (by repeat (first | (with_reducible first | exact HB.out | apply below_alloc | apply pw_below_drewN | apply below_drew1) | exact HB.out))) : w.heap.size ≤ gb355)); clear HO352; clear HB; have HO352 := n0_; have HB := n1_; have BK355 := n2_; have GW355 := n3_; have GE355 := n4_; clear n0_ n1_ n2_ n3_ n4_; clear hb hbox hg; have hcz6_0 : w5.cell? ⟨gb355, 0, none⟩ = some (.int .i64 0) := (blk_cell BK355.out 0).trans rfl; have hcz6_1 : w5.cell? ⟨gb355, 1, none⟩ = some (.int .i64 0) := (blk_cell BK355.out 1).trans rfl; have hfz6_0 := blk_frozen BK355.out 0; have hfz6_1 := blk_frozen BK355.out 1)))
 (try simp only [Act.put, List.setIfInBounds_toArray, List.set_cons_zero, List.set_cons_succ])
 go_cut [20] (fun v20 wc => ∃ (kq : Nat) (x20_2 : Bool), v20 = .bool x20_2 ∧ Aside0 (changeforgelaw2_BlameOrigins.j0 kq l0 t350 x20_2 = some r) ∧ Aside0 (kq ≤ k) ∧ Aside0 (Kd.R (Kd.int .i64) 3 wc w.heap.size (fun _ => True) v351 t350) ∧ Aside0 (Below w.heap.size w wc))
 case first =>
  have H := HC3.out
  clear HC3
  by_cases c7 : t353 = 0
  · rw [if_pos c7] at H
    have c7b0 : (t353 == 0) = true := beq_iff_eq.mpr c7
    have c7b1 : (t353 != 0) = false := bne_eq_false_iff_eq.mpr c7
    clear c7
    (first | rw [c7b0] | (simp only [i64_w, i32_w]; rw [c7b0]) | skip)
    have H' := Aside0.mk H
    clear H
    have hcz8_0 : w5.cell? ⟨gb355, 0, none⟩ = some (.int .i64 0) := (blk_cell BK355.out 0).trans rfl
    have hcz8_1 : w5.cell? ⟨gb355, 1, none⟩ = some (.int .i64 0) := (blk_cell BK355.out 1).trans rfl
    have hfz8_0 := blk_frozen BK355.out 0
    have hfz8_1 := blk_frozen BK355.out 1
    go_wp2
    repeat (go_quiet (fail); try go_wp2)
    go_meet
    case rel => exact ⟨_, (((l0.length : Int) == 0)), (by first | rfl | (simp; done) | (simp [*]; done)), H', ⟨by first | omega | exact Nat.le_refl _⟩, ⟨by (with_reducible repeat (first | apply Kd.R_alloc | apply Kd.R_drewN | apply Kd.R_drew)); exact Kd.R_mono (Kd.R_far (p := ⟨gb355, 1, none⟩) (Kd.R_far (p := ⟨gb355, 0, none⟩) (Kd.R_types HO352.out BK355.out (by decide)) (fun _ hk => hk.2) (.int .i64 t353)) (fun _ hk => hk.2) (.int .i64 t354)) (fun _ hk => trivial)⟩, ⟨by repeat (first | (with_reducible first | exact HB.out | apply below_alloc | apply pw_below_drewN | apply below_drew1 | refine below_set ?_ GE355.out) | exact HB.out)⟩⟩
  rw [if_neg c7] at H
  have c7b0 : (t353 == 0) = false := beq_eq_false_iff_ne.mpr c7
  have c7b1 : (t353 != 0) = true := bne_iff_ne.mpr c7
  (first | rw [c7b0] | (simp only [i64_w, i32_w]; rw [c7b0]) | skip)
  have H' := Aside0.mk H
  clear H
  have hcz9_0 : w5.cell? ⟨gb355, 0, none⟩ = some (.int .i64 0) := (blk_cell BK355.out 0).trans rfl
  have hcz9_1 : w5.cell? ⟨gb355, 1, none⟩ = some (.int .i64 0) := (blk_cell BK355.out 1).trans rfl
  have hfz9_0 := blk_frozen BK355.out 0
  have hfz9_1 := blk_frozen BK355.out 1
  go_wp2
  repeat (go_quiet (fail); try go_wp2)
  go_meet
  case rel => exact ⟨_, (true), (by first | rfl | (simp; done) | (simp [*]; done)), H', ⟨by first | omega | exact Nat.le_refl _⟩, ⟨by (with_reducible repeat (first | apply Kd.R_alloc | apply Kd.R_drewN | apply Kd.R_drew)); exact Kd.R_mono (Kd.R_far (p := ⟨gb355, 1, none⟩) (Kd.R_far (p := ⟨gb355, 0, none⟩) (Kd.R_types HO352.out BK355.out (by decide)) (fun _ hk => hk.2) (.int .i64 t353)) (fun _ hk => hk.2) (.int .i64 t354)) (fun _ hk => trivial)⟩, ⟨by repeat (first | (with_reducible first | exact HB.out | apply below_alloc | apply pw_below_drewN | apply below_drew1 | refine below_set ?_ GE355.out) | exact HB.out)⟩⟩
 clear HC3
 try clear p2
 try clear c4
 try clear c7
 try clear c7b0
 try clear c7b1
 try clear hcz6_0
 try clear hcz6_1
 try clear hcz8_0
 try clear hcz8_1
 try clear hcz9_0
 try clear hcz9_1
 try clear hfz6_0
 try clear hfz6_1
 try clear hfz8_0
 try clear hfz8_1
 try clear hfz9_0
 try clear hfz9_1
 obtain ⟨kq, x20_2, rfl, HA, HJ2, HO_3, HB⟩ := hcut
 cases kq with
 | zero => exact absurd HA.out (by simp [changeforgelaw2_BlameOrigins.j0])
 | succ kj2 =>
 have H := HA.out
 clear HA
 simp only [changeforgelaw2_BlameOrigins.j0] at H
 by_cases c10 : x20_2 = true
 · subst c10
   have H1 : ((changeforgelaw2_added.f kj2).bind fun t356 => (some t356)) = some r := by rw [if_pos rfl] at H; exact H
   clear H
   have H := H1
   clear H1
   replace H := Option.bind_eq_some_iff.mp H
   obtain ⟨t356, A110, H⟩ := H
   replace H : (some t356) = some r := H
   have A11 := Aside0.mk A110
   clear A110
   obtain rfl := Option.some.inj H
   go_wp2_with (first | (go_at_call 10; (with_reducible refine (changeforgelaw2_added.calls kj2  t356 _ A11.out).mono ?_); rintro e w12 ⟨rfl, hb⟩; have n0_ := Aside0.mk (Kd.R_below (by (with_reducible repeat (first | apply Kd.R_alloc | apply Kd.R_drewN | apply Kd.R_drew)); exact HO_3.out) hb); have n1_ := Aside0.mk (below_step (by repeat (first | (with_reducible first | exact HB.out | apply below_alloc | apply pw_below_drewN | apply below_drew1) | exact HB.out)) hb); clear HO_3; clear HB; have HO_3 := n0_; have HB := n1_; clear n0_ n1_; (try clear hb); (try clear hb2); (try clear hk); (try clear hi)))
   repeat (go_quiet (first | (go_at_call 10; (with_reducible refine (changeforgelaw2_added.calls kj2  t356 _ A11.out).mono ?_); rintro e w12 ⟨rfl, hb⟩; have n0_ := Aside0.mk (Kd.R_below (by (with_reducible repeat (first | apply Kd.R_alloc | apply Kd.R_drewN | apply Kd.R_drew)); exact HO_3.out) hb); have n1_ := Aside0.mk (below_step (by repeat (first | (with_reducible first | exact HB.out | apply below_alloc | apply pw_below_drewN | apply below_drew1) | exact HB.out)) hb); clear HO_3; clear HB; have HO_3 := n0_; have HB := n1_; clear n0_ n1_; (try clear hb); (try clear hb2); (try clear hk); (try clear hi))); try go_wp2_with (first | (go_at_call 10; (with_reducible refine (changeforgelaw2_added.calls kj2  t356 _ A11.out).mono ?_); rintro e w12 ⟨rfl, hb⟩; have n0_ := Aside0.mk (Kd.R_below (by (with_reducible repeat (first | apply Kd.R_alloc | apply Kd.R_drewN | apply Kd.R_drew)); exact HO_3.out) hb); have n1_ := Aside0.mk (below_step (by repeat (first | (with_reducible first | exact HB.out | apply below_alloc | apply pw_below_drewN | apply below_drew1) | exact HB.out)) hb); clear HO_3; clear HB; have HO_3 := n0_; have HB := n1_; clear n0_ n1_; (try clear hb); (try clear hb2); (try clear hk); (try clear hi))))
   go_ret
   exact ⟨by first | rfl | (simp [errW_none, errW_some] <;> rfl) | (simp [*, errW_none, errW_some] <;> rfl), by repeat (first | (with_reducible first | exact HB.out | apply below_alloc | apply pw_below_drewN | apply below_drew1) | exact HB.out)⟩
 replace c10 := Bool.eq_false_iff.mpr c10
 subst c10
 have H1 : (if 0 ≤ (wrap64 ((l0.length : Int) - 1)) then (if (wrap64 ((l0.length : Int) - 1)) < (l0.length : Int) then (if (t350.length : Int) = ((rd_L5 l0 (wrap64 ((l0.length : Int) - 1))).length : Int) then (changeforgelaw2_BlameOrigins.l0 kj2 l0 t350 (rd_L5 l0 (wrap64 ((l0.length : Int) - 1))) 0) else (some false)) else (none)) else (none)) = some r := by rw [if_neg (show ¬ (false = true) by decide)] at H; exact H
 clear H
 have H := H1
 clear H1
 obtain ⟨ji13, hji13⟩ : ∃ j_ : Int, (wrap64 ((l0.length : Int) - 1)) = j_ := ⟨_, rfl⟩
 replace H : (if 0 ≤ (ji13) then (if (ji13) < (l0.length : Int) then (if (t350.length : Int) = ((rd_L5 l0 (ji13)).length : Int) then (changeforgelaw2_BlameOrigins.l0 kj2 l0 t350 (rd_L5 l0 (ji13)) 0) else (some false)) else (none)) else (none)) = some r := by first | (rw [hji13] at H; exact H) | (simp only [hji13] at H ⊢; exact H)
 have hji13w : (IntKind.i64.wrap ((l0.length : Int) - 1)) = ji13 := (i64_w _).trans hji13
 by_cases c14 : 0 ≤ (ji13)
 · rw [if_pos c14] at H
   have c14b0 : decide (0 ≤ (ji13)) = true := decide_eq_true c14
   clear c14
   by_cases c15 : (ji13) < (l0.length : Int)
   · rw [if_pos c15] at H
     have c15b0 : decide ((ji13) < (l0.length : Int)) = true := decide_eq_true c15
     clear c15
     by_cases c16 : (t350.length : Int) = ((rd_L5 l0 (ji13)).length : Int)
     · rw [if_pos c16] at H
       have c16b0 : ((t350.length : Int) == ((rd_L5 l0 (ji13)).length : Int)) = true := beq_iff_eq.mpr c16
       have c16b1 : ((t350.length : Int) != ((rd_L5 l0 (ji13)).length : Int)) = false := bne_eq_false_iff_eq.mpr c16
       have c16b2 : (t350.length == (rd_L5 l0 (ji13)).length) = true := by first | simpa using c16 | (simp at c16 ⊢; omega)
       clear c16
       have H' := Aside0.mk H
       clear H
       have p357 : 0 ≤ ((ji13) : Int) := of_decide_eq_true (by first | (with_reducible assumption) | assumption)
       have q357 : (ji13) < (l0.length : Int) := of_decide_eq_true (by first | (with_reducible assumption) | assumption)
       obtain ⟨ad357, A357_0, c357_0, e357, hx357_0, hl357_0, hi357_0⟩ := at_L5 HR0.out (ji13) p357 q357
       cases e357
       replace hx357_0 := (HB.out.cell (World.block_lt_of_cell? w _ hx357_0)).trans hx357_0
       have HR357_0 := Aside0.mk hi357_0
       have HC357_0 := Aside0.mk hl357_0
       clear hi357_0 hl357_0
       replace p357 := eq_true p357
       replace q357 := eq_true q357
       obtain ⟨Ao17, co17, eo17⟩ := Kd.R_slice HO_3.out
       subst eo17
       go_wp2
       repeat (go_quiet (fail); try go_wp2)
       go_loopg [6] kj2 (fun kq v6 w' => ∃ (x6_2 : Int), v6 = .int .i64 x6_2 ∧ Aside0 (changeforgelaw2_BlameOrigins.l0 kq l0 t350 (rd_L5 l0 (ji13)) x6_2 = some r) ∧ Aside0 (kq ≤ kj2) ∧ Aside0 (Kd.R (Kd.int .i64) 3 w' w.heap.size (fun _ => True) (.slice Ao17 t350.length co17) t350) ∧ Aside0 (Below w.heap.size w w'))
       case atStart => exact ⟨(0), (by first | rfl | (simp; done) | (simp [*]; done)), H', ⟨Nat.le_refl _⟩, ⟨by (with_reducible repeat (first | apply Kd.R_alloc | apply Kd.R_drewN | apply Kd.R_drew)); exact HO_3.out⟩, ⟨by repeat (first | (with_reducible first | exact HB.out | apply below_alloc | apply pw_below_drewN | apply below_drew1) | exact HB.out)⟩⟩
       clear H'
       try clear c1
       try clear p2
       try clear c3
       try clear p3
       try clear q3
       try clear hx3
       try clear c4
       try clear p6
       try clear c7
       try clear c7b0
       try clear c7b1
       try clear c10
       try clear c14
       try clear c14b0
       try clear c15
       try clear c15b0
       try clear c16
       try clear c16b0
       try clear c16b1
       try clear c16b2
       try clear hcz6_0
       try clear hcz6_1
       try clear hcz8_0
       try clear hcz8_1
       try clear hcz9_0
       try clear hcz9_1
       try clear hfz6_0
       try clear hfz6_1
       try clear hfz8_0
       try clear hfz8_1
       try clear hfz9_0
       try clear hfz9_1
       try clear hx357_0
       try clear p2
       try clear p357
       try clear q357
       obtain ⟨x6_2, rfl, HA, HK2, HO_3, HB⟩ := hrel
       cases gk with
       | zero => exact absurd HA.out (by simp [changeforgelaw2_BlameOrigins.l0])
       | succ k2 =>
       have H := HA.out
       clear HA
       simp only [changeforgelaw2_BlameOrigins.l0] at H
       by_cases c18 : x6_2 < (t350.length : Int)
       · rw [if_pos c18] at H
         have c18b0 : decide (x6_2 < (t350.length : Int)) = true := decide_eq_true c18
         clear c18
         have HC19 := Aside0.mk H
         clear H
         go_upto_region 10 with (fail)
         repeat (go_quiet (fail); go_upto_region 10 with (fail))
         go_cut [52] (fun v52 wc => ∃ (kq : Nat) (x52_18 : Bool), v52 = .bool x52_18 ∧ Aside0 (changeforgelaw2_BlameOrigins.j2 kq l0 t350 (rd_L5 l0 (ji13)) x6_2 x52_18 = some r) ∧ Aside0 (kq ≤ k2) ∧ Aside0 (Kd.R (Kd.int .i64) 3 wc w.heap.size (fun _ => True) (.slice Ao17 t350.length co17) t350) ∧ Aside0 (Below w.heap.size w wc))
         case first =>
          have H := HC19.out
          clear HC19
          by_cases c20 : 0 ≤ x6_2
          · rw [if_pos c20] at H
            have c20b0 : decide (0 ≤ x6_2) = true := decide_eq_true c20
            clear c20
            (first | rw [c20b0] | (simp only [i64_w, i32_w]; rw [c20b0]) | skip)
            by_cases c21 : (rd t350 x6_2) < 0
            · rw [if_pos c21] at H
              have c21b0 : decide ((rd t350 x6_2) < 0) = true := decide_eq_true c21
              clear c21
              have H' := Aside0.mk H
              clear H
              have p359 : 0 ≤ (x6_2 : Int) := of_decide_eq_true (by first | (with_reducible assumption) | assumption)
              have q359 : x6_2 < (t350.length : Int) := of_decide_eq_true (by first | (with_reducible assumption) | assumption)
              obtain ⟨ad359, e359, hx359_0⟩ := Kd.at_int (Kd.R_reads' HO_3.out).2.2 x6_2 p359 q359
              cases e359
              replace p359 := eq_true p359
              replace q359 := eq_true q359
              go_wp2
              repeat (go_quiet (fail); try go_wp2)
              go_meet
              case rel => exact ⟨_, (true), (by first | rfl | (simp; done) | (simp [*]; done)), H', ⟨by have := HJ2.out; have := HK2.out; first | omega | exact Nat.le_refl _⟩, ⟨by (with_reducible repeat (first | apply Kd.R_alloc | apply Kd.R_drewN | apply Kd.R_drew)); exact HO_3.out⟩, ⟨by repeat (first | (with_reducible first | exact HB.out | apply below_alloc | apply pw_below_drewN | apply below_drew1) | exact HB.out)⟩⟩
            rw [if_neg c21] at H
            have c21b0 : decide ((rd t350 x6_2) < 0) = false := decide_eq_false c21
            clear c21
            have H' := Aside0.mk H
            clear H
            have p359 : 0 ≤ (x6_2 : Int) := of_decide_eq_true (by first | (with_reducible assumption) | assumption)
            have q359 : x6_2 < (t350.length : Int) := of_decide_eq_true (by first | (with_reducible assumption) | assumption)
            obtain ⟨ad359, e359, hx359_0⟩ := Kd.at_int (Kd.R_reads' HO_3.out).2.2 x6_2 p359 q359
            cases e359
            replace p359 := eq_true p359
            replace q359 := eq_true q359
            have p360 : 0 ≤ (x6_2 : Int) := of_decide_eq_true (by first | (with_reducible assumption) | assumption)
            have q360 : x6_2 < (t350.length : Int) := of_decide_eq_true (by first | (with_reducible assumption) | assumption)
            obtain ⟨ad360, e360, hx360_0⟩ := Kd.at_int (Kd.R_reads' HO_3.out).2.2 x6_2 p360 q360
            obtain rfl : ad359 = ad360 := (by injection e360)
            replace p360 := eq_true p360
            replace q360 := eq_true q360
            go_wp2
            repeat (go_quiet (fail); try go_wp2)
            go_meet
            case rel => exact ⟨_, (decide ((rd t350 x6_2) ≥ (l0.length : Int))), (by first | rfl | (simp; done) | (simp [*]; done)), H', ⟨by have := HJ2.out; have := HK2.out; first | omega | exact Nat.le_refl _⟩, ⟨by (with_reducible repeat (first | apply Kd.R_alloc | apply Kd.R_drewN | apply Kd.R_drew)); exact HO_3.out⟩, ⟨by repeat (first | (with_reducible first | exact HB.out | apply below_alloc | apply pw_below_drewN | apply below_drew1) | exact HB.out)⟩⟩
          rw [if_neg c20] at H
          exact absurd H (by simp)
         clear HC19
         try clear c1
         try clear c2
         try clear p2
         try clear c3
         try clear p3
         try clear q3
         try clear hx3
         try clear c4
         try clear p6
         try clear c7
         try clear c7b0
         try clear c7b1
         try clear c10
         try clear c14
         try clear c14b0
         try clear c15
         try clear c15b0
         try clear c16
         try clear c16b0
         try clear c16b1
         try clear c16b2
         try clear c18
         try clear c18b0
         try clear c20
         try clear c20b0
         try clear c21
         try clear c21b0
         try clear hcz6_0
         try clear hcz6_1
         try clear hcz8_0
         try clear hcz8_1
         try clear hcz9_0
         try clear hcz9_1
         try clear hfz6_0
         try clear hfz6_1
         try clear hfz8_0
         try clear hfz8_1
         try clear hfz9_0
         try clear hfz9_1
         try clear hx357_0
         try clear hx359_0
         try clear hx360_0
         try clear p2
         try clear p3
         try clear p357
         try clear p359
         try clear p360
         try clear p6
         try clear q3
         try clear q357
         try clear q359
         try clear q360
         obtain ⟨kq, x52_18, rfl, HA, HJ18, HO_3, HB⟩ := hcut
         cases kq with
         | zero => exact absurd HA.out (by simp [changeforgelaw2_BlameOrigins.j2])
         | succ kj18 =>
         have H := HA.out
         clear HA
         simp only [changeforgelaw2_BlameOrigins.j2] at H
         by_cases c22 : x52_18 = true
         · subst c22
           have H1 : (some false) = some r := by rw [if_pos rfl] at H; exact H
           clear H
           have H := H1
           clear H1
           obtain rfl := Option.some.inj H
           go_wp2
           repeat (go_quiet (fail); try go_wp2)
           go_ret
           exact ⟨by first | rfl | (simp [errW_none, errW_some] <;> rfl) | (simp only [← hji13]; first | rfl | (simp [errW_none, errW_some] <;> rfl)) | (simp [*, errW_none, errW_some] <;> rfl), by repeat (first | (with_reducible first | exact HB.out | apply below_alloc | apply pw_below_drewN | apply below_drew1) | exact HB.out)⟩
         replace c22 := Bool.eq_false_iff.mpr c22
         subst c22
         have H1 : (if 0 ≤ x6_2 then (if x6_2 < (t350.length : Int) then (changeforgelaw2_BlameOrigins.l1 kj18 l0 t350 (rd_L5 l0 (ji13)) x6_2 (rd t350 x6_2)) else (none)) else (none)) = some r := by rw [if_neg (show ¬ (false = true) by decide)] at H; exact H
         clear H
         have H := H1
         clear H1
         by_cases c23 : 0 ≤ x6_2
         · rw [if_pos c23] at H
           have c23b0 : decide (0 ≤ x6_2) = true := decide_eq_true c23
           clear c23
           by_cases c24 : x6_2 < (t350.length : Int)
           · rw [if_pos c24] at H
             have c24b0 : decide (x6_2 < (t350.length : Int)) = true := decide_eq_true c24
             clear c24
             have H' := Aside0.mk H
             clear H
             have p361 : 0 ≤ (x6_2 : Int) := of_decide_eq_true (by first | (with_reducible assumption) | assumption)
             have q361 : x6_2 < (t350.length : Int) := of_decide_eq_true (by first | (with_reducible assumption) | assumption)
             obtain ⟨ad361, e361, hx361_0⟩ := Kd.at_int (Kd.R_reads' HO_3.out).2.2 x6_2 p361 q361
             cases e361
             replace p361 := eq_true p361
             replace q361 := eq_true q361
             go_wp2
             repeat (go_quiet (fail); try go_wp2)
             go_loopg [7] kj18 (fun kq v7 w' => ∃ (x7_4 : Int), v7 = .int .i64 x7_4 ∧ Aside0 (changeforgelaw2_BlameOrigins.l1 kq l0 t350 (rd_L5 l0 (ji13)) x6_2 x7_4 = some r) ∧ Aside0 (kq ≤ kj18) ∧ Aside0 (Kd.R (Kd.int .i64) 3 w' w.heap.size (fun _ => True) (.slice (some ad361) t350.length co17) t350) ∧ Aside0 (Below w.heap.size w w'))
             case atStart => exact ⟨(rd t350 x6_2), (by first | rfl | (simp; done) | (simp [*]; done)), H', ⟨Nat.le_refl _⟩, ⟨by (with_reducible repeat (first | apply Kd.R_alloc | apply Kd.R_drewN | apply Kd.R_drew)); exact HO_3.out⟩, ⟨by repeat (first | (with_reducible first | exact HB.out | apply below_alloc | apply pw_below_drewN | apply below_drew1) | exact HB.out)⟩⟩
             clear H'
             try clear c1
             try clear c2
             try clear p2
             try clear c3
             try clear p3
             try clear q3
             try clear hx3
             try clear c4
             try clear p6
             try clear c7
             try clear c7b0
             try clear c7b1
             try clear c10
             try clear c14
             try clear c14b0
             try clear c15
             try clear c15b0
             try clear c16
             try clear c16b0
             try clear c16b1
             try clear c16b2
             try clear c18
             try clear c18b0
             try clear c20
             try clear c20b0
             try clear c21
             try clear c21b0
             try clear c22
             try clear c23
             try clear c23b0
             try clear c24
             try clear c24b0
             try clear hcz6_0
             try clear hcz6_1
             try clear hcz8_0
             try clear hcz8_1
             try clear hcz9_0
             try clear hcz9_1
             try clear hfz6_0
             try clear hfz6_1
             try clear hfz8_0
             try clear hfz8_1
             try clear hfz9_0
             try clear hfz9_1
             try clear hx357_0
             try clear hx359_0
             try clear hx360_0
             try clear hx361_0
             try clear p2
             try clear p3
             try clear p357
             try clear p359
             try clear p360
             try clear p361
             try clear p6
             try clear q3
             try clear q357
             try clear q359
             try clear q360
             try clear q361
             obtain ⟨x7_4, rfl, HA, HK4, HO_3, HB⟩ := hrel
             cases gk with
             | zero => exact absurd HA.out (by simp [changeforgelaw2_BlameOrigins.l1])
             | succ k4 =>
             have H := HA.out
             clear HA
             simp only [changeforgelaw2_BlameOrigins.l1] at H
             by_cases c25 : x7_4 < (l0.length : Int)
             · rw [if_pos c25] at H
               have c25b0 : decide (x7_4 < (l0.length : Int)) = true := decide_eq_true c25
               clear c25
               by_cases c26 : 0 ≤ x6_2
               · rw [if_pos c26] at H
                 have c26b0 := eq_true c26
                 have c26b1 : decide (0 ≤ x6_2) = true := decide_eq_true c26
                 clear c26
                 by_cases c27 : x6_2 ≤ (wrap64 (x6_2 + 1))
                 · rw [if_pos c27] at H
                   have c27b0 := eq_true c27
                   have c27b1 : decide (x6_2 ≤ (wrap64 (x6_2 + 1))) = true := decide_eq_true c27
                   by_cases c28 : (wrap64 (x6_2 + 1)) ≤ ((rd_L5 l0 (ji13)).length : Int)
                   · rw [if_pos c28] at H
                     have c28b0 := eq_true c28
                     have c28b1 : decide ((wrap64 (x6_2 + 1)) ≤ ((rd_L5 l0 (ji13)).length : Int)) = true := decide_eq_true c28
                     by_cases c29 : 0 ≤ x7_4
                     · rw [if_pos c29] at H
                       have c29b0 : decide (0 ≤ x7_4) = true := decide_eq_true c29
                       clear c29
                       replace H := Option.bind_eq_some_iff.mp H
                       obtain ⟨t364, A300, H⟩ := H
                       replace H : (if t364 = true then (changeforgelaw2_BlameOrigins.l1 k4 l0 t350 (rd_L5 l0 (ji13)) x6_2 (wrap64 (x7_4 + 1))) else (some false)) = some r := H
                       have A30 := Aside0.mk A300
                       clear A300
                       by_cases c31 : t364 = true
                       · subst c31
                         have H1 : (changeforgelaw2_BlameOrigins.l1 k4 l0 t350 (rd_L5 l0 (ji13)) x6_2 (wrap64 (x7_4 + 1))) = some r := by rw [if_pos rfl] at H; exact H
                         clear H
                         have H := H1
                         clear H1
                         have H' := Aside0.mk H
                         clear H
                         obtain ⟨i032, hi032, _, hsz32, _⟩ := info_parts info9
                         obtain ⟨A32, hcut32, hA32, hC32⟩ := print_mid_of (P := Try.prog) Value.string (⟨#[]⟩ : ByteArray) 31 9 .i64 .i64 Try.underlying31 hi032 hsz32 A357_0 c357_0 (rd_L5 l0 (ji13)) x6_2 (wrap64 (x6_2 + 1)) (of_decide_eq_true (by first | (with_reducible assumption) | assumption)) (by first | omega | exact of_decide_eq_true (by first | (with_reducible assumption) | assumption)) (of_decide_eq_true (by first | (with_reducible assumption) | assumption)) HC357_0.out
                         have HR362 := Aside0.mk (Kd.C_of_reads (h1 := fun _ => rfl) (hA32 _ (Kd.reads_of_C HR357_0.out)))
                         have HC362 := Aside0.mk hC32
                         (try (have hcut32w := hcut32; conv at hcut32w => { intro W; lhs; rw [← i64_w (x6_2 + 1)] }))
                         clear hA32 hC32 hi032 hsz32
                         have p363 : 0 ≤ (x7_4 : Int) := of_decide_eq_true (by first | (with_reducible assumption) | assumption)
                         have q363 : x7_4 < (l0.length : Int) := of_decide_eq_true (by first | (with_reducible assumption) | assumption)
                         obtain ⟨ad363, A363_0, c363_0, e363, hx363_0, hl363_0, hi363_0⟩ := at_L5 HR0.out x7_4 p363 q363
                         obtain rfl : ad357 = ad363 := (by injection e363)
                         replace hx363_0 := (HB.out.cell (World.block_lt_of_cell? w _ hx363_0)).trans hx363_0
                         have HR363_0 := Aside0.mk hi363_0
                         have HC363_0 := Aside0.mk hl363_0
                         clear hi363_0 hl363_0
                         replace p363 := eq_true p363
                         replace q363 := eq_true q363
                         go_wp2_with (first | (go_at_call 14; (first | refine calls_of_args (args' := #[.slice A32 (((rd_L5 l0 (ji13)).take ((wrap64 (x6_2 + 1)) : Int).toNat).drop (x6_2 : Int).toNat).length (c357_0 - x6_2.toNat), .slice A363_0 (rd_L5 l0 x7_4).length c363_0]) (by first | rfl | (go_simp; done)) ?_ | skip); (with_reducible refine (changeforgelaw2_follows.calls k4 _ _ (((rd_L5 l0 (ji13)).take ((wrap64 (x6_2 + 1)) : Int).toNat).drop (x6_2 : Int).toNat) _ _ (rd_L5 l0 x7_4) true _ ?side1 ?side2 ?side3 ?side4 A30.out).mono ?_); (case side1 => repeat (first | exact (Kd.C_below HR362.out HB.out) | (with_reducible refine Kd.C_alloc ?_ _) | (with_reducible refine Kd.C_drewN ?_ _) | (with_reducible refine Kd.C_drew ?_))); (case side2 => exact HC362.out); (case side3 => repeat (first | exact (Kd.C_below HR363_0.out HB.out) | (with_reducible refine Kd.C_alloc ?_ _) | (with_reducible refine Kd.C_drewN ?_ _) | (with_reducible refine Kd.C_drew ?_))); (case side4 => exact HC363_0.out); rintro e w' ⟨rfl, ⟨nd, rfl⟩⟩; (try first | exact ⟨rfl, _, World.drewN_drewN _ _ _⟩ | exact ⟨rfl, _, Eq.trans (World.drewN_drewN _ _ _) (congrArg (World.drewN _) (Nat.add_assoc _ _ _))⟩)))
                         repeat (go_quiet (first | (go_at_call 14; (first | refine calls_of_args (args' := #[.slice A32 (((rd_L5 l0 (ji13)).take ((wrap64 (x6_2 + 1)) : Int).toNat).drop (x6_2 : Int).toNat).length (c357_0 - x6_2.toNat), .slice A363_0 (rd_L5 l0 x7_4).length c363_0]) (by first | rfl | (go_simp; done)) ?_ | skip); (with_reducible refine (changeforgelaw2_follows.calls k4 _ _ (((rd_L5 l0 (ji13)).take ((wrap64 (x6_2 + 1)) : Int).toNat).drop (x6_2 : Int).toNat) _ _ (rd_L5 l0 x7_4) true _ ?side1 ?side2 ?side3 ?side4 A30.out).mono ?_); (case side1 => repeat (first | exact (Kd.C_below HR362.out HB.out) | (with_reducible refine Kd.C_alloc ?_ _) | (with_reducible refine Kd.C_drewN ?_ _) | (with_reducible refine Kd.C_drew ?_))); (case side2 => exact HC362.out); (case side3 => repeat (first | exact (Kd.C_below HR363_0.out HB.out) | (with_reducible refine Kd.C_alloc ?_ _) | (with_reducible refine Kd.C_drewN ?_ _) | (with_reducible refine Kd.C_drew ?_))); (case side4 => exact HC363_0.out); rintro e w' ⟨rfl, ⟨nd, rfl⟩⟩; (try first | exact ⟨rfl, _, World.drewN_drewN _ _ _⟩ | exact ⟨rfl, _, Eq.trans (World.drewN_drewN _ _ _) (congrArg (World.drewN _) (Nat.add_assoc _ _ _))⟩))); try go_wp2_with (first | (go_at_call 14; (first | refine calls_of_args (args' := #[.slice A32 (((rd_L5 l0 (ji13)).take ((wrap64 (x6_2 + 1)) : Int).toNat).drop (x6_2 : Int).toNat).length (c357_0 - x6_2.toNat), .slice A363_0 (rd_L5 l0 x7_4).length c363_0]) (by first | rfl | (go_simp; done)) ?_ | skip); (with_reducible refine (changeforgelaw2_follows.calls k4 _ _ (((rd_L5 l0 (ji13)).take ((wrap64 (x6_2 + 1)) : Int).toNat).drop (x6_2 : Int).toNat) _ _ (rd_L5 l0 x7_4) true _ ?side1 ?side2 ?side3 ?side4 A30.out).mono ?_); (case side1 => repeat (first | exact (Kd.C_below HR362.out HB.out) | (with_reducible refine Kd.C_alloc ?_ _) | (with_reducible refine Kd.C_drewN ?_ _) | (with_reducible refine Kd.C_drew ?_))); (case side2 => exact HC362.out); (case side3 => repeat (first | exact (Kd.C_below HR363_0.out HB.out) | (with_reducible refine Kd.C_alloc ?_ _) | (with_reducible refine Kd.C_drewN ?_ _) | (with_reducible refine Kd.C_drew ?_))); (case side4 => exact HC363_0.out); rintro e w' ⟨rfl, ⟨nd, rfl⟩⟩; (try first | exact ⟨rfl, _, World.drewN_drewN _ _ _⟩ | exact ⟨rfl, _, Eq.trans (World.drewN_drewN _ _ _) (congrArg (World.drewN _) (Nat.add_assoc _ _ _))⟩))))
                         go_roundg k4
                         case measure => have := HJ2.out; have := HK2.out; have := HJ18.out; have := HK4.out; omega
                         case rel => exact ⟨(wrap64 (x7_4 + 1)), (by first | rfl | (simp; done) | (simp [*]; done)), H', ⟨by have := HJ2.out; have := HK2.out; have := HJ18.out; have := HK4.out; omega⟩, ⟨by (with_reducible repeat (first | apply Kd.R_alloc | apply Kd.R_drewN | apply Kd.R_drew)); exact HO_3.out⟩, ⟨by repeat (first | (with_reducible first | exact HB.out | apply below_alloc | apply pw_below_drewN | apply below_drew1) | exact HB.out)⟩⟩
                       replace c31 := Bool.eq_false_iff.mpr c31
                       subst c31
                       have H1 : (some false) = some r := by rw [if_neg (show ¬ (false = true) by decide)] at H; exact H
                       clear H
                       have H := H1
                       clear H1
                       obtain rfl := Option.some.inj H
                       obtain ⟨i033, hi033, _, hsz33, _⟩ := info_parts info9
                       obtain ⟨A33, hcut33, hA33, hC33⟩ := print_mid_of (P := Try.prog) Value.string (⟨#[]⟩ : ByteArray) 31 9 .i64 .i64 Try.underlying31 hi033 hsz33 A357_0 c357_0 (rd_L5 l0 (ji13)) x6_2 (wrap64 (x6_2 + 1)) (of_decide_eq_true (by first | (with_reducible assumption) | assumption)) (by first | omega | exact of_decide_eq_true (by first | (with_reducible assumption) | assumption)) (of_decide_eq_true (by first | (with_reducible assumption) | assumption)) HC357_0.out
                       have HR362 := Aside0.mk (Kd.C_of_reads (h1 := fun _ => rfl) (hA33 _ (Kd.reads_of_C HR357_0.out)))
                       have HC362 := Aside0.mk hC33
                       (try (have hcut33w := hcut33; conv at hcut33w => { intro W; lhs; rw [← i64_w (x6_2 + 1)] }))
                       clear hA33 hC33 hi033 hsz33
                       have p363 : 0 ≤ (x7_4 : Int) := of_decide_eq_true (by first | (with_reducible assumption) | assumption)
                       have q363 : x7_4 < (l0.length : Int) := of_decide_eq_true (by first | (with_reducible assumption) | assumption)
                       obtain ⟨ad363, A363_0, c363_0, e363, hx363_0, hl363_0, hi363_0⟩ := at_L5 HR0.out x7_4 p363 q363
                       obtain rfl : ad357 = ad363 := (by injection e363)
                       replace hx363_0 := (HB.out.cell (World.block_lt_of_cell? w _ hx363_0)).trans hx363_0
                       have HR363_0 := Aside0.mk hi363_0
                       have HC363_0 := Aside0.mk hl363_0
                       clear hi363_0 hl363_0
                       replace p363 := eq_true p363
                       replace q363 := eq_true q363
                       go_wp2_with (first | (go_at_call 14; (first | refine calls_of_args (args' := #[.slice A33 (((rd_L5 l0 (ji13)).take ((wrap64 (x6_2 + 1)) : Int).toNat).drop (x6_2 : Int).toNat).length (c357_0 - x6_2.toNat), .slice A363_0 (rd_L5 l0 x7_4).length c363_0]) (by first | rfl | (go_simp; done)) ?_ | skip); (with_reducible refine (changeforgelaw2_follows.calls k4 _ _ (((rd_L5 l0 (ji13)).take ((wrap64 (x6_2 + 1)) : Int).toNat).drop (x6_2 : Int).toNat) _ _ (rd_L5 l0 x7_4) false _ ?side1 ?side2 ?side3 ?side4 A30.out).mono ?_); (case side1 => repeat (first | exact (Kd.C_below HR362.out HB.out) | (with_reducible refine Kd.C_alloc ?_ _) | (with_reducible refine Kd.C_drewN ?_ _) | (with_reducible refine Kd.C_drew ?_))); (case side2 => exact HC362.out); (case side3 => repeat (first | exact (Kd.C_below HR363_0.out HB.out) | (with_reducible refine Kd.C_alloc ?_ _) | (with_reducible refine Kd.C_drewN ?_ _) | (with_reducible refine Kd.C_drew ?_))); (case side4 => exact HC363_0.out); rintro e w' ⟨rfl, ⟨nd, rfl⟩⟩; (try first | exact ⟨rfl, _, World.drewN_drewN _ _ _⟩ | exact ⟨rfl, _, Eq.trans (World.drewN_drewN _ _ _) (congrArg (World.drewN _) (Nat.add_assoc _ _ _))⟩)))
                       repeat (go_quiet (first | (go_at_call 14; (first | refine calls_of_args (args' := #[.slice A33 (((rd_L5 l0 (ji13)).take ((wrap64 (x6_2 + 1)) : Int).toNat).drop (x6_2 : Int).toNat).length (c357_0 - x6_2.toNat), .slice A363_0 (rd_L5 l0 x7_4).length c363_0]) (by first | rfl | (go_simp; done)) ?_ | skip); (with_reducible refine (changeforgelaw2_follows.calls k4 _ _ (((rd_L5 l0 (ji13)).take ((wrap64 (x6_2 + 1)) : Int).toNat).drop (x6_2 : Int).toNat) _ _ (rd_L5 l0 x7_4) false _ ?side1 ?side2 ?side3 ?side4 A30.out).mono ?_); (case side1 => repeat (first | exact (Kd.C_below HR362.out HB.out) | (with_reducible refine Kd.C_alloc ?_ _) | (with_reducible refine Kd.C_drewN ?_ _) | (with_reducible refine Kd.C_drew ?_))); (case side2 => exact HC362.out); (case side3 => repeat (first | exact (Kd.C_below HR363_0.out HB.out) | (with_reducible refine Kd.C_alloc ?_ _) | (with_reducible refine Kd.C_drewN ?_ _) | (with_reducible refine Kd.C_drew ?_))); (case side4 => exact HC363_0.out); rintro e w' ⟨rfl, ⟨nd, rfl⟩⟩; (try first | exact ⟨rfl, _, World.drewN_drewN _ _ _⟩ | exact ⟨rfl, _, Eq.trans (World.drewN_drewN _ _ _) (congrArg (World.drewN _) (Nat.add_assoc _ _ _))⟩))); try go_wp2_with (first | (go_at_call 14; (first | refine calls_of_args (args' := #[.slice A33 (((rd_L5 l0 (ji13)).take ((wrap64 (x6_2 + 1)) : Int).toNat).drop (x6_2 : Int).toNat).length (c357_0 - x6_2.toNat), .slice A363_0 (rd_L5 l0 x7_4).length c363_0]) (by first | rfl | (go_simp; done)) ?_ | skip); (with_reducible refine (changeforgelaw2_follows.calls k4 _ _ (((rd_L5 l0 (ji13)).take ((wrap64 (x6_2 + 1)) : Int).toNat).drop (x6_2 : Int).toNat) _ _ (rd_L5 l0 x7_4) false _ ?side1 ?side2 ?side3 ?side4 A30.out).mono ?_); (case side1 => repeat (first | exact (Kd.C_below HR362.out HB.out) | (with_reducible refine Kd.C_alloc ?_ _) | (with_reducible refine Kd.C_drewN ?_ _) | (with_reducible refine Kd.C_drew ?_))); (case side2 => exact HC362.out); (case side3 => repeat (first | exact (Kd.C_below HR363_0.out HB.out) | (with_reducible refine Kd.C_alloc ?_ _) | (with_reducible refine Kd.C_drewN ?_ _) | (with_reducible refine Kd.C_drew ?_))); (case side4 => exact HC363_0.out); rintro e w' ⟨rfl, ⟨nd, rfl⟩⟩; (try first | exact ⟨rfl, _, World.drewN_drewN _ _ _⟩ | exact ⟨rfl, _, Eq.trans (World.drewN_drewN _ _ _) (congrArg (World.drewN _) (Nat.add_assoc _ _ _))⟩))))
                       go_ret
                       exact ⟨by first | rfl | (simp [errW_none, errW_some] <;> rfl) | (simp only [← hji13]; first | rfl | (simp [errW_none, errW_some] <;> rfl)) | (simp [*, errW_none, errW_some] <;> rfl), by repeat (first | (with_reducible first | exact HB.out | apply below_alloc | apply pw_below_drewN | apply below_drew1) | exact HB.out)⟩
                     rw [if_neg c29] at H
                     exact absurd H (by simp)
                   rw [if_neg c28] at H
                   exact absurd H (by simp)
                 rw [if_neg c27] at H
                 exact absurd H (by simp)
               rw [if_neg c26] at H
               exact absurd H (by simp)
             rw [if_neg c25] at H
             have c25b0 : decide (x7_4 < (l0.length : Int)) = false := decide_eq_false c25
             clear c25
             have H' := Aside0.mk H
             clear H
             go_wp2
             repeat (go_quiet (fail); try go_wp2)
             go_roundg k4
             case measure => have := HJ2.out; have := HK2.out; have := HJ18.out; have := HK4.out; omega
             case rel => exact ⟨(wrap64 (x6_2 + 1)), (by first | rfl | (simp; done) | (simp [*]; done)), H', ⟨by have := HJ2.out; have := HK2.out; have := HJ18.out; have := HK4.out; omega⟩, ⟨by (with_reducible repeat (first | apply Kd.R_alloc | apply Kd.R_drewN | apply Kd.R_drew)); exact HO_3.out⟩, ⟨by repeat (first | (with_reducible first | exact HB.out | apply below_alloc | apply pw_below_drewN | apply below_drew1) | exact HB.out)⟩⟩
           rw [if_neg c24] at H
           exact absurd H (by simp)
         rw [if_neg c23] at H
         exact absurd H (by simp)
       rw [if_neg c18] at H
       have c18b0 : decide (x6_2 < (t350.length : Int)) = false := decide_eq_false c18
       clear c18
       replace H := Option.bind_eq_some_iff.mp H
       obtain ⟨t358, A340, H⟩ := H
       replace H : (some t358) = some r := H
       have A34 := Aside0.mk A340
       clear A340
       obtain rfl := Option.some.inj H
       go_wp2_with (first | (go_at_call 10; (with_reducible refine (changeforgelaw2_added.calls k2  t358 _ A34.out).mono ?_); rintro e w35 ⟨rfl, hb⟩; have n0_ := Aside0.mk (Kd.R_below (by (with_reducible repeat (first | apply Kd.R_alloc | apply Kd.R_drewN | apply Kd.R_drew)); exact HO_3.out) hb); have n1_ := Aside0.mk (below_step (by repeat (first | (with_reducible first | exact HB.out | apply below_alloc | apply pw_below_drewN | apply below_drew1) | exact HB.out)) hb); clear HO_3; clear HB; have HO_3 := n0_; have HB := n1_; clear n0_ n1_; (try clear hb); (try clear hb2); (try clear hk); (try clear hi)))
       repeat (go_quiet (first | (go_at_call 10; (with_reducible refine (changeforgelaw2_added.calls k2  t358 _ A34.out).mono ?_); rintro e w35 ⟨rfl, hb⟩; have n0_ := Aside0.mk (Kd.R_below (by (with_reducible repeat (first | apply Kd.R_alloc | apply Kd.R_drewN | apply Kd.R_drew)); exact HO_3.out) hb); have n1_ := Aside0.mk (below_step (by repeat (first | (with_reducible first | exact HB.out | apply below_alloc | apply pw_below_drewN | apply below_drew1) | exact HB.out)) hb); clear HO_3; clear HB; have HO_3 := n0_; have HB := n1_; clear n0_ n1_; (try clear hb); (try clear hb2); (try clear hk); (try clear hi))); try go_wp2_with (first | (go_at_call 10; (with_reducible refine (changeforgelaw2_added.calls k2  t358 _ A34.out).mono ?_); rintro e w35 ⟨rfl, hb⟩; have n0_ := Aside0.mk (Kd.R_below (by (with_reducible repeat (first | apply Kd.R_alloc | apply Kd.R_drewN | apply Kd.R_drew)); exact HO_3.out) hb); have n1_ := Aside0.mk (below_step (by repeat (first | (with_reducible first | exact HB.out | apply below_alloc | apply pw_below_drewN | apply below_drew1) | exact HB.out)) hb); clear HO_3; clear HB; have HO_3 := n0_; have HB := n1_; clear n0_ n1_; (try clear hb); (try clear hb2); (try clear hk); (try clear hi))))
       go_ret
       exact ⟨by first | rfl | (simp [errW_none, errW_some] <;> rfl) | (simp only [← hji13]; first | rfl | (simp [errW_none, errW_some] <;> rfl)) | (simp [*, errW_none, errW_some] <;> rfl), by repeat (first | (with_reducible first | exact HB.out | apply below_alloc | apply pw_below_drewN | apply below_drew1) | exact HB.out)⟩
     rw [if_neg c16] at H
     have c16b0 : ((t350.length : Int) == ((rd_L5 l0 (ji13)).length : Int)) = false := beq_eq_false_iff_ne.mpr c16
     have c16b1 : ((t350.length : Int) != ((rd_L5 l0 (ji13)).length : Int)) = true := bne_iff_ne.mpr c16
     have c16b2 : (t350.length == (rd_L5 l0 (ji13)).length) = false := by first | simpa using c16 | (simp at c16 ⊢; omega)
     obtain rfl := Option.some.inj H
     have p357 : 0 ≤ ((ji13) : Int) := of_decide_eq_true (by first | (with_reducible assumption) | assumption)
     have q357 : (ji13) < (l0.length : Int) := of_decide_eq_true (by first | (with_reducible assumption) | assumption)
     obtain ⟨ad357, A357_0, c357_0, e357, hx357_0, hl357_0, hi357_0⟩ := at_L5 HR0.out (ji13) p357 q357
     cases e357
     replace hx357_0 := (HB.out.cell (World.block_lt_of_cell? w _ hx357_0)).trans hx357_0
     have HR357_0 := Aside0.mk hi357_0
     have HC357_0 := Aside0.mk hl357_0
     clear hi357_0 hl357_0
     replace p357 := eq_true p357
     replace q357 := eq_true q357
     obtain ⟨Ao36, co36, eo36⟩ := Kd.R_slice HO_3.out
     subst eo36
     go_wp2
     repeat (go_quiet (fail); try go_wp2)
     go_ret
     exact ⟨by first | rfl | (simp [errW_none, errW_some] <;> rfl) | (simp only [← hji13]; first | rfl | (simp [errW_none, errW_some] <;> rfl)) | (simp [*, errW_none, errW_some] <;> rfl), by repeat (first | (with_reducible first | exact HB.out | apply below_alloc | apply pw_below_drewN | apply below_drew1) | exact HB.out)⟩
   rw [if_neg c15] at H
   exact absurd H (by simp)
 rw [if_neg c14] at H
 exact absurd H (by simp)
-- NOT PRINTED: function 5 (changeforgelaw2_BlameUnchanged)

end Go.Proofs.Ytidnkaopndmigaa.P
