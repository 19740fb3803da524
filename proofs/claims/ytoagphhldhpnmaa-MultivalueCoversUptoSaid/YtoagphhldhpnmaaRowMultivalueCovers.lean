/- MultivalueCovers: for every input of bulk at most 1048576 the law returns true, and every argument reads as before. -/
import Derived.Test.YtoagphhldhpnmaaK6
import Derived.Test.YtoagphhldhpnmaaRows
import Derived.WalkKit
import Derived.ProofKit
import Derived.OpenShut
import Derived.ShutString
import Derived.ChangeOld
import Derived.Below
import Derived.SizedLaws
import Derived.Deep.CondSized
namespace Go.Proofs.Ytoagphhldhpnmaa.multivalueCovers
open Go.ChangeShapes Go.WideShapes Go.ChangeAt Go.RowKit Go.Proofs.Ytoagphhldhpnmaa.V
open Go.ChangeMaps (open_string shut_string)
set_option linter.unusedVariables false
set_option maxRecDepth 100000
theorem own : ownKnob Try.prog.godebug = none := by kernel_rfl
theorem laidOut : laidOutB Try.prog = true := by kernel_rfl
theorem contract (H : Type) (enc : TypeId × Value → H) (W : World) (base : Nat) (args : Array Value) (ds gs : List (DataW H)) (before : List MemPlace)
    (hval0 : ∀ (j : Nat) t v, Try.f7.params[j]? = some t → args[j]? = some v → Value.okWide Try.prog W .any base t v)
    (hW : DataW.Whole enc Try.prog Try.f7.params.toList Rows.multivalueCoversSpec.vars false W args.toList ds gs before) (hk : Rows.uptoSmall H (ds ++ gs) = true)
    (hsz0 : (DataW.weightsEach Try.prog (Try.f7.params.toList ++ Rows.multivalueCoversSpec.plain.varTypes Try.prog) (ds ++ gs)).all (· ≤ reachBytes) = true) :
    Calls Try.prog 7 args W fun e W' => ∃ v, e = .returned v ∧ Rows.multivalueCoversSpec.post enc Try.prog Try.f7 false true false false W args v W' := by
  have hsz : (DataW.weightsEach Try.prog (Try.f7.params.toList ++ Rows.multivalueCoversSpec.plain.varTypes Try.prog) (ds ++ gs)).all (· ≤ reachBytes) = true := hsz0
  have hval : ∀ (j : Nat) t v, Try.f7.params[j]? = some t → args[j]? = some v → Value.okWide Try.prog W .any base t v := hval0
  have hW' := hW
  obtain ⟨p, q, hA0, hV, rfl, hfz, hnd⟩ := hW
  have hA : DataW.TrodAll enc Try.prog W 0 (fun _ => true) true Try.f7.params.toList args.toList ds p := hA0
  rw [Try.params7] at hA hval hsz
  obtain ⟨v0, vs0, d0, ds0, p0, q0, hargs, rfl, rfl, h0, r0⟩ := trodAll_cons hA
  obtain ⟨v1, vs1, d1, ds1, p1, q1, rfl, rfl, rfl, h1, r1⟩ := trodAll_cons r0
  obtain ⟨v2, vs2, d2, ds2, p2, q2, rfl, rfl, rfl, h2, r2⟩ := trodAll_cons r1
  obtain ⟨rfl, rfl, rfl⟩ := trodAll_nil r2
  obtain rfl : args = #[v0, v1, v2] := by cases args; simp_all
  obtain ⟨rfl, rfl⟩ := trodVars_none hV
  obtain ⟨x0, K0, w0, m0⟩ := Opn.arg (Opn.slice (B := 32) (sz := 2) Try.underlying22 (by kernel_rfl) (fun _ => rfl) (by kernel_rfl) op35) h0 (weights_of hsz (j := 0) rfl rfl)
  have k0 := h0
  have lt0 : ∀ x ∈ p0, x.block < W.heap.size := by obtain ⟨m, hm⟩ := k0; exact DataW.trod_lt m _ _ _ hm
  obtain ⟨a0, len0, cap0, rfl⟩ := okWide_slice Try.underlying22 (hval 0 22 _ rfl rfl)
  have V0 := CellsD.leaf rfl rfl K0
  obtain ⟨x1, K1, w1, m1⟩ := Opn.arg (Opn.slice (B := 32) (sz := 2) Try.underlying22 (by kernel_rfl) (fun _ => rfl) (by kernel_rfl) op35) h1 (weights_of hsz (j := 1) rfl rfl)
  have k1 := h1
  have lt1 : ∀ x ∈ p1, x.block < W.heap.size := by obtain ⟨m, hm⟩ := k1; exact DataW.trod_lt m _ _ _ hm
  obtain ⟨a1, len1, cap1, rfl⟩ := okWide_slice Try.underlying22 (hval 1 22 _ rfl rfl)
  have V1 := CellsD.leaf rfl rfl K1
  obtain ⟨x2, K2, w2, m2⟩ := Opn.arg (Opn.int Try.underlying3) h2 (weights_of hsz (j := 2) rfl rfl)
  obtain ⟨b2, rfl⟩ := okWide_int Try.underlying3 (hval 2 3 _ rfl rfl)
  have V2 := CellsD.leaf rfl rfl K2
  obtain ⟨_, ea2, rfl, rfl, y2⟩ := open_int Try.underlying3 (hval 2 3 _ rfl rfl) h2
  injection ea2 with _ ea2
  subst ea2
  have hb := of_decide_eq_true hk
  simp only [List.append_nil, Rows.uptoBulkAll] at hb
  have hf := V.MultivalueCovers x0 x1 x2 w0 w1 w2 (by first | omega | (dsimp only; omega))
  have hargs : Args W noM [(fun l => D.sl (l.map enc35)) x0, (fun l => D.sl (l.map enc35)) x1, (D.int .i64) x2] [_, _, _] := ⟨rfl, fun j d v hd hv => by
    cases j with
    | zero => injection hd with hd; injection hv with hv; subst hd; subst hv; exact V0
    | succ j =>
      cases j with
      | zero => injection hd with hd; injection hv with hv; subst hd; subst hv; exact V1
      | succ j =>
        cases j with
        | zero => injection hd with hd; injection hv with hv; subst hd; subst hv; exact V2
        | succ j =>
          cases hd⟩
  clear hA0 hval0 hsz0 hsz
  refine (hf.spec noM W _ (fun _ _ h => h.elim) hargs).mono fun e W' ⟨vr, he, hvr, bel0⟩ => ?_
  have bel : Below W.heap.size W W' := bel0
  subst he
  obtain rfl := hvr.bool_inv
  exact ⟨_, rfl, _, _, _, [], _, [], hW', trodAll_mk1 (shut_bool Try.underlying4 _), (trodAll_cons_mk (Below.trod laidOut (by kernel_rfl) (of_decide_eq_true (by kernel_rfl)) k0 bel lt0) (trodAll_cons_mk (Below.trod laidOut (by kernel_rfl) (of_decide_eq_true (by kernel_rfl)) k1 bel lt1) (trodAll_cons_mk (shut_int Try.underlying3 y2) trodAll_mk0))), rfl, bel.frame _, fun h => by cases h⟩
set_option maxRecDepth 100000 in
theorem lifted (os : Os) (started : os.Started) (H : Type) (enc : TypeId × Value → H) (F : Stop.Interp) :
    ReturnsInHanded {} Try.checked os 7 .any ((Rows.OpenSpec.upto Rows.multivalueCoversSpec).pre6 enc Try.prog Try.f7 Rows.multivalueCoversUptoRow.domain false) (((Rows.OpenSpec.upto Rows.multivalueCoversSpec).at F).post enc Try.prog Try.f7 false true false false) := by
  refine returnsInHanded_of_cond_sized (C := Try.checked) (s := Rows.OpenSpec.upto Rows.multivalueCoversSpec) (k := Rows.uptoSmall) rfl own started (by kernel_rfl) Try.func7
    (OpenSpec.witness (enc := enc) (C := Try.checked) (s := Rows.OpenSpec.upto Rows.multivalueCoversSpec) (k := Rows.uptoSmall) rfl false ⟨#[], #[.slice none 0 0, .slice none 0 0, .int .i64 0], []⟩ 8 (by kernel_rfl) (by kernel_rfl) (by kernel_rfl)
      (x := ([.nil, .nil, .lit (.int .i64 0)], [], [])) (by kernel_rfl) rfl (by kernel_rfl)) ?_
  intro W base args ds gs before hval hW _ hk hsz _
  exact contract H enc W base args ds gs before hval hW hk hsz
theorem over : Rows.multivalueCoversUptoRow.holds Try.pinned (Rows.OpenSpec.upto Rows.multivalueCoversSpec) :=
  OpenClaim.holds_of_cond 7 Try.f7 rfl rfl rfl rfl rfl rfl rfl ⟨rfl, rfl, rfl, rfl, rfl⟩ rfl rfl rfl rfl rfl (by kernel_rfl) Try.func7 (by kernel_rfl)
    (of_decide_eq_true (by kernel_rfl)) (by unfold Func.isWrapper; first | (rw [if_pos (by decide +kernel)]; kernel_rfl) | (rw [if_neg (by decide +kernel)]; exact ⟨rfl, rfl⟩))
    (fun os started H enc _ F => lifted os started H enc F)
end Go.Proofs.Ytoagphhldhpnmaa.multivalueCovers
namespace Go.Proofs.Ytoagphhldhpnmaa
theorem multivalueCovers_holds : Rows.MultivalueCoversUptoSaid := multivalueCovers.over
#print axioms multivalueCovers_holds
end Go.Proofs.Ytoagphhldhpnmaa
