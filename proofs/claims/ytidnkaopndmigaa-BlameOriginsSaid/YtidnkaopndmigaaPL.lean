/- Small plain lemmas for the printed functions: whole numbers that do not wrap, reads of lists, rounds. -/
import Derived.Test.YtidnkaopndmigaaWWords
import Derived.Test.YtidnkaopndmigaaWMore
namespace Go.Proofs.Ytidnkaopndmigaa.PL
open Go.RowKit Go.Proofs.YtidnkaopndmigaaW.PrintWords Go.Proofs.YtidnkaopndmigaaW.PrintMore

theorem wrap64_id {x : Int} (h1 : -9223372036854775808 ≤ x) (h2 : x ≤ 9223372036854775807) : wrap64 x = x := by
  unfold wrap64
  omega
theorem wrap64_succ {i : Nat} (h : i < 9223372036854775807) : wrap64 ((i : Int) + 1) = ((i + 1 : Nat) : Int) := by
  unfold wrap64
  omega
theorem wrap64_add {i j : Nat} (h : i + j < 9223372036854775807) : wrap64 ((i : Int) + (j : Int)) = ((i + j : Nat) : Int) := by
  unfold wrap64
  omega
theorem rdOf_nat {α : Type} {d : α} {l : List α} {i : Nat} (h : i < l.length) : rdOf d l (i : Int) = l[i] := by
  unfold rdOf
  rw [Int.toNat_natCast, List.getD_eq_getElem?_getD, List.getElem?_eq_getElem h]
  rfl
theorem rd_nat {l : List Int} {i : Nat} (h : i < l.length) : rd l (i : Int) = l[i] := by
  unfold rd
  rw [Int.toNat_natCast, List.getD_eq_getElem?_getD, List.getElem?_eq_getElem h]
  rfl
theorem bytes_eq (a b : ByteArray) : a.toList = b.toList ↔ a = b := by
  refine ⟨fun h => ?_, fun h => by rw [h]⟩
  rw [ByteArray.toList_eq, ByteArray.toList_eq] at h
  exact Go.WideShapes.bytes_inj h
/-- A loop with a counter that goes up to n, told from behind. -/
theorem Ev_up {α : Type} (n : Nat) (F : Nat → Nat → Option α) (r : Nat → α) (hd : Ev (fun k => F k n) (r n)) (hs : ∀ i, i < n → Ev (fun k => F k (i + 1)) (r (i + 1)) → Ev (fun k => F k i) (r i)) : ∀ i, i ≤ n → Ev (fun k => F k i) (r i) := by
  intro i hi
  obtain ⟨d, rfl⟩ : ∃ d, n = i + d := ⟨n - i, by omega⟩
  induction d generalizing i with
  | zero => exact hd
  | succ d ih =>
    refine hs i (by omega) ?_
    have e : i + (d + 1) = i + 1 + d := by omega
    rw [e] at hd hs
    exact ih (i + 1) hd hs (by omega)
end Go.Proofs.Ytidnkaopndmigaa.PL
