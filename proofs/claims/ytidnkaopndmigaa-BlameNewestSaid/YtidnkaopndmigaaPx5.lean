/- The program's functions as plain Lean functions, each with the proof that the program's call comes to what it says; written by a program of this session out of the translation. -/
import Derived.Test.YtidnkaopndmigaaPx0
import Derived.Test.YtidnkaopndmigaaPx1
import Derived.Test.YtidnkaopndmigaaPx2
import Derived.Test.YtidnkaopndmigaaPx3
namespace Go.Proofs.Ytidnkaopndmigaa.P
open Go.RowKit Go.Proofs.YtidnkaopndmigaaW.PrintWords Go.Proofs.YtidnkaopndmigaaW.PrintLast Go.Proofs.YtidnkaopndmigaaW.PrintMore
attribute [local go_sem] max2_int min2_int max_two min_two max_three min_three max_four min_four   -- for this text's walks alone
set_option linter.unusedVariables false
set_option linter.unusedSimpArgs false

attribute [local go_sem high] eqA25
/-! ### diff_Script: function 15 -/
mutual
def diff_Script.l0 : Nat → List ByteArray → List ByteArray → List (List Int) → Int → Int → List (S42) → Option ((List (S42)) × Int × Int)
  | 0, _, _, _, _, _, _ => none
  | k + 1, x0, x1, x8, x9, x10, x141000 => if x9 < (x0.length : Int) then (diff_Script.j1 k x0 x1 x8 x9 x10 true x141000) else (diff_Script.j1 k x0 x1 x8 x9 x10 (decide (x10 < (x1.length : Int))) x141000)
def diff_Script.j1 : Nat → List ByteArray → List ByteArray → List (List Int) → Int → Int → Bool → List (S42) → Option ((List (S42)) × Int × Int)
  | 0, _, _, _, _, _, _, _ => none
  | k + 1, x0, x1, x8, x9, x10, x24, x141000 => if x24 = true then (diff_Script.l1 k x0 x1 x8 x9 x10 x141000 x9 ([] : List ByteArray) ([] : List ByteArray)) else (some (x141000, 0, 0))
def diff_Script.l1 : Nat → List ByteArray → List ByteArray → List (List Int) → Int → Int → List (S42) → Int → List ByteArray → List ByteArray → Option ((List (S42)) × Int × Int)
  | 0, _, _, _, _, _, _, _, _, _ => none
  | k + 1, x0, x1, x8, x9, x10, x141000, x145000, x145001, x145002 => if x9 < (x0.length : Int) then (if x9 = (x0.length : Int) then (diff_Script.j3 k x0 x1 x8 x9 x10 true x141000 x145000 x145001 x145002) else (if x10 = (x1.length : Int) then (diff_Script.j3 k x0 x1 x8 x9 x10 true x141000 x145000 x145001 x145002) else (if 0 ≤ x9 then (if 0 ≤ x10 then (if x10 < (x1.length : Int) then (diff_Script.j3 k x0 x1 x8 x9 x10 ((rdOf ByteArray.empty x0 x9).toList != (rdOf ByteArray.empty x1 x10).toList) x141000 x145000 x145001 x145002) else (none)) else (none)) else (none)))) else (if x10 < (x1.length : Int) then (if x9 = (x0.length : Int) then (diff_Script.j3 k x0 x1 x8 x9 x10 true x141000 x145000 x145001 x145002) else (if x10 = (x1.length : Int) then (diff_Script.j3 k x0 x1 x8 x9 x10 true x141000 x145000 x145001 x145002) else (if 0 ≤ x9 then (none) else (none)))) else (diff_Script.j3 k x0 x1 x8 x9 x10 false x141000 x145000 x145001 x145002))
def diff_Script.j3 : Nat → List ByteArray → List ByteArray → List (List Int) → Int → Int → Bool → List (S42) → Int → List ByteArray → List ByteArray → Option ((List (S42)) × Int × Int)
  | 0, _, _, _, _, _, _, _, _, _, _ => none
  | k + 1, x0, x1, x8, x9, x10, x59, x141000, x145000, x145001, x145002 => if x59 = true then (if x10 = (x1.length : Int) then (diff_Script.j4 k x0 x1 x8 x9 x10 true x141000 x145000 x145001 x145002) else (if x9 < (x0.length : Int) then (if 0 ≤ (wrap64 (x9 + 1)) then (if (wrap64 (x9 + 1)) < (x8.length : Int) then (if 0 ≤ x10 then (if x10 < ((rd_L4 x8 (wrap64 (x9 + 1))).length : Int) then (if 0 ≤ x9 then (if x9 < (x8.length : Int) then (if 0 ≤ (wrap64 (x10 + 1)) then (if (wrap64 (x10 + 1)) < ((rd_L4 x8 x9).length : Int) then (diff_Script.j4 k x0 x1 x8 x9 x10 (decide ((rd (rd_L4 x8 (wrap64 (x9 + 1))) x10) ≥ (rd (rd_L4 x8 x9) (wrap64 (x10 + 1))))) x141000 x145000 x145001 x145002) else (none)) else (none)) else (none)) else (none)) else (none)) else (none)) else (none)) else (none)) else (diff_Script.j4 k x0 x1 x8 x9 x10 false x141000 x145000 x145001 x145002))) else (if (wrap64 ((x145001.length : Int) + (x145002.length : Int))) > 0 then (if x141000.length < 2513169434916 then (diff_Script.l0 k x0 x1 x8 x9 x10 (x141000 ++ [(⟨x145000, x145001, x145002⟩ : S42)])) else (none)) else (diff_Script.l0 k x0 x1 x8 (wrap64 (x9 + 1)) (wrap64 (x10 + 1)) x141000))
def diff_Script.j4 : Nat → List ByteArray → List ByteArray → List (List Int) → Int → Int → Bool → List (S42) → Int → List ByteArray → List ByteArray → Option ((List (S42)) × Int × Int)
  | 0, _, _, _, _, _, _, _, _, _, _ => none
  | k + 1, x0, x1, x8, x9, x10, x88, x141000, x145000, x145001, x145002 => if x88 = true then (if 0 ≤ x9 then (if x9 < (x0.length : Int) then (if x145001.length < 8796093022208 then (diff_Script.l1 k x0 x1 x8 (wrap64 (x9 + 1)) x10 x141000 x145000 (x145001 ++ [rdOf ByteArray.empty x0 x9]) x145002) else (none)) else (none)) else (none)) else (if 0 ≤ x10 then (if x10 < (x1.length : Int) then (if x145002.length < 8796093022208 then (diff_Script.l1 k x0 x1 x8 x9 (wrap64 (x10 + 1)) x141000 x145000 x145001 (x145002 ++ [rdOf ByteArray.empty x1 x10])) else (none)) else (none)) else (none))
end
def diff_Script.f (k : Nat) (l0 : List ByteArray) (l1 : List ByteArray) : Option ((List (S42)) × Int × Int) := (lines_Two.f k l0 l1).bind fun bt137 => (if (!(bt137.1 == 0) || (!(bt137.2 == 0))) = true then (some (([] : List (S42)), bt137.1, bt137.2)) else ((diff_measure.f k l0 l1).bind fun t141 => (diff_Script.l0 k l0 l1 t141 0 0 ([] : List (S42)))))
namespace diff_Script_Q
abbrev T15 : Bool := true
abbrev F15 : Bool := false
abbrev b15z0 : Array Bool := #[F15, F15, F15, F15, F15, F15, F15, F15, F15, F15, F15, F15, F15, F15, F15, F15, F15, F15, F15, F15, F15, F15, F15, F15, F15, F15, F15, F15, F15, F15, F15, F15, F15]
abbrev b15z1 : Array Bool := #[T15, F15, F15, F15, F15, F15, F15, F15, F15, F15, F15, F15, F15, F15, F15, F15, F15, F15, F15, F15, F15, F15, F15, F15, F15, F15, F15, F15, F15, F15, F15, F15, F15]
abbrev b15z2 : Array Bool := #[T15, T15, F15, F15, F15, F15, F15, F15, F15, F15, F15, F15, F15, F15, F15, F15, F15, F15, F15, F15, F15, F15, F15, F15, F15, F15, F15, F15, F15, F15, F15, F15, F15]
abbrev b15z3 : Array Bool := #[T15, T15, T15, F15, F15, F15, F15, F15, F15, F15, F15, F15, F15, F15, F15, F15, F15, F15, F15, F15, F15, F15, F15, F15, F15, F15, F15, F15, F15, F15, F15, F15, F15]
abbrev b15z4 : Array Bool := #[T15, T15, T15, T15, F15, F15, F15, F15, F15, F15, F15, F15, F15, F15, F15, F15, F15, F15, F15, F15, F15, F15, F15, F15, F15, F15, F15, F15, F15, F15, F15, F15, F15]
abbrev b15z5 : Array Bool := #[T15, T15, T15, T15, T15, F15, F15, F15, F15, F15, F15, F15, F15, F15, F15, F15, F15, F15, F15, F15, F15, F15, F15, F15, F15, F15, F15, F15, F15, F15, F15, F15, F15]
abbrev b15z6 : Array Bool := #[T15, T15, T15, T15, T15, T15, F15, F15, F15, F15, F15, F15, F15, F15, F15, F15, F15, F15, F15, F15, F15, F15, F15, F15, F15, F15, F15, F15, F15, F15, F15, F15, F15]
abbrev b15z7 : Array Bool := #[T15, T15, T15, T15, T15, T15, T15, F15, F15, F15, F15, F15, F15, F15, F15, F15, F15, F15, F15, F15, F15, F15, F15, F15, F15, F15, F15, F15, F15, F15, F15, F15, F15]
abbrev b15z8 : Array Bool := #[T15, T15, T15, T15, T15, T15, T15, T15, F15, F15, F15, F15, F15, F15, F15, F15, F15, F15, F15, F15, F15, F15, F15, F15, F15, F15, F15, F15, F15, F15, F15, F15, F15]
abbrev b15z9 : Array Bool := #[T15, T15, T15, T15, T15, T15, T15, T15, T15, F15, F15, F15, F15, F15, F15, F15, F15, F15, F15, F15, F15, F15, F15, F15, F15, F15, F15, F15, F15, F15, F15, F15, F15]
abbrev b15z10 : Array Bool := #[T15, T15, T15, T15, T15, T15, T15, T15, T15, T15, F15, F15, F15, F15, F15, F15, F15, F15, F15, F15, F15, F15, F15, F15, F15, F15, F15, F15, F15, F15, F15, F15, F15]
abbrev b15z11 : Array Bool := #[T15, T15, T15, T15, T15, T15, T15, T15, T15, T15, T15, F15, F15, F15, F15, F15, F15, F15, F15, F15, F15, F15, F15, F15, F15, F15, F15, F15, F15, F15, F15, F15, F15]
abbrev b15z12 : Array Bool := #[T15, T15, T15, T15, T15, T15, T15, T15, T15, T15, T15, T15, F15, F15, F15, F15, F15, F15, F15, F15, F15, F15, F15, F15, F15, F15, F15, F15, F15, F15, F15, F15, F15]
abbrev b15z13 : Array Bool := #[T15, T15, T15, T15, T15, T15, T15, T15, T15, T15, T15, T15, T15, F15, F15, F15, F15, F15, F15, F15, F15, F15, F15, F15, F15, F15, F15, F15, F15, F15, F15, F15, F15]
abbrev b15z14 : Array Bool := #[T15, T15, T15, T15, T15, T15, T15, T15, T15, T15, T15, T15, T15, T15, F15, F15, F15, F15, F15, F15, F15, F15, F15, F15, F15, F15, F15, F15, F15, F15, F15, F15, F15]
abbrev b15z15 : Array Bool := #[T15, T15, T15, T15, T15, T15, T15, T15, T15, T15, T15, T15, T15, T15, T15, F15, F15, F15, F15, F15, F15, F15, F15, F15, F15, F15, F15, F15, F15, F15, F15, F15, F15]
abbrev b15z16 : Array Bool := #[T15, T15, T15, T15, T15, T15, T15, T15, T15, T15, T15, T15, T15, T15, T15, T15, F15, F15, F15, F15, F15, F15, F15, F15, F15, F15, F15, F15, F15, F15, F15, F15, F15]
abbrev b15z17 : Array Bool := #[T15, T15, T15, T15, T15, T15, T15, T15, T15, T15, T15, T15, T15, T15, T15, T15, T15, F15, F15, F15, F15, F15, F15, F15, F15, F15, F15, F15, F15, F15, F15, F15, F15]
abbrev b15z18 : Array Bool := #[T15, T15, T15, T15, T15, T15, T15, T15, T15, T15, T15, T15, T15, T15, T15, T15, T15, T15, F15, F15, F15, F15, F15, F15, F15, F15, F15, F15, F15, F15, F15, F15, F15]
abbrev b15z19 : Array Bool := #[T15, T15, T15, T15, T15, T15, T15, T15, T15, T15, T15, T15, T15, T15, T15, T15, T15, T15, T15, F15, F15, F15, F15, F15, F15, F15, F15, F15, F15, F15, F15, F15, F15]
abbrev b15z20 : Array Bool := #[T15, T15, T15, T15, T15, T15, T15, T15, T15, T15, T15, T15, T15, T15, T15, T15, T15, T15, T15, T15, F15, F15, F15, F15, F15, F15, F15, F15, F15, F15, F15, F15, F15]
abbrev b15z21 : Array Bool := #[T15, T15, T15, T15, T15, T15, T15, T15, T15, T15, T15, T15, T15, T15, T15, T15, T15, T15, T15, T15, T15, F15, F15, F15, F15, F15, F15, F15, F15, F15, F15, F15, F15]
abbrev b15z22 : Array Bool := #[T15, T15, T15, T15, T15, T15, T15, T15, T15, T15, T15, T15, T15, T15, T15, T15, T15, T15, T15, T15, T15, T15, F15, F15, F15, F15, F15, F15, F15, F15, F15, F15, F15]
abbrev b15z23 : Array Bool := #[T15, T15, T15, T15, T15, T15, T15, T15, T15, T15, T15, T15, T15, T15, T15, T15, T15, T15, T15, T15, T15, T15, T15, F15, F15, F15, F15, F15, F15, F15, F15, F15, F15]
abbrev b15z24 : Array Bool := #[T15, T15, T15, T15, T15, T15, T15, T15, T15, T15, T15, T15, T15, T15, T15, T15, T15, T15, T15, T15, T15, T15, T15, T15, F15, F15, F15, F15, F15, F15, F15, F15, F15]
abbrev b15z25 : Array Bool := #[T15, T15, T15, T15, T15, T15, T15, T15, T15, T15, T15, T15, T15, T15, T15, T15, T15, T15, T15, T15, T15, T15, T15, T15, T15, F15, F15, F15, F15, F15, F15, F15, F15]
abbrev b15z26 : Array Bool := #[T15, T15, T15, T15, T15, T15, T15, T15, T15, T15, T15, T15, T15, T15, T15, T15, T15, T15, T15, T15, T15, T15, T15, T15, T15, T15, F15, F15, F15, F15, F15, F15, F15]
abbrev b15z27 : Array Bool := #[T15, T15, T15, T15, T15, T15, T15, T15, T15, T15, T15, T15, T15, T15, T15, T15, T15, T15, T15, T15, T15, T15, T15, T15, T15, T15, T15, F15, F15, F15, F15, F15, F15]
abbrev b15z28 : Array Bool := #[T15, T15, T15, T15, T15, T15, T15, T15, T15, T15, T15, T15, T15, T15, T15, T15, T15, T15, T15, T15, T15, T15, T15, T15, T15, T15, T15, T15, F15, F15, F15, F15, F15]
abbrev b15z29 : Array Bool := #[T15, T15, T15, T15, T15, T15, T15, T15, T15, T15, T15, T15, T15, T15, T15, T15, T15, T15, T15, T15, T15, T15, T15, T15, T15, T15, T15, T15, T15, F15, F15, F15, F15]
abbrev b15z30 : Array Bool := #[T15, T15, T15, T15, T15, T15, T15, T15, T15, T15, T15, T15, T15, T15, T15, T15, T15, T15, T15, T15, T15, T15, T15, T15, T15, T15, T15, T15, T15, T15, F15, F15, F15]
abbrev b15z31 : Array Bool := #[T15, T15, T15, T15, T15, T15, T15, T15, T15, T15, T15, T15, T15, T15, T15, T15, T15, T15, T15, T15, T15, T15, T15, T15, T15, T15, T15, T15, T15, T15, T15, F15, F15]
abbrev b15z32 : Array Bool := #[T15, T15, T15, T15, T15, T15, T15, T15, T15, T15, T15, T15, T15, T15, T15, T15, T15, T15, T15, T15, T15, T15, T15, T15, T15, T15, T15, T15, T15, T15, T15, T15, F15]
abbrev b15z33 : Array Bool := #[T15, T15, T15, T15, T15, T15, T15, T15, T15, T15, T15, T15, T15, T15, T15, T15, T15, T15, T15, T15, T15, T15, T15, T15, T15, T15, T15, T15, T15, T15, T15, T15, T15]
abbrev b15z34 : Array Bool := #[T15, T15, T15, T15, T15, T15, T15, T15, T15, T15, T15, T15, T15, T15, T15, T15, T15, T15, T15, T15, T15, T15, T15, T15, T15, F15, T15, F15, F15, F15, F15, F15, F15]
abbrev b15z35 : Array Bool := #[T15, T15, T15, T15, T15, T15, T15, T15, T15, T15, T15, T15, T15, T15, T15, T15, T15, T15, T15, T15, T15, T15, T15, T15, T15, F15, T15, T15, F15, F15, F15, F15, F15]
abbrev b15z36 : Array Bool := #[T15, T15, T15, T15, T15, T15, T15, T15, T15, T15, T15, T15, T15, T15, T15, T15, T15, T15, T15, T15, T15, T15, T15, T15, T15, F15, T15, T15, T15, F15, F15, F15, F15]
abbrev b15z37 : Array Bool := #[F15, F15, F15, F15, F15, F15, F15, F15, F15, F15, F15, F15, F15, F15, F15, F15, F15, F15, F15, F15, F15, F15, F15, F15, F15, F15, F15, F15, F15]
abbrev b15z38 : Array Bool := #[T15, F15, F15, F15, F15, F15, F15, F15, F15, F15, F15, F15, F15, F15, F15, F15, F15, F15, F15, F15, F15, F15, F15, F15, F15, F15, F15, F15, F15]
abbrev b15z39 : Array Bool := #[T15, T15, F15, F15, F15, F15, F15, F15, F15, F15, F15, F15, F15, F15, F15, F15, F15, F15, F15, F15, F15, F15, F15, F15, F15, F15, F15, F15, F15]
abbrev b15z40 : Array Bool := #[T15, T15, T15, F15, F15, F15, F15, F15, F15, F15, F15, F15, F15, F15, F15, F15, F15, F15, F15, F15, F15, F15, F15, F15, F15, F15, F15, F15, F15]
abbrev b15z41 : Array Bool := #[T15, T15, T15, T15, F15, F15, F15, F15, F15, F15, F15, F15, F15, F15, F15, F15, F15, F15, F15, F15, F15, F15, F15, F15, F15, F15, F15, F15, F15]
abbrev b15z42 : Array Bool := #[T15, T15, T15, T15, T15, F15, F15, F15, F15, F15, F15, F15, F15, F15, F15, F15, F15, F15, F15, F15, F15, F15, F15, F15, F15, F15, F15, F15, F15]
abbrev b15z43 : Array Bool := #[T15, T15, T15, T15, T15, T15, F15, F15, F15, F15, F15, F15, F15, F15, F15, F15, F15, F15, F15, F15, F15, F15, F15, F15, F15, F15, F15, F15, F15]
abbrev b15z44 : Array Bool := #[T15, T15, T15, T15, T15, T15, T15, F15, F15, F15, F15, F15, F15, F15, F15, F15, F15, F15, F15, F15, F15, F15, F15, F15, F15, F15, F15, F15, F15]
abbrev b15z45 : Array Bool := #[T15, T15, T15, T15, T15, T15, T15, T15, F15, F15, F15, F15, F15, F15, F15, F15, F15, F15, F15, F15, F15, F15, F15, F15, F15, F15, F15, F15, F15]
abbrev b15z46 : Array Bool := #[T15, T15, T15, T15, T15, T15, T15, T15, T15, F15, F15, F15, F15, F15, F15, F15, F15, F15, F15, F15, F15, F15, F15, F15, F15, F15, F15, F15, F15]
abbrev b15z47 : Array Bool := #[T15, T15, T15, T15, T15, T15, T15, T15, T15, T15, F15, F15, F15, F15, F15, F15, F15, F15, F15, F15, F15, F15, F15, F15, F15, F15, F15, F15, F15]
abbrev b15z48 : Array Bool := #[T15, T15, T15, T15, T15, T15, T15, T15, T15, T15, T15, F15, F15, F15, F15, F15, F15, F15, F15, F15, F15, F15, F15, F15, F15, F15, F15, F15, F15]
abbrev b15z49 : Array Bool := #[T15, T15, T15, T15, T15, T15, T15, T15, T15, T15, T15, T15, F15, F15, F15, F15, F15, F15, F15, F15, F15, F15, F15, F15, F15, F15, F15, F15, F15]
abbrev b15z50 : Array Bool := #[T15, T15, T15, T15, T15, T15, T15, T15, T15, T15, T15, T15, T15, F15, F15, F15, F15, F15, F15, F15, F15, F15, F15, F15, F15, F15, F15, F15, F15]
abbrev b15z51 : Array Bool := #[T15, T15, T15, T15, T15, T15, T15, T15, T15, T15, T15, T15, T15, T15, F15, F15, F15, F15, F15, F15, F15, F15, F15, F15, F15, F15, F15, F15, F15]
abbrev b15z52 : Array Bool := #[T15, T15, T15, T15, T15, T15, T15, T15, T15, T15, T15, T15, T15, T15, T15, F15, F15, F15, F15, F15, F15, F15, F15, F15, F15, F15, F15, F15, F15]
abbrev b15z53 : Array Bool := #[T15, T15, T15, T15, T15, T15, T15, T15, T15, T15, T15, T15, T15, T15, T15, T15, F15, F15, F15, F15, F15, F15, F15, F15, F15, F15, F15, F15, F15]
abbrev b15z54 : Array Bool := #[T15, T15, T15, T15, T15, T15, T15, T15, T15, T15, T15, T15, T15, T15, T15, T15, T15, F15, F15, F15, F15, F15, F15, F15, F15, F15, F15, F15, F15]
abbrev b15z55 : Array Bool := #[T15, T15, T15, T15, T15, T15, T15, T15, T15, T15, T15, T15, T15, T15, T15, T15, T15, T15, F15, F15, F15, F15, F15, F15, F15, F15, F15, F15, F15]
abbrev b15z56 : Array Bool := #[T15, T15, T15, T15, T15, T15, T15, T15, T15, T15, T15, T15, T15, T15, T15, T15, T15, T15, T15, F15, F15, F15, F15, F15, F15, F15, F15, F15, F15]
abbrev b15z57 : Array Bool := #[T15, T15, T15, T15, T15, T15, T15, T15, T15, T15, T15, T15, T15, T15, T15, T15, T15, T15, T15, T15, F15, F15, F15, F15, F15, F15, F15, F15, F15]
abbrev b15z58 : Array Bool := #[T15, T15, T15, T15, T15, T15, T15, T15, T15, T15, T15, T15, T15, T15, T15, T15, T15, T15, T15, T15, T15, F15, F15, F15, F15, F15, F15, F15, F15]
abbrev b15z59 : Array Bool := #[T15, T15, T15, T15, T15, T15, T15, T15, T15, T15, T15, T15, T15, T15, T15, T15, T15, T15, T15, T15, T15, T15, F15, F15, F15, F15, F15, F15, F15]
abbrev b15z60 : Array Bool := #[T15, T15, T15, T15, T15, T15, T15, T15, T15, T15, T15, T15, T15, T15, T15, T15, T15, T15, T15, T15, T15, T15, T15, F15, F15, F15, F15, F15, F15]
abbrev b15z61 : Array Bool := #[T15, T15, T15, T15, T15, T15, T15, T15, T15, T15, T15, T15, T15, T15, T15, T15, T15, T15, T15, T15, T15, T15, T15, T15, F15, F15, F15, F15, F15]
abbrev b15z62 : Array Bool := #[T15, T15, T15, T15, T15, T15, T15, T15, T15, T15, T15, T15, T15, T15, T15, T15, T15, T15, T15, T15, T15, T15, T15, T15, T15, F15, F15, F15, F15]
abbrev b15z63 : Array Bool := #[T15, T15, T15, T15, T15, T15, T15, T15, T15, T15, T15, T15, T15, T15, T15, T15, T15, T15, T15, T15, T15, T15, T15, T15, T15, T15, F15, F15, F15]
abbrev b15z64 : Array Bool := #[T15, T15, T15, T15, T15, T15, T15, T15, T15, T15, T15, T15, T15, T15, T15, T15, T15, T15, T15, T15, T15, T15, T15, T15, T15, T15, T15, F15, F15]
abbrev b15z65 : Array Bool := #[T15, T15, T15, T15, T15, T15, T15, T15, T15, T15, T15, T15, T15, T15, T15, T15, T15, T15, T15, T15, T15, T15, T15, T15, T15, T15, T15, T15, F15]
abbrev b15z66 : Array Bool := #[T15, T15, T15, T15, T15, T15, T15, T15, T15, T15, T15, T15, T15, T15, T15, T15, T15, T15, T15, T15, T15, T15, T15, T15, T15, T15, T15, T15, T15]
abbrev b15z67 : Array Bool := #[T15, T15, T15, T15, T15, T15, T15, T15, T15, T15, T15, T15, T15, T15, F15, T15, F15, F15, F15, F15, F15, F15, F15, F15, F15, F15, F15, F15, F15]
abbrev b15z68 : Array Bool := #[T15, T15, T15, T15, T15, T15, T15, T15, T15, T15, T15, T15, T15, T15, F15, T15, F15, F15, T15, F15, F15, F15, F15, F15, F15, F15, F15, F15, F15]
abbrev b15z69 : Array Bool := #[T15, T15, T15, T15, T15, T15, T15, T15, T15, T15, T15, T15, T15, T15, F15, T15, F15, F15, T15, T15, F15, F15, F15, F15, F15, F15, F15, F15, F15]
abbrev b15z70 : Array Bool := #[T15, T15, T15, T15, T15, T15, T15, T15, T15, T15, T15, T15, T15, T15, F15, T15, F15, F15, T15, T15, T15, F15, F15, F15, F15, F15, F15, F15, F15]
abbrev b15z71 : Array Bool := #[T15, T15, T15, T15, T15, T15, T15, T15, T15, T15, T15, T15, T15, T15, F15, T15, F15, F15, T15, T15, T15, F15, T15, F15, F15, F15, F15, F15, F15]
abbrev b15z72 : Array Bool := #[T15, T15, T15, T15, T15, T15, T15, T15, T15, T15, T15, T15, T15, T15, F15, T15, F15, F15, T15, T15, T15, F15, T15, T15, F15, F15, F15, F15, F15]
abbrev b15z73 : Array Bool := #[T15, T15, T15, T15, T15, T15, T15, T15, T15, T15, T15, T15, T15, T15, T15, T15, F15, F15, T15, T15, T15, F15, T15, T15, F15, F15, F15, F15, F15]
abbrev b15z74 : Array Bool := #[T15, T15, T15, T15, T15, T15, T15, T15, T15, T15, T15, T15, T15, T15, T15, T15, T15, F15, T15, T15, T15, F15, T15, T15, F15, F15, F15, F15, F15]
abbrev b15z75 : Array Bool := #[T15, T15, T15, T15, T15, T15, T15, T15, T15, T15, T15, T15, T15, T15, T15, T15, T15, T15, T15, T15, T15, F15, T15, T15, F15, F15, F15, F15, F15]
theorem s15q0 {α : Type _} (l : List α) (i : Nat) (a : α) : l.toArray.setIfInBounds i a = (l.set i a).toArray := List.setIfInBounds_toArray ..
theorem s15q1 {α : Type _} {a b : α} {l : List α} : (a :: l).set 0 b = b :: l := List.set_cons_zero
theorem s15q2 {α : Type _} {a b : α} {l : List α} {n : Nat} : (a :: l).set (n + 1) b = a :: l.set n b := List.set_cons_succ
end diff_Script_Q
open diff_Script_Q
theorem diff_Script.mono_l : ∀ k, (∀ y0 y1 y2 y3 y4 y5, LeO (diff_Script.l0 k y0 y1 y2 y3 y4 y5) (diff_Script.l0 (k + 1) y0 y1 y2 y3 y4 y5)) ∧ (∀ y0 y1 y2 y3 y4 y5 y6, LeO (diff_Script.j1 k y0 y1 y2 y3 y4 y5 y6) (diff_Script.j1 (k + 1) y0 y1 y2 y3 y4 y5 y6)) ∧ (∀ y0 y1 y2 y3 y4 y5 y6 y7 y8, LeO (diff_Script.l1 k y0 y1 y2 y3 y4 y5 y6 y7 y8) (diff_Script.l1 (k + 1) y0 y1 y2 y3 y4 y5 y6 y7 y8)) ∧ (∀ y0 y1 y2 y3 y4 y5 y6 y7 y8 y9, LeO (diff_Script.j3 k y0 y1 y2 y3 y4 y5 y6 y7 y8 y9) (diff_Script.j3 (k + 1) y0 y1 y2 y3 y4 y5 y6 y7 y8 y9)) ∧ (∀ y0 y1 y2 y3 y4 y5 y6 y7 y8 y9, LeO (diff_Script.j4 k y0 y1 y2 y3 y4 y5 y6 y7 y8 y9) (diff_Script.j4 (k + 1) y0 y1 y2 y3 y4 y5 y6 y7 y8 y9))
  | 0 => ⟨fun _ _ _ _ _ _ r h => by simp [diff_Script.l0] at h, fun _ _ _ _ _ _ _ r h => by simp [diff_Script.j1] at h, fun _ _ _ _ _ _ _ _ _ r h => by simp [diff_Script.l1] at h, fun _ _ _ _ _ _ _ _ _ _ r h => by simp [diff_Script.j3] at h, fun _ _ _ _ _ _ _ _ _ _ r h => by simp [diff_Script.j4] at h⟩
  | k + 1 => by
    obtain ⟨ih0, ih1, ih2, ih3, ih4⟩ := diff_Script.mono_l k
    refine ⟨?_, ?_, ?_, ?_, ?_⟩
    · intro y0 y1 y2 y3 y4 y5
      unfold diff_Script.l0
      repeat' first
      | (with_reducible exact ih0 _ _ _ _ _ _)
      | (with_reducible exact ih1 _ _ _ _ _ _ _)
      | (with_reducible exact ih2 _ _ _ _ _ _ _ _ _)
      | (with_reducible exact ih3 _ _ _ _ _ _ _ _ _ _)
      | (with_reducible exact ih4 _ _ _ _ _ _ _ _ _ _)
      | (with_reducible exact diff_measure.mono _ _ _)
      | (with_reducible exact lines_Two.mono _ _ _)
      | (with_reducible exact LeO.refl _)
      | (with_reducible exact LeO.none _)
      | (with_reducible refine LeO.ite ?_ ?_)
      | (with_reducible refine LeO.bind ?_ (fun _ => ?_))
      | exact ih0 _ _ _ _ _ _
      | exact ih1 _ _ _ _ _ _ _
      | exact ih2 _ _ _ _ _ _ _ _ _
      | exact ih3 _ _ _ _ _ _ _ _ _ _
      | exact ih4 _ _ _ _ _ _ _ _ _ _
      | exact diff_measure.mono _ _ _
      | exact lines_Two.mono _ _ _
      | exact LeO.none _
      | refine LeO.ite ?_ ?_
      | refine LeO.bind ?_ (fun _ => ?_)
    · intro y0 y1 y2 y3 y4 y5 y6
      unfold diff_Script.j1
      repeat' first
      | (with_reducible exact ih0 _ _ _ _ _ _)
      | (with_reducible exact ih1 _ _ _ _ _ _ _)
      | (with_reducible exact ih2 _ _ _ _ _ _ _ _ _)
      | (with_reducible exact ih3 _ _ _ _ _ _ _ _ _ _)
      | (with_reducible exact ih4 _ _ _ _ _ _ _ _ _ _)
      | (with_reducible exact diff_measure.mono _ _ _)
      | (with_reducible exact lines_Two.mono _ _ _)
      | (with_reducible exact LeO.refl _)
      | (with_reducible exact LeO.none _)
      | (with_reducible refine LeO.ite ?_ ?_)
      | (with_reducible refine LeO.bind ?_ (fun _ => ?_))
      | exact ih0 _ _ _ _ _ _
      | exact ih1 _ _ _ _ _ _ _
      | exact ih2 _ _ _ _ _ _ _ _ _
      | exact ih3 _ _ _ _ _ _ _ _ _ _
      | exact ih4 _ _ _ _ _ _ _ _ _ _
      | exact diff_measure.mono _ _ _
      | exact lines_Two.mono _ _ _
      | exact LeO.none _
      | refine LeO.ite ?_ ?_
      | refine LeO.bind ?_ (fun _ => ?_)
    · intro y0 y1 y2 y3 y4 y5 y6 y7 y8
      unfold diff_Script.l1
      repeat' first
      | (with_reducible exact ih0 _ _ _ _ _ _)
      | (with_reducible exact ih1 _ _ _ _ _ _ _)
      | (with_reducible exact ih2 _ _ _ _ _ _ _ _ _)
      | (with_reducible exact ih3 _ _ _ _ _ _ _ _ _ _)
      | (with_reducible exact ih4 _ _ _ _ _ _ _ _ _ _)
      | (with_reducible exact diff_measure.mono _ _ _)
      | (with_reducible exact lines_Two.mono _ _ _)
      | (with_reducible exact LeO.refl _)
      | (with_reducible exact LeO.none _)
      | (with_reducible refine LeO.ite ?_ ?_)
      | (with_reducible refine LeO.bind ?_ (fun _ => ?_))
      | exact ih0 _ _ _ _ _ _
      | exact ih1 _ _ _ _ _ _ _
      | exact ih2 _ _ _ _ _ _ _ _ _
      | exact ih3 _ _ _ _ _ _ _ _ _ _
      | exact ih4 _ _ _ _ _ _ _ _ _ _
      | exact diff_measure.mono _ _ _
      | exact lines_Two.mono _ _ _
      | exact LeO.none _
      | refine LeO.ite ?_ ?_
      | refine LeO.bind ?_ (fun _ => ?_)
    · intro y0 y1 y2 y3 y4 y5 y6 y7 y8 y9
      unfold diff_Script.j3
      repeat' first
      | (with_reducible exact ih0 _ _ _ _ _ _)
      | (with_reducible exact ih1 _ _ _ _ _ _ _)
      | (with_reducible exact ih2 _ _ _ _ _ _ _ _ _)
      | (with_reducible exact ih3 _ _ _ _ _ _ _ _ _ _)
      | (with_reducible exact ih4 _ _ _ _ _ _ _ _ _ _)
      | (with_reducible exact diff_measure.mono _ _ _)
      | (with_reducible exact lines_Two.mono _ _ _)
      | (with_reducible exact LeO.refl _)
      | (with_reducible exact LeO.none _)
      | (with_reducible refine LeO.ite ?_ ?_)
      | (with_reducible refine LeO.bind ?_ (fun _ => ?_))
      | exact ih0 _ _ _ _ _ _
      | exact ih1 _ _ _ _ _ _ _
      | exact ih2 _ _ _ _ _ _ _ _ _
      | exact ih3 _ _ _ _ _ _ _ _ _ _
      | exact ih4 _ _ _ _ _ _ _ _ _ _
      | exact diff_measure.mono _ _ _
      | exact lines_Two.mono _ _ _
      | exact LeO.none _
      | refine LeO.ite ?_ ?_
      | refine LeO.bind ?_ (fun _ => ?_)
    · intro y0 y1 y2 y3 y4 y5 y6 y7 y8 y9
      unfold diff_Script.j4
      repeat' first
      | (with_reducible exact ih0 _ _ _ _ _ _)
      | (with_reducible exact ih1 _ _ _ _ _ _ _)
      | (with_reducible exact ih2 _ _ _ _ _ _ _ _ _)
      | (with_reducible exact ih3 _ _ _ _ _ _ _ _ _ _)
      | (with_reducible exact ih4 _ _ _ _ _ _ _ _ _ _)
      | (with_reducible exact diff_measure.mono _ _ _)
      | (with_reducible exact lines_Two.mono _ _ _)
      | (with_reducible exact LeO.refl _)
      | (with_reducible exact LeO.none _)
      | (with_reducible refine LeO.ite ?_ ?_)
      | (with_reducible refine LeO.bind ?_ (fun _ => ?_))
      | exact ih0 _ _ _ _ _ _
      | exact ih1 _ _ _ _ _ _ _
      | exact ih2 _ _ _ _ _ _ _ _ _
      | exact ih3 _ _ _ _ _ _ _ _ _ _
      | exact ih4 _ _ _ _ _ _ _ _ _ _
      | exact diff_measure.mono _ _ _
      | exact lines_Two.mono _ _ _
      | exact LeO.none _
      | refine LeO.ite ?_ ?_
      | refine LeO.bind ?_ (fun _ => ?_)
theorem diff_Script.mono : ∀ a0 a1 k, LeO (diff_Script.f k a0 a1) (diff_Script.f (k + 1) a0 a1) := by
 intro a0 a1 k
 obtain ⟨ih0, ih1, ih2, ih3, ih4⟩ := diff_Script.mono_l k
 unfold diff_Script.f
 repeat' first
  | (with_reducible exact ih0 _ _ _ _ _ _)
  | (with_reducible exact ih1 _ _ _ _ _ _ _)
  | (with_reducible exact ih2 _ _ _ _ _ _ _ _ _)
  | (with_reducible exact ih3 _ _ _ _ _ _ _ _ _ _)
  | (with_reducible exact ih4 _ _ _ _ _ _ _ _ _ _)
  | (with_reducible exact diff_measure.mono _ _ _)
  | (with_reducible exact lines_Two.mono _ _ _)
  | (with_reducible exact LeO.refl _)
  | (with_reducible exact LeO.none _)
  | (with_reducible refine LeO.ite ?_ ?_)
  | (with_reducible refine LeO.bind ?_ (fun _ => ?_))
  | exact ih0 _ _ _ _ _ _
  | exact ih1 _ _ _ _ _ _ _
  | exact ih2 _ _ _ _ _ _ _ _ _
  | exact ih3 _ _ _ _ _ _ _ _ _ _
  | exact ih4 _ _ _ _ _ _ _ _ _ _
  | exact diff_measure.mono _ _ _
  | exact lines_Two.mono _ _ _
  | exact LeO.none _
  | refine LeO.ite ?_ ?_
  | refine LeO.bind ?_ (fun _ => ?_)
def diff_Script_i22.T4 : Bool × List (List Nat × List Nat) := (true, [([], []), ([], []), ([1], [1]), ([0, 2], [0, 2]), ([3], [3]), ([4], [4]), ([4], [4]), ([6, 4], [4, 6]), ([5, 7, 4], [4, 5, 7]), ([4, 8], [4, 8]), ([9, 4], [9]), ([10], [10]), ([10], [10]), ([12, 10], [10, 12]), ([11, 13, 10], [10, 11, 13]), ([14, 10, 10], [10, 14]), ([15], [15]), ([15], [15]), ([17, 15], [15, 17]), ([16, 18, 15], [15, 16, 18]), ([15, 19, 10], [10, 15, 19]), ([20, 15, 10], [10, 20]), ([21], [21]), ([21], [21]), ([22, 23, 21], [21, 22, 23]), ([24, 21], [21, 24]), ([21], [21]), ([21], [21]), ([26, 27, 21], [21, 26, 27]), ([28, 21], [21, 28]), ([25, 29, 21], [21, 25, 29]), ([21, 30, 10], [10, 21, 30]), ([10, 31], [10, 31])])
def diff_Script_i22.B4 : List Nat := [0, 0, 2, 7, 15, 31, 31, 95, 255, 511, 1023, 2047, 2047, 6143, 16383, 32767, 65535, 65535, 196607, 524287, 1048575, 2097151, 4194303, 4194303, 16777215, 33554431, 4194303, 4194303, 205520895, 473956351, 1073741823, 2147483647, 4294967295]
theorem diff_Script_i22.tab4 : rtab .any (opsOf Try.f22 4) = diff_Script_i22.T4 := by kernel_rfl
theorem diff_Script_i22.bits4 : waitsOk diff_Script_i22.T4.2 diff_Script_i22.B4 = true := by kernel_rfl
def diff_Script_i22.T5 : Bool × List (List Nat × List Nat) := (true, [([], []), ([], []), ([1], [1]), ([0, 2], [0, 2]), ([3], [3]), ([4], [4]), ([4], [4]), ([6, 4], [4, 6]), ([5, 7, 4], [4, 5, 7]), ([8, 4, 4], [4, 8]), ([9], [9]), ([9], [9]), ([11, 9], [9, 11]), ([10, 12, 9], [9, 10, 12]), ([13, 9], [9, 13]), ([9], [9]), ([14, 15, 9], [9, 14, 15]), ([16, 9], [9, 16]), ([9], [9]), ([9], [9]), ([18, 19, 9], [9, 18, 19]), ([20, 9], [9, 20]), ([9], [9]), ([22, 9], [9, 22]), ([21, 23, 9], [9, 21, 23]), ([24, 9], [9, 24]), ([17, 25, 9], [9, 17, 25]), ([9, 26, 4], [4, 9, 26]), ([4, 27], [4, 27])])
def diff_Script_i22.B5 : List Nat := [0, 0, 2, 7, 15, 31, 31, 95, 255, 511, 1023, 1023, 3071, 8191, 16383, 1023, 65535, 131071, 1023, 1023, 787455, 1836031, 1023, 4195327, 16516095, 33293311, 67108863, 134217727, 268435455]
theorem diff_Script_i22.tab5 : rtab .any (opsOf Try.f22 5) = diff_Script_i22.T5 := by kernel_rfl
theorem diff_Script_i22.bits5 : waitsOk diff_Script_i22.T5.2 diff_Script_i22.B5 = true := by kernel_rfl
def diff_Script_i22.T6 : Bool × List (List Nat × List Nat) := (true, [([], []), ([0], [0]), ([], []), ([], []), ([2, 3], [2, 3]), ([4], [4]), ([5], [5]), ([1, 6], [1, 6]), ([0, 1, 2, 3, 4, 5, 6, 7], []), ([8, 7, 7, 0, 1, 2, 3, 4, 5, 6, 7], [7, 8])])
def diff_Script_i22.B6 : List Nat := [0, 1, 0, 0, 12, 28, 60, 127, 255, 511]
theorem diff_Script_i22.tab6 : rtab .any (opsOf Try.f22 6) = diff_Script_i22.T6 := by kernel_rfl
theorem diff_Script_i22.bits6 : waitsOk diff_Script_i22.T6.2 diff_Script_i22.B6 = true := by kernel_rfl
def diff_Script_i22.T8 : Bool × List (List Nat × List Nat) := (true, [([], []), ([0], [0]), ([], []), ([], []), ([2, 3], [2, 3]), ([4], [4]), ([5], [5]), ([1, 6], [1, 6]), ([0, 1, 2, 3, 4, 5, 6, 7], []), ([8, 7, 7, 0, 1, 2, 3, 4, 5, 6, 7], [7, 8])])
def diff_Script_i22.B8 : List Nat := [0, 1, 0, 0, 12, 28, 60, 127, 255, 511]
theorem diff_Script_i22.tab8 : rtab .any (opsOf Try.f22 8) = diff_Script_i22.T8 := by kernel_rfl
theorem diff_Script_i22.bits8 : waitsOk diff_Script_i22.T8.2 diff_Script_i22.B8 = true := by kernel_rfl
set_option maxHeartbeats 8000000 in
set_option maxRecDepth 100000 in
theorem diff_Script.calls (k : Nat) (A0 : Option Addr) (c0 : Nat) (l0 : List ByteArray) (A1 : Option Addr) (c1 : Nat) (l1 : List ByteArray) (r1 : List (S42)) (r2 : Int) (r3 : Int) (w : World) (hr0 : Kd.C Kd.string w A0 l0.length l0) (hc0 : l0.length ≤ c0) (hr1 : Kd.C Kd.string w A1 l1.length l1) (hc1 : l1.length ≤ c1) (h : diff_Script.f k l0 l1 = some (r1, r2, r3)) :
    Calls Try.prog 15 #[.slice A0 l0.length c0, .slice A1 l1.length c1] w fun e w' => ∃ v0_ : Value, e = .returned (.tuple #[.agg #[v0_], .agg #[.int .i64 r2, .int .i64 r3]]) ∧ Kd.S k42 42 w' w.heap.size (fun _ => True) v0_ r1 ∧ Below w.heap.size w w' := by
 have hu38 := Try.underlying38
 have hu25 := Try.underlying25
 have hu42 := Try.underlying42
 have HR0 := Aside0.mk hr0
 have HC0 := Aside0.mk hc0
 clear hr0 hc0
 have HR1 := Aside0.mk hr1
 have HC1 := Aside0.mk hc1
 clear hr1 hc1
 have HB := Aside0.mk (Below.refl w.heap.size w)
 have H : ((lines_Two.f k l0 l1).bind fun bt137 => (if (!(bt137.1 == 0) || (!(bt137.2 == 0))) = true then (some (([] : List (S42)), bt137.1, bt137.2)) else ((diff_measure.f k l0 l1).bind fun t141 => (diff_Script.l0 k l0 l1 t141 0 0 ([] : List (S42)))))) = some (r1, r2, r3) := h
 clear h
 replace H := Option.bind_eq_some_iff.mp H
 obtain ⟨⟨t137, t138⟩, A30, H⟩ := H
 replace H : (if (!(t137 == 0) || (!(t138 == 0))) = true then (some (([] : List (S42)), t137, t138)) else ((diff_measure.f k l0 l1).bind fun t141 => (diff_Script.l0 k l0 l1 t141 0 0 ([] : List (S42))))) = some (r1, r2, r3) := H
 have A3 := Aside0.mk A30
 clear A30
 by_cases c4 : (!(t137 == 0) || (!(t138 == 0))) = true
 · rw [if_pos c4] at H
   have c4b0 : (!(t137 == 0) || (!(t138 == 0))) = true := c4
   clear c4
   simp only [Option.some.injEq, Prod.mk.injEq] at H
   obtain ⟨rfl, rfl, rfl⟩ := H
   go_enter Try.func15, Try.ntmps15
   try go_wp2_with (first | ((with_reducible refine gate_dst (N := 4) rfl ?_); refine box_event ?hg (N := 4) ?hd (cs := #[.slice none 0 0]) (t := 38) ?hr ?_; (case hd => rfl); (case hg => rfl); (case hr => first | (go_simp; done) | (go_simp; rfl)); intro gb135 hg w5 hbox hb; have n0_ := Aside0.mk (below_step (hbw HB.out) hb); have n1_ := Aside0.mk (hbox); have n2_ := Aside0.mk ((by rw [hg]; exact (below_size (hbw HB.out)) : w.heap.size ≤ gb135)); have n3_ := Aside0.mk ((by rw [hg]; exact (below_size (hbw HB.out)) : w.heap.size ≤ gb135)); clear HB; have HB := n0_; have BK135 := n1_; have GW135 := n2_; have GE135 := n3_; clear n0_ n1_ n2_ n3_; clear hb hbox hg) | ((with_reducible refine gate_dst (N := 5) rfl ?_); refine box_event ?hg (N := 5) ?hd (cs := #[.int .i64 0, .int .i64 0]) (t := 25) ?hr ?_; (case hd => rfl); (case hg => rfl); (case hr => first | (go_simp; done) | (go_simp; rfl)); intro gb136 hg w6 hbox hb; have n0_ := Aside0.mk (blk_below (bkw BK135.out) hb); have n1_ := Aside0.mk (below_step (hbw HB.out) hb); have n2_ := Aside0.mk (hbox); have n3_ := Aside0.mk ((by rw [hg]; exact (below_size (hbw HB.out)) : w.heap.size ≤ gb136)); have n4_ := Aside0.mk ((by rw [hg]; exact (below_size (hbw HB.out)) : w.heap.size ≤ gb136)); have n5_ := Aside0.mk ((bkne (bkw BK135.out) hg : gb135 ≠ gb136)); have n6_ := Aside0.mk ((bknc (bkw BK135.out) hg : gb136 ≠ gb135)); clear BK135; clear HB; have BK135 := n0_; have HB := n1_; have BK136 := n2_; have GW136 := n3_; have GE136 := n4_; have NB135_136 := n5_; have NB136_135 := n6_; clear n0_ n1_ n2_ n3_ n4_ n5_ n6_; clear hb hbox hg) | ((with_reducible refine gate_callee (f := 21) rfl ?_); refine goesL_ (some 10) rfl rfl Try.func21 (by kernel_rfl) rfl #[.slice A0 l0.length c0, .slice A1 l1.length c1] rfl (by (try simp only [List.map_toArray, List.map_cons, List.map_nil]); first | done | rfl | (simp only [List.length_drop, List.length_take]; rfl)) ?_; (with_reducible refine (lines_Two.calls k _ _ l0 _ _ l1 t137 t138 _ ?side1 ?side2 ?side3 ?side4 A3.out).mono ?_); (case side1 => repeat (first | exact (Kd.C_below HR0.out HB.out) | (with_reducible refine Kd.C_alloc ?_ _) | (with_reducible refine Kd.C_drewN ?_ _) | (with_reducible refine Kd.C_drew ?_))); (case side2 => exact HC0.out); (case side3 => repeat (first | exact (Kd.C_below HR1.out HB.out) | (with_reducible refine Kd.C_alloc ?_ _) | (with_reducible refine Kd.C_drewN ?_ _) | (with_reducible refine Kd.C_drew ?_))); (case side4 => exact HC1.out); rintro e w7 ⟨rfl, hb⟩; refine ⟨_, rfl, ?_⟩; have n0_ := Aside0.mk (blk_below (bkw BK135.out) hb); have n1_ := Aside0.mk (blk_below (bkw BK136.out) hb); have n2_ := Aside0.mk (below_step (hbw HB.out) hb); clear BK135; clear BK136; clear HB; have BK135 := n0_; have BK136 := n1_; have HB := n2_; clear n0_ n1_ n2_; (try clear hb); (try clear hb2); (try clear hk); (try clear hi)) | ((with_reducible refine gate_dst (N := 6) rfl ?_); refine box_event ?hg (N := 6) ?hd (cs := #[.int .i64 0, .int .i64 0]) (t := 25) ?hr ?_; (case hd => rfl); (case hg => rfl); (case hr => first | (go_simp; done) | (go_simp; rfl)); intro gb139 hg w8 hbox hb; have n0_ := Aside0.mk (blk_below (bkw BK135.out) hb); have n1_ := Aside0.mk (blk_below (bkw BK136.out) hb); have n2_ := Aside0.mk (below_step (hbw HB.out) hb); have n3_ := Aside0.mk (hbox); have n4_ := Aside0.mk ((by rw [hg]; exact (below_size (hbw HB.out)) : w.heap.size ≤ gb139)); have n5_ := Aside0.mk ((by rw [hg]; exact (below_size (hbw HB.out)) : w.heap.size ≤ gb139)); have n6_ := Aside0.mk ((bkne (bkw BK135.out) hg : gb135 ≠ gb139)); have n7_ := Aside0.mk ((bknc (bkw BK135.out) hg : gb139 ≠ gb135)); have n8_ := Aside0.mk ((bkne (bkw BK136.out) hg : gb136 ≠ gb139)); have n9_ := Aside0.mk ((bknc (bkw BK136.out) hg : gb139 ≠ gb136)); clear BK135; clear BK136; clear HB; have BK135 := n0_; have BK136 := n1_; have HB := n2_; have BK139 := n3_; have GW139 := n4_; have GE139 := n5_; have NB135_139 := n6_; have NB139_135 := n7_; have NB136_139 := n8_; have NB139_136 := n9_; clear n0_ n1_ n2_ n3_ n4_ n5_ n6_ n7_ n8_ n9_; clear hb hbox hg; have hnb9 := NB139_135.out; have hnc9 := NB135_139.out; have hnb10 := NB139_136.out; have hnc10 := NB136_139.out; have hcz11_0 : w8.cell? ⟨gb139, 0, none⟩ = some (.int .i64 0) := (blk_cell BK139.out 0).trans rfl; have hcz11_1 : w8.cell? ⟨gb139, 1, none⟩ = some (.int .i64 0) := (blk_cell BK139.out 1).trans rfl; have hfz11_0 := blk_frozen BK139.out 0; have hfz11_1 := blk_frozen BK139.out 1))
   have n0_ : Aside0 (((w8.setCell ⟨gb139, 0, none⟩ (.int .i64 t137)).setCell ⟨gb139, 1, none⟩ (.int .i64 t138)).heap[gb135]? = some (.cells #[.slice none 0 0] 38 (0, 0))) := ⟨by (with_reducible repeat (first | refine blk_drewN ?_ _ | refine blk_drew ?_ | refine blk_alloc ?_ _)); refine blk_far ?_ NB135_139.out _; (with_reducible repeat (first | refine blk_drewN ?_ _ | refine blk_drew ?_ | refine blk_alloc ?_ _)); refine blk_far ?_ NB135_139.out _; (with_reducible repeat (first | refine blk_drewN ?_ _ | refine blk_drew ?_ | refine blk_alloc ?_ _)); exact BK135.out⟩
   have n1_ : Aside0 (((w8.setCell ⟨gb139, 0, none⟩ (.int .i64 t137)).setCell ⟨gb139, 1, none⟩ (.int .i64 t138)).heap[gb136]? = some (.cells #[.int .i64 0, .int .i64 0] 25 (0, 0))) := ⟨by (with_reducible repeat (first | refine blk_drewN ?_ _ | refine blk_drew ?_ | refine blk_alloc ?_ _)); refine blk_far ?_ NB136_139.out _; (with_reducible repeat (first | refine blk_drewN ?_ _ | refine blk_drew ?_ | refine blk_alloc ?_ _)); refine blk_far ?_ NB136_139.out _; (with_reducible repeat (first | refine blk_drewN ?_ _ | refine blk_drew ?_ | refine blk_alloc ?_ _)); exact BK136.out⟩
   have n2_ : Aside0 (((w8.setCell ⟨gb139, 0, none⟩ (.int .i64 t137)).setCell ⟨gb139, 1, none⟩ (.int .i64 t138)).heap[gb139]? = some (.cells #[.int .i64 t137, .int .i64 t138] 25 (0, 0))) := ⟨by (with_reducible repeat (first | refine blk_drewN ?_ _ | refine blk_drew ?_ | refine blk_alloc ?_ _)); refine blk_put (cs := #[.int .i64 t137, .int .i64 0]) ?_ 1 _ rfl; (with_reducible repeat (first | refine blk_drewN ?_ _ | refine blk_drew ?_ | refine blk_alloc ?_ _)); refine blk_put (cs := #[.int .i64 0, .int .i64 0]) ?_ 0 _ rfl; (with_reducible repeat (first | refine blk_drewN ?_ _ | refine blk_drew ?_ | refine blk_alloc ?_ _)); exact BK139.out⟩
   have n3_ : Aside0 (Below w.heap.size w ((w8.setCell ⟨gb139, 0, none⟩ (.int .i64 t137)).setCell ⟨gb139, 1, none⟩ (.int .i64 t138))) := ⟨by repeat (first | (with_reducible first | exact HB.out | apply below_alloc | apply pw_below_drewN | apply below_drew1 | refine below_set ?_ GE135.out | refine below_set ?_ GE136.out | refine below_set ?_ GE139.out) | exact HB.out)⟩
   (try clear BK135)
   (try clear BK136)
   (try clear BK139)
   (try clear HB)
   generalize ((w8.setCell ⟨gb139, 0, none⟩ (.int .i64 t137)).setCell ⟨gb139, 1, none⟩ (.int .i64 t138)) = w12 at n0_ n1_ n2_ n3_ ⊢
   have BK135 := n0_
   have BK136 := n1_
   have BK139 := n2_
   have HB := n3_
   clear n0_ n1_ n2_ n3_
   have n0_ := Aside0.mk (blk_drew BK135.out)
   have n1_ := Aside0.mk (blk_drew BK136.out)
   have n2_ := Aside0.mk (blk_drew BK139.out)
   have n3_ := Aside0.mk (below_drew1 HB.out)
   clear BK135
   clear BK136
   clear BK139
   clear HB
   have BK135 := n0_
   have BK136 := n1_
   have BK139 := n2_
   have HB := n3_
   clear n0_ n1_ n2_ n3_
   refine start_ (n := 4) (S := fun w' => w'.cell? ⟨gb139, 0, none⟩ = some (.int .i64 t137) ∧ w'.cell? ⟨gb139, 1, none⟩ = some (.int .i64 t138)) (ds := []) #[false, false, false, false] (by kernel_rfl) rfl rfl ⟨(blk_cell BK139.out 0).trans rfl, (blk_cell BK139.out 1).trans rfl⟩ (fun hHeld => ?_)
   generalize w12.drew = w13 at BK135 BK136 BK139 HB hHeld ⊢
   refine pure_ (i := 0) (N := some 14) (v := ?_) (a' := ?_) #[true, false, false, false] rfl rfl (by kernel_rfl) (fun _ _ _ h => h) (Or.inl ⟨by rfl, ?_⟩) ?_ ?_
   rotate_left
   · intro w'
     go_simp
     with_reducible rfl
   rotate_left
   · simp only [Act.put, s15q0, s15q1, s15q2, i64_w, i32_w]
     rfl
   refine take_ (i := 1) (N := some 15) (v := ?_) (a' := ?_) #[true, true, false, false] rfl rfl (by kernel_rfl) (fun _ _ _ h => h) (Or.inl ⟨by rfl, ?_⟩) hHeld ?_ ?_
   rotate_left
   · rintro w' ⟨s0, s1⟩
     go_simp
     with_reducible rfl
   rotate_left
   · simp only [Act.put, s15q0, s15q1, s15q2, i64_w, i32_w]
     rfl
   refine one_ (i := 2) (N := none) #[true, true, true, false] rfl rfl (by kernel_rfl) (by decide) (fun K hK => ?_)
   have hs14 : w13.cell? ⟨gb135, 0, none⟩ = some (.slice none 0 0) := (blk_cell BK135.out 0).trans rfl
   have hfs14 := blk_frozen BK135.out 0
   have hns14_1 := NB136_135.out
   have hns14_2 := NB139_135.out
   have hms14_1 := NB135_136.out
   have hms14_2 := NB135_139.out
   refine skip_ (w1 := ?_) (by rfl) rfl ?_ ?_
   rotate_left
   · go_simp
     rfl
   refine hK.out _ _ ⟨((cell_far (p := ⟨gb135, _, none⟩) NB139_135.out _).trans (hHeld.1)), ((cell_far (p := ⟨gb135, _, none⟩) NB139_135.out _).trans (hHeld.2))⟩ (fun hHeld => ?_)
   clear hK K
   refine one_ (i := 3) (N := none) #[true, true, true, true] rfl rfl (by kernel_rfl) (by decide) (fun K hK => ?_)
   have hs15 : w13.cell? ⟨gb136, 0, none⟩ = some (.int .i64 0) := (blk_cell BK136.out 0).trans rfl
   have hfs15 := blk_frozen BK136.out 0
   have hns15_0 := NB135_136.out
   have hns15_2 := NB139_136.out
   have hms15_0 := NB136_135.out
   have hms15_2 := NB136_139.out
   have hs16 : w13.cell? ⟨gb136, 1, none⟩ = some (.int .i64 0) := (blk_cell BK136.out 1).trans rfl
   have hfs16 := blk_frozen BK136.out 1
   have hns16_0 := NB135_136.out
   have hns16_2 := NB139_136.out
   have hms16_0 := NB136_135.out
   have hms16_2 := NB136_139.out
   refine skip_ (w1 := ?_) (by rfl) rfl ?_ ?_
   rotate_left
   · go_simp
     rfl
   refine hK.out _ _ ⟨((cell_far (p := ⟨gb136, _, none⟩) NB139_136.out _).trans (((cell_far (p := ⟨gb136, _, none⟩) NB139_136.out _).trans (hHeld.1)))), ((cell_far (p := ⟨gb136, _, none⟩) NB139_136.out _).trans (((cell_far (p := ⟨gb136, _, none⟩) NB139_136.out _).trans (hHeld.2))))⟩ (fun hHeld => ?_)
   clear hK K
   refine done_ (by kernel_rfl) ?_
   try go_wp2_with (fail)
   refine bodyPost_ret (results_cc rfl _ _ gb135 gb136 38 25 #[.slice none 0 0] #[.int .i64 t137, .int .i64 t138] (0, 0) (0, 0) _ _ rfl (by (with_reducible repeat (first | refine blk_drewN ?_ _ | refine blk_drew ?_ | refine blk_alloc ?_ _)); refine blk_far ?_ NB135_136.out _; (with_reducible repeat (first | refine blk_drewN ?_ _ | refine blk_drew ?_ | refine blk_alloc ?_ _)); refine blk_far ?_ NB135_136.out _; (with_reducible repeat (first | refine blk_drewN ?_ _ | refine blk_drew ?_ | refine blk_alloc ?_ _)); refine blk_put (cs := #[.slice none 0 0]) ?_ 0 _ rfl; (with_reducible repeat (first | refine blk_drewN ?_ _ | refine blk_drew ?_ | refine blk_alloc ?_ _)); exact BK135.out) Try.underlying38 rfl (by kernel_rfl) rfl (by (with_reducible repeat (first | refine blk_drewN ?_ _ | refine blk_drew ?_ | refine blk_alloc ?_ _)); refine blk_put (cs := #[.int .i64 t137, .int .i64 0]) ?_ 1 _ rfl; (with_reducible repeat (first | refine blk_drewN ?_ _ | refine blk_drew ?_ | refine blk_alloc ?_ _)); refine blk_put (cs := #[.int .i64 0, .int .i64 0]) ?_ 0 _ rfl; (with_reducible repeat (first | refine blk_drewN ?_ _ | refine blk_drew ?_ | refine blk_alloc ?_ _)); refine blk_far ?_ NB136_135.out _; (with_reducible repeat (first | refine blk_drewN ?_ _ | refine blk_drew ?_ | refine blk_alloc ?_ _)); exact BK136.out) Try.underlying25 rfl (by kernel_rfl)) rfl ?_
   exact ⟨_, by first | rfl | (simp [errW_none, errW_some] <;> rfl) | (simp [*, errW_none, errW_some] <;> rfl), by first | exact Kd.S_nil _ _ _ _ _ | exact Kd.N_nil _ _ _ _ _ | exact Kd.V_nil _ _ _ _ _ | exact Kd.Q_nil _ _ _ _ _ | exact Kd.R_nil _ _ _ _ _, by repeat (first | (with_reducible first | exact HB.out | apply below_alloc | apply pw_below_drewN | apply below_drew1 | refine below_set ?_ GE135.out | refine below_set ?_ GE136.out | refine below_set ?_ GE139.out) | exact HB.out)⟩
 rw [if_neg c4] at H
 have c4b0 : (!(t137 == 0) || (!(t138 == 0))) = false := by simpa using c4
 clear c4
 replace H := Option.bind_eq_some_iff.mp H
 obtain ⟨t141, A170, H⟩ := H
 replace H : (diff_Script.l0 k l0 l1 t141 0 0 ([] : List (S42))) = some (r1, r2, r3) := H
 have A17 := Aside0.mk A170
 clear A170
 have H' := Aside0.mk H
 clear H
 go_enter Try.func15, Try.ntmps15
 try go_wp2_with (first | ((with_reducible refine gate_dst (N := 4) rfl ?_); refine box_event ?hg (N := 4) ?hd (cs := #[.slice none 0 0]) (t := 38) ?hr ?_; (case hd => rfl); (case hg => rfl); (case hr => first | (go_simp; done) | (go_simp; rfl)); intro gb135 hg w18 hbox hb; have n0_ := Aside0.mk (below_step (hbw HB.out) hb); have n1_ := Aside0.mk (hbox); have n2_ := Aside0.mk ((by rw [hg]; exact (below_size (hbw HB.out)) : w.heap.size ≤ gb135)); have n3_ := Aside0.mk ((by rw [hg]; exact (below_size (hbw HB.out)) : w.heap.size ≤ gb135)); clear HB; have HB := n0_; have BK135 := n1_; have GW135 := n2_; have GE135 := n3_; clear n0_ n1_ n2_ n3_; clear hb hbox hg) | ((with_reducible refine gate_dst (N := 5) rfl ?_); refine box_event ?hg (N := 5) ?hd (cs := #[.int .i64 0, .int .i64 0]) (t := 25) ?hr ?_; (case hd => rfl); (case hg => rfl); (case hr => first | (go_simp; done) | (go_simp; rfl)); intro gb136 hg w19 hbox hb; have n0_ := Aside0.mk (blk_below (bkw BK135.out) hb); have n1_ := Aside0.mk (below_step (hbw HB.out) hb); have n2_ := Aside0.mk (hbox); have n3_ := Aside0.mk ((by rw [hg]; exact (below_size (hbw HB.out)) : w.heap.size ≤ gb136)); have n4_ := Aside0.mk ((by rw [hg]; exact (below_size (hbw HB.out)) : w.heap.size ≤ gb136)); have n5_ := Aside0.mk ((bkne (bkw BK135.out) hg : gb135 ≠ gb136)); have n6_ := Aside0.mk ((bknc (bkw BK135.out) hg : gb136 ≠ gb135)); clear BK135; clear HB; have BK135 := n0_; have HB := n1_; have BK136 := n2_; have GW136 := n3_; have GE136 := n4_; have NB135_136 := n5_; have NB136_135 := n6_; clear n0_ n1_ n2_ n3_ n4_ n5_ n6_; clear hb hbox hg) | ((with_reducible refine gate_callee (f := 21) rfl ?_); refine goesL_ (some 10) rfl rfl Try.func21 (by kernel_rfl) rfl #[.slice A0 l0.length c0, .slice A1 l1.length c1] rfl (by (try simp only [List.map_toArray, List.map_cons, List.map_nil]); first | done | rfl | (simp only [List.length_drop, List.length_take]; rfl)) ?_; (with_reducible refine (lines_Two.calls k _ _ l0 _ _ l1 t137 t138 _ ?side1 ?side2 ?side3 ?side4 A3.out).mono ?_); (case side1 => repeat (first | exact (Kd.C_below HR0.out HB.out) | (with_reducible refine Kd.C_alloc ?_ _) | (with_reducible refine Kd.C_drewN ?_ _) | (with_reducible refine Kd.C_drew ?_))); (case side2 => exact HC0.out); (case side3 => repeat (first | exact (Kd.C_below HR1.out HB.out) | (with_reducible refine Kd.C_alloc ?_ _) | (with_reducible refine Kd.C_drewN ?_ _) | (with_reducible refine Kd.C_drew ?_))); (case side4 => exact HC1.out); rintro e w20 ⟨rfl, hb⟩; refine ⟨_, rfl, ?_⟩; have n0_ := Aside0.mk (blk_below (bkw BK135.out) hb); have n1_ := Aside0.mk (blk_below (bkw BK136.out) hb); have n2_ := Aside0.mk (below_step (hbw HB.out) hb); clear BK135; clear BK136; clear HB; have BK135 := n0_; have BK136 := n1_; have HB := n2_; clear n0_ n1_ n2_; (try clear hb); (try clear hb2); (try clear hk); (try clear hi)) | ((with_reducible refine gate_dst (N := 6) rfl ?_); refine box_event ?hg (N := 6) ?hd (cs := #[.int .i64 0, .int .i64 0]) (t := 25) ?hr ?_; (case hd => rfl); (case hg => rfl); (case hr => first | (go_simp; done) | (go_simp; rfl)); intro gb139 hg w21 hbox hb; have n0_ := Aside0.mk (blk_below (bkw BK135.out) hb); have n1_ := Aside0.mk (blk_below (bkw BK136.out) hb); have n2_ := Aside0.mk (below_step (hbw HB.out) hb); have n3_ := Aside0.mk (hbox); have n4_ := Aside0.mk ((by rw [hg]; exact (below_size (hbw HB.out)) : w.heap.size ≤ gb139)); have n5_ := Aside0.mk ((by rw [hg]; exact (below_size (hbw HB.out)) : w.heap.size ≤ gb139)); have n6_ := Aside0.mk ((bkne (bkw BK135.out) hg : gb135 ≠ gb139)); have n7_ := Aside0.mk ((bknc (bkw BK135.out) hg : gb139 ≠ gb135)); have n8_ := Aside0.mk ((bkne (bkw BK136.out) hg : gb136 ≠ gb139)); have n9_ := Aside0.mk ((bknc (bkw BK136.out) hg : gb139 ≠ gb136)); clear BK135; clear BK136; clear HB; have BK135 := n0_; have BK136 := n1_; have HB := n2_; have BK139 := n3_; have GW139 := n4_; have GE139 := n5_; have NB135_139 := n6_; have NB139_135 := n7_; have NB136_139 := n8_; have NB139_136 := n9_; clear n0_ n1_ n2_ n3_ n4_ n5_ n6_ n7_ n8_ n9_; clear hb hbox hg; have hnb22 := NB139_135.out; have hnc22 := NB135_139.out; have hnb23 := NB139_136.out; have hnc23 := NB136_139.out; have hcz24_0 : w21.cell? ⟨gb139, 0, none⟩ = some (.int .i64 0) := (blk_cell BK139.out 0).trans rfl; have hcz24_1 : w21.cell? ⟨gb139, 1, none⟩ = some (.int .i64 0) := (blk_cell BK139.out 1).trans rfl; have hfz24_0 := blk_frozen BK139.out 0; have hfz24_1 := blk_frozen BK139.out 1) | ((with_reducible refine gate_dst (N := 7) rfl ?_); refine box_event ?hg (N := 7) ?hd (cs := #[.slice none 0 0]) (t := 38) ?hr ?_; (case hd => rfl); (case hg => rfl); (case hr => first | (go_simp; done) | (go_simp; rfl)); intro gb140 hg w25 hbox hb; have n0_ := Aside0.mk (blk_below (g := gb135) (o := .cells #[.slice none 0 0] 38 (0, 0)) (by (with_reducible repeat (first | refine blk_drewN ?_ _ | refine blk_drew ?_ | refine blk_alloc ?_ _)); refine blk_far ?_ NB135_139.out _; (with_reducible repeat (first | refine blk_drewN ?_ _ | refine blk_drew ?_ | refine blk_alloc ?_ _)); refine blk_far ?_ NB135_139.out _; (with_reducible repeat (first | refine blk_drewN ?_ _ | refine blk_drew ?_ | refine blk_alloc ?_ _)); exact BK135.out) hb); have n1_ := Aside0.mk (blk_below (g := gb136) (o := .cells #[.int .i64 0, .int .i64 0] 25 (0, 0)) (by (with_reducible repeat (first | refine blk_drewN ?_ _ | refine blk_drew ?_ | refine blk_alloc ?_ _)); refine blk_far ?_ NB136_139.out _; (with_reducible repeat (first | refine blk_drewN ?_ _ | refine blk_drew ?_ | refine blk_alloc ?_ _)); refine blk_far ?_ NB136_139.out _; (with_reducible repeat (first | refine blk_drewN ?_ _ | refine blk_drew ?_ | refine blk_alloc ?_ _)); exact BK136.out) hb); have n2_ := Aside0.mk (blk_below (g := gb139) (o := .cells #[.int .i64 t137, .int .i64 t138] 25 (0, 0)) (by (with_reducible repeat (first | refine blk_drewN ?_ _ | refine blk_drew ?_ | refine blk_alloc ?_ _)); refine blk_put (cs := #[.int .i64 t137, .int .i64 0]) ?_ 1 _ rfl; (with_reducible repeat (first | refine blk_drewN ?_ _ | refine blk_drew ?_ | refine blk_alloc ?_ _)); refine blk_put (cs := #[.int .i64 0, .int .i64 0]) ?_ 0 _ rfl; (with_reducible repeat (first | refine blk_drewN ?_ _ | refine blk_drew ?_ | refine blk_alloc ?_ _)); exact BK139.out) hb); have n3_ := Aside0.mk (below_step (hbw HB.out) hb); have n4_ := Aside0.mk (hbox); have n5_ := Aside0.mk ((by rw [hg]; exact (below_size (hbw HB.out)) : w.heap.size ≤ gb140)); have n6_ := Aside0.mk ((by rw [hg]; exact (below_size (hbw HB.out)) : w.heap.size ≤ gb140)); have n7_ := Aside0.mk ((by rw [hg]; exact Nat.ne_of_lt (blk_lt (g := gb135) (o := .cells #[.slice none 0 0] 38 (0, 0)) (by (with_reducible repeat (first | refine blk_drewN ?_ _ | refine blk_drew ?_ | refine blk_alloc ?_ _)); refine blk_far ?_ NB135_139.out _; (with_reducible repeat (first | refine blk_drewN ?_ _ | refine blk_drew ?_ | refine blk_alloc ?_ _)); refine blk_far ?_ NB135_139.out _; (with_reducible repeat (first | refine blk_drewN ?_ _ | refine blk_drew ?_ | refine blk_alloc ?_ _)); exact BK135.out)) : gb135 ≠ gb140)); have n8_ := Aside0.mk ((by rw [hg]; exact Nat.ne_of_gt (blk_lt (g := gb135) (o := .cells #[.slice none 0 0] 38 (0, 0)) (by (with_reducible repeat (first | refine blk_drewN ?_ _ | refine blk_drew ?_ | refine blk_alloc ?_ _)); refine blk_far ?_ NB135_139.out _; (with_reducible repeat (first | refine blk_drewN ?_ _ | refine blk_drew ?_ | refine blk_alloc ?_ _)); refine blk_far ?_ NB135_139.out _; (with_reducible repeat (first | refine blk_drewN ?_ _ | refine blk_drew ?_ | refine blk_alloc ?_ _)); exact BK135.out)) : gb140 ≠ gb135)); have n9_ := Aside0.mk ((by rw [hg]; exact Nat.ne_of_lt (blk_lt (g := gb136) (o := .cells #[.int .i64 0, .int .i64 0] 25 (0, 0)) (by (with_reducible repeat (first | refine blk_drewN ?_ _ | refine blk_drew ?_ | refine blk_alloc ?_ _)); refine blk_far ?_ NB136_139.out _; (with_reducible repeat (first | refine blk_drewN ?_ _ | refine blk_drew ?_ | refine blk_alloc ?_ _)); refine blk_far ?_ NB136_139.out _; (with_reducible repeat (first | refine blk_drewN ?_ _ | refine blk_drew ?_ | refine blk_alloc ?_ _)); exact BK136.out)) : gb136 ≠ gb140)); have n10_ := Aside0.mk ((by rw [hg]; exact Nat.ne_of_gt (blk_lt (g := gb136) (o := .cells #[.int .i64 0, .int .i64 0] 25 (0, 0)) (by (with_reducible repeat (first | refine blk_drewN ?_ _ | refine blk_drew ?_ | refine blk_alloc ?_ _)); refine blk_far ?_ NB136_139.out _; (with_reducible repeat (first | refine blk_drewN ?_ _ | refine blk_drew ?_ | refine blk_alloc ?_ _)); refine blk_far ?_ NB136_139.out _; (with_reducible repeat (first | refine blk_drewN ?_ _ | refine blk_drew ?_ | refine blk_alloc ?_ _)); exact BK136.out)) : gb140 ≠ gb136)); have n11_ := Aside0.mk ((by rw [hg]; exact Nat.ne_of_lt (blk_lt (g := gb139) (o := .cells #[.int .i64 t137, .int .i64 t138] 25 (0, 0)) (by (with_reducible repeat (first | refine blk_drewN ?_ _ | refine blk_drew ?_ | refine blk_alloc ?_ _)); refine blk_put (cs := #[.int .i64 t137, .int .i64 0]) ?_ 1 _ rfl; (with_reducible repeat (first | refine blk_drewN ?_ _ | refine blk_drew ?_ | refine blk_alloc ?_ _)); refine blk_put (cs := #[.int .i64 0, .int .i64 0]) ?_ 0 _ rfl; (with_reducible repeat (first | refine blk_drewN ?_ _ | refine blk_drew ?_ | refine blk_alloc ?_ _)); exact BK139.out)) : gb139 ≠ gb140)); have n12_ := Aside0.mk ((by rw [hg]; exact Nat.ne_of_gt (blk_lt (g := gb139) (o := .cells #[.int .i64 t137, .int .i64 t138] 25 (0, 0)) (by (with_reducible repeat (first | refine blk_drewN ?_ _ | refine blk_drew ?_ | refine blk_alloc ?_ _)); refine blk_put (cs := #[.int .i64 t137, .int .i64 0]) ?_ 1 _ rfl; (with_reducible repeat (first | refine blk_drewN ?_ _ | refine blk_drew ?_ | refine blk_alloc ?_ _)); refine blk_put (cs := #[.int .i64 0, .int .i64 0]) ?_ 0 _ rfl; (with_reducible repeat (first | refine blk_drewN ?_ _ | refine blk_drew ?_ | refine blk_alloc ?_ _)); exact BK139.out)) : gb140 ≠ gb139)); clear BK135; clear BK136; clear BK139; clear HB; have BK135 := n0_; have BK136 := n1_; have BK139 := n2_; have HB := n3_; have BK140 := n4_; have GW140 := n5_; have GE140 := n6_; have NB135_140 := n7_; have NB140_135 := n8_; have NB136_140 := n9_; have NB140_136 := n10_; have NB139_140 := n11_; have NB140_139 := n12_; clear n0_ n1_ n2_ n3_ n4_ n5_ n6_ n7_ n8_ n9_ n10_ n11_ n12_; clear hb hbox hg))
 go_in
 try go_wp2_with (first | ((with_reducible refine gate_callee (f := 30) rfl ?_); refine goesL_ (some 14) rfl rfl Try.func30 (by kernel_rfl) rfl #[.slice A0 l0.length c0, .slice A1 l1.length c1] rfl (by (try simp only [List.map_toArray, List.map_cons, List.map_nil]); first | done | rfl | (simp only [List.length_drop, List.length_take]; rfl)) ?_; (with_reducible refine (diff_measure.calls k _ _ l0 _ _ l1 t141 _ ?side1 ?side2 ?side3 ?side4 A17.out).mono ?_); (case side1 => repeat (first | exact (Kd.C_below HR0.out HB.out) | (with_reducible refine Kd.C_alloc ?_ _) | (with_reducible refine Kd.C_drewN ?_ _) | (with_reducible refine Kd.C_drew ?_))); (case side2 => exact HC0.out); (case side3 => repeat (first | exact (Kd.C_below HR1.out HB.out) | (with_reducible refine Kd.C_alloc ?_ _) | (with_reducible refine Kd.C_drewN ?_ _) | (with_reducible refine Kd.C_drew ?_))); (case side4 => exact HC1.out); rintro e w26 ⟨v142, rfl, ho0, hb⟩; refine ⟨_, rfl, ?_⟩; have n0_ := Aside0.mk (Kd.S_lower ho0 (below_size (hbw HB.out))); have n1_ := Aside0.mk (blk_below (bkw BK135.out) hb); have n2_ := Aside0.mk (blk_below (bkw BK136.out) hb); have n3_ := Aside0.mk (blk_below (bkw BK139.out) hb); have n4_ := Aside0.mk (blk_below (bkw BK140.out) hb); have n5_ := Aside0.mk (below_step (hbw HB.out) hb); clear BK135; clear BK136; clear BK139; clear BK140; clear HB; have HO143 := n0_; have BK135 := n1_; have BK136 := n2_; have BK139 := n3_; have BK140 := n4_; have HB := n5_; clear n0_ n1_ n2_ n3_ n4_ n5_; (try clear hb); (try clear hb2); (try clear hk); (try clear hi); (try clear ho0)))
 go_loopg [9, 10] k (fun kq v9 v10 w' => ∃ (x9_1 : Int) (x10_1 : Int) (x141000_1 : List (S42)) (u141000 : Value), v9 = .int .i64 x9_1 ∧ v10 = .int .i64 x10_1 ∧ Aside0 (diff_Script.l0 kq l0 l1 t141 x9_1 x10_1 x141000_1 = some (r1, r2, r3)) ∧ Aside0 (kq ≤ k) ∧ Aside0 (Kd.S (Kd.slice 3 (Kd.int .i64)) 23 w' w.heap.size (fun _ => True) v142 t141) ∧ Aside0 (Kd.S k42 42 w' w.heap.size (fun _ => True) u141000 x141000_1) ∧ Aside0 (w'.heap[gb135]? = some (.cells #[(.slice none 0 0)] 38 (0, 0))) ∧ Aside0 (w'.heap[gb136]? = some (.cells #[.int .i64 0, .int .i64 0] 25 (0, 0))) ∧ Aside0 (w'.heap[gb139]? = some (.cells #[.int .i64 t137, .int .i64 t138] 25 (0, 0))) ∧ Aside0 (w'.heap[gb140]? = some (.cells #[u141000] 38 (0, 0))) ∧ Aside0 (Below w.heap.size w w'))
 case atStart => exact ⟨(0), (0), (([] : List (S42))), (.slice none 0 0), (by first | rfl | (simp; done) | (simp [*]; done)), (by first | rfl | (simp; done) | (simp [*]; done)), H', ⟨Nat.le_refl _⟩, ⟨by (with_reducible repeat (first | apply Kd.S_alloc | apply Kd.S_drewN | apply Kd.S_drew)); exact HO143.out⟩, ⟨by first | exact Kd.S_nil _ _ _ _ _ | exact Kd.N_nil _ _ _ _ _ | exact Kd.V_nil _ _ _ _ _ | exact Kd.Q_nil _ _ _ _ _ | exact Kd.R_nil _ _ _ _ _⟩, ⟨by (with_reducible repeat (first | refine blk_drewN ?_ _ | refine blk_drew ?_ | refine blk_alloc ?_ _)); exact BK135.out⟩, ⟨by (with_reducible repeat (first | refine blk_drewN ?_ _ | refine blk_drew ?_ | refine blk_alloc ?_ _)); exact BK136.out⟩, ⟨by (with_reducible repeat (first | refine blk_drewN ?_ _ | refine blk_drew ?_ | refine blk_alloc ?_ _)); exact BK139.out⟩, ⟨by (with_reducible repeat (first | refine blk_drewN ?_ _ | refine blk_drew ?_ | refine blk_alloc ?_ _)); exact BK140.out⟩, ⟨by repeat (first | (with_reducible first | exact HB.out | apply below_alloc | apply pw_below_drewN | apply below_drew1 | refine below_set ?_ GE135.out | refine below_set ?_ GE136.out | refine below_set ?_ GE139.out | refine below_set ?_ GE140.out) | exact HB.out)⟩⟩
 clear H'
 try clear c1
 try clear c2
 try clear p2
 try clear c3
 try clear c4
 try clear c4b0
 try clear c9
 try clear c10
 try clear c15
 try clear c21
 try clear c22
 try clear c23
 try clear hcz11_0
 try clear hcz11_1
 try clear hcz24_0
 try clear hcz24_1
 try clear hfz11_0
 try clear hfz11_1
 try clear hfz24_0
 try clear hfz24_1
 obtain ⟨x9_1, x10_1, x141000_1, u141000, rfl, rfl, HA, HK1, HO_8, HO_141000, BK135, BK136, BK139, BK140, HB⟩ := hrel
 cases gk with
 | zero => exact absurd HA.out (by simp [diff_Script.l0])
 | succ k1 =>
 have H := HA.out
 clear HA
 simp only [diff_Script.l0] at H
 have HC27 := Aside0.mk H
 clear H
 go_upto_region 2 with (fail)
 go_cut [24, 15, 16, 17, 18, 19, 20, 21, 22, 23, 25, 26, 27, 28, 29, 30, 31, 32, 33, 34, 35, 36, 37, 38, 39, 40, 41, 42, 43, 44, 45, 46, 47, 48, 49, 50, 51, 52, 53, 54, 55, 56, 57, 58, 59, 60, 61, 62, 63, 64, 65, 66, 67, 68, 69, 70, 71, 72, 73, 74, 75, 76, 77, 78, 79, 80, 81, 82, 83, 84, 85, 86, 87, 88, 89, 90, 91, 92, 93, 94, 95, 96, 97, 98, 99, 100, 101, 102, 103, 104, 105, 106, 107, 108, 109, 110, 111, 112, 113, 114, 115, 116, 117, 118, 119, 120, 121, 122, 123, 124, 125, 126, 127, 128] from 99999 (fun v24 _ _ _ _ _ _ _ _ _ _ _ _ _ _ _ _ _ _ _ _ _ _ _ _ _ _ _ _ _ _ _ _ _ _ _ _ _ _ _ _ _ _ _ _ _ _ _ _ _ _ _ _ _ _ _ _ _ _ _ _ _ _ _ _ _ _ _ _ _ _ _ _ _ _ _ _ _ _ _ _ _ _ _ _ _ _ _ _ _ _ _ _ _ _ _ _ _ _ _ _ _ _ _ _ _ _ _ _ _ _ _ _ _ wc => ∃ (kq : Nat) (x24_26 : Bool), v24 = .bool x24_26 ∧ Aside0 (diff_Script.j1 kq l0 l1 t141 x9_1 x10_1 x24_26 x141000_1 = some (r1, r2, r3)) ∧ Aside0 (kq ≤ k1) ∧ Aside0 (Kd.S (Kd.slice 3 (Kd.int .i64)) 23 wc w.heap.size (fun _ => True) v142 t141) ∧ Aside0 (Kd.S k42 42 wc w.heap.size (fun _ => True) u141000 x141000_1) ∧ Aside0 (wc.heap[gb135]? = some (.cells #[(.slice none 0 0)] 38 (0, 0))) ∧ Aside0 (wc.heap[gb136]? = some (.cells #[.int .i64 0, .int .i64 0] 25 (0, 0))) ∧ Aside0 (wc.heap[gb139]? = some (.cells #[.int .i64 t137, .int .i64 t138] 25 (0, 0))) ∧ Aside0 (wc.heap[gb140]? = some (.cells #[u141000] 38 (0, 0))) ∧ Aside0 (Below w.heap.size w wc))
 case first =>
  have H := HC27.out
  clear HC27
  by_cases c28 : x9_1 < (l0.length : Int)
  · rw [if_pos c28] at H
    have c28b0 : decide (x9_1 < (l0.length : Int)) = true := decide_eq_true c28
    clear c28
    (first | rw [c28b0] | (simp only [i64_w, i32_w]; rw [c28b0]) | skip)
    have H' := Aside0.mk H
    clear H
    go_wp2_with (fail)
    go_meet
    case rel => exact ⟨_, (true), (by first | rfl | (simp; done) | (simp [*]; done)), H', ⟨by have := HK1.out; first | omega | exact Nat.le_refl _⟩, ⟨by (with_reducible repeat (first | apply Kd.S_alloc | apply Kd.S_drewN | apply Kd.S_drew)); exact HO_8.out⟩, ⟨by (with_reducible repeat (first | apply Kd.S_alloc | apply Kd.S_drewN | apply Kd.S_drew)); exact HO_141000.out⟩, ⟨by (with_reducible repeat (first | refine blk_drewN ?_ _ | refine blk_drew ?_ | refine blk_alloc ?_ _)); exact BK135.out⟩, ⟨by (with_reducible repeat (first | refine blk_drewN ?_ _ | refine blk_drew ?_ | refine blk_alloc ?_ _)); exact BK136.out⟩, ⟨by (with_reducible repeat (first | refine blk_drewN ?_ _ | refine blk_drew ?_ | refine blk_alloc ?_ _)); exact BK139.out⟩, ⟨by (with_reducible repeat (first | refine blk_drewN ?_ _ | refine blk_drew ?_ | refine blk_alloc ?_ _)); exact BK140.out⟩, ⟨by repeat (first | (with_reducible first | exact HB.out | apply below_alloc | apply pw_below_drewN | apply below_drew1 | refine below_set ?_ GE135.out | refine below_set ?_ GE136.out | refine below_set ?_ GE139.out | refine below_set ?_ GE140.out) | exact HB.out)⟩⟩
  rw [if_neg c28] at H
  have c28b0 : decide (x9_1 < (l0.length : Int)) = false := decide_eq_false c28
  clear c28
  (first | rw [c28b0] | (simp only [i64_w, i32_w]; rw [c28b0]) | skip)
  have H' := Aside0.mk H
  clear H
  go_wp2_with (fail)
  go_meet
  case rel => exact ⟨_, (decide (x10_1 < (l1.length : Int))), (by first | rfl | (simp; done) | (simp [*]; done)), H', ⟨by have := HK1.out; first | omega | exact Nat.le_refl _⟩, ⟨by (with_reducible repeat (first | apply Kd.S_alloc | apply Kd.S_drewN | apply Kd.S_drew)); exact HO_8.out⟩, ⟨by (with_reducible repeat (first | apply Kd.S_alloc | apply Kd.S_drewN | apply Kd.S_drew)); exact HO_141000.out⟩, ⟨by (with_reducible repeat (first | refine blk_drewN ?_ _ | refine blk_drew ?_ | refine blk_alloc ?_ _)); exact BK135.out⟩, ⟨by (with_reducible repeat (first | refine blk_drewN ?_ _ | refine blk_drew ?_ | refine blk_alloc ?_ _)); exact BK136.out⟩, ⟨by (with_reducible repeat (first | refine blk_drewN ?_ _ | refine blk_drew ?_ | refine blk_alloc ?_ _)); exact BK139.out⟩, ⟨by (with_reducible repeat (first | refine blk_drewN ?_ _ | refine blk_drew ?_ | refine blk_alloc ?_ _)); exact BK140.out⟩, ⟨by repeat (first | (with_reducible first | exact HB.out | apply below_alloc | apply pw_below_drewN | apply below_drew1 | refine below_set ?_ GE135.out | refine below_set ?_ GE136.out | refine below_set ?_ GE139.out | refine below_set ?_ GE140.out) | exact HB.out)⟩⟩
 clear HC27
 try clear c1
 try clear c2
 try clear p2
 try clear c3
 try clear c4
 try clear c4b0
 try clear c9
 try clear c10
 try clear c15
 try clear c21
 try clear c22
 try clear c23
 try clear c28
 try clear c28b0
 try clear hcz11_0
 try clear hcz11_1
 try clear hcz24_0
 try clear hcz24_1
 try clear hfz11_0
 try clear hfz11_1
 try clear hfz24_0
 try clear hfz24_1
 try clear p2
 obtain ⟨kq, x24_26, rfl, HA, HJ26, HO_8, HO_141000, BK135, BK136, BK139, BK140, HB⟩ := hcut
 cases kq with
 | zero => exact absurd HA.out (by simp [diff_Script.j1])
 | succ kj26 =>
 have H := HA.out
 clear HA
 simp only [diff_Script.j1] at H
 by_cases c29 : x24_26 = true
 · subst c29
   have H1 : (diff_Script.l1 kj26 l0 l1 t141 x9_1 x10_1 x141000_1 x9_1 ([] : List ByteArray) ([] : List ByteArray)) = some (r1, r2, r3) := by rw [if_pos rfl] at H; exact H
   clear H
   have H := H1
   clear H1
   have H' := Aside0.mk H
   clear H
   go_wp2_with (first | ((with_reducible refine gate_dst (N := 11) rfl ?_); refine box_event ?hg (N := 11) ?hd (cs := #[.int .i64 0, .slice none 0 0, .slice none 0 0]) (t := 42) ?hr ?_; (case hd => rfl); (case hg => rfl); (case hr => first | (go_simp; done) | (go_simp; rfl)); intro gb144 hg w30 hbox hb; have n0_ := Aside0.mk (Kd.S_below (kdS HO_8.out) hb); have n1_ := Aside0.mk (Kd.S_below (Kd.S_elderB (kdS HO_141000.out) gb144 (Nat.le_of_eq hg.symm)) hb); have n2_ := Aside0.mk (blk_below (bkw BK135.out) hb); have n3_ := Aside0.mk (blk_below (bkw BK136.out) hb); have n4_ := Aside0.mk (blk_below (bkw BK139.out) hb); have n5_ := Aside0.mk (blk_below (bkw BK140.out) hb); have n6_ := Aside0.mk (below_step (hbw HB.out) hb); have n7_ := Aside0.mk (hbox); have n8_ := Aside0.mk ((by rw [hg]; exact (below_size (hbw HB.out)) : w.heap.size ≤ gb144)); have n9_ := Aside0.mk ((by rw [hg]; exact (below_size (hbw HB.out)) : w.heap.size ≤ gb144)); have n10_ := Aside0.mk ((bkne (bkw BK135.out) hg : gb135 ≠ gb144)); have n11_ := Aside0.mk ((bknc (bkw BK135.out) hg : gb144 ≠ gb135)); have n12_ := Aside0.mk ((bkne (bkw BK136.out) hg : gb136 ≠ gb144)); have n13_ := Aside0.mk ((bknc (bkw BK136.out) hg : gb144 ≠ gb136)); have n14_ := Aside0.mk ((bkne (bkw BK139.out) hg : gb139 ≠ gb144)); have n15_ := Aside0.mk ((bknc (bkw BK139.out) hg : gb144 ≠ gb139)); have n16_ := Aside0.mk ((bkne (bkw BK140.out) hg : gb140 ≠ gb144)); have n17_ := Aside0.mk ((bknc (bkw BK140.out) hg : gb144 ≠ gb140)); clear HO_8; clear HO_141000; clear BK135; clear BK136; clear BK139; clear BK140; clear HB; have HO_8 := n0_; have HO_141000 := n1_; have BK135 := n2_; have BK136 := n3_; have BK139 := n4_; have BK140 := n5_; have HB := n6_; have BK144 := n7_; have GW144 := n8_; have GE144 := n9_; have NB135_144 := n10_; have NB144_135 := n11_; have NB136_144 := n12_; have NB144_136 := n13_; have NB139_144 := n14_; have NB144_139 := n15_; have NB140_144 := n16_; have NB144_140 := n17_; clear n0_ n1_ n2_ n3_ n4_ n5_ n6_ n7_ n8_ n9_ n10_ n11_ n12_ n13_ n14_ n15_ n16_ n17_; clear hb hbox hg; have hnb31 := NB144_135.out; have hnc31 := NB135_144.out; have hnb32 := NB144_136.out; have hnc32 := NB136_144.out; have hnb33 := NB144_139.out; have hnc33 := NB139_144.out; have hnb34 := NB144_140.out; have hnc34 := NB140_144.out; have hcz35_0 : w30.cell? ⟨gb144, 0, none⟩ = some (.int .i64 0) := (blk_cell BK144.out 0).trans rfl; have hcz35_1 : w30.cell? ⟨gb144, 1, none⟩ = some (.slice none 0 0) := (blk_cell BK144.out 1).trans rfl; have hcz35_2 : w30.cell? ⟨gb144, 2, none⟩ = some (.slice none 0 0) := (blk_cell BK144.out 2).trans rfl; have hfz35_0 := blk_frozen BK144.out 0; have hfz35_1 := blk_frozen BK144.out 1; have hfz35_2 := blk_frozen BK144.out 2))
   go_loopg [9, 10] kj26 (fun kq v9 v10 w' => ∃ (x9_3 : Int) (x10_3 : Int) (x145001_3 : List ByteArray) (x145002_3 : List ByteArray) (u145001 : Value) (u145002 : Value), v9 = .int .i64 x9_3 ∧ v10 = .int .i64 x10_3 ∧ Aside0 (diff_Script.l1 kq l0 l1 t141 x9_3 x10_3 x141000_1 x9_1 x145001_3 x145002_3 = some (r1, r2, r3)) ∧ Aside0 (kq ≤ kj26) ∧ Aside0 (Kd.S (Kd.slice 3 (Kd.int .i64)) 23 w' w.heap.size (fun _ => True) v142 t141) ∧ Aside0 (Kd.S k42 42 w' w.heap.size (fun k_ => some k_ ≠ (u145001 : Value).ownBlock ∧ some k_ ≠ (u145002 : Value).ownBlock ∧ k_ ≠ gb144) u141000 x141000_1) ∧ Aside0 (Kd.R Kd.string 9 w' w.heap.size (fun k_ => some k_ ≠ (u145002 : Value).ownBlock) u145001 x145001_3) ∧ Aside0 (Kd.R Kd.string 9 w' w.heap.size (fun k_ => some k_ ≠ (u145001 : Value).ownBlock) u145002 x145002_3) ∧ Aside0 (w'.heap[gb135]? = some (.cells #[(.slice none 0 0)] 38 (0, 0))) ∧ Aside0 (w'.heap[gb136]? = some (.cells #[.int .i64 0, .int .i64 0] 25 (0, 0))) ∧ Aside0 (w'.heap[gb139]? = some (.cells #[.int .i64 t137, .int .i64 t138] 25 (0, 0))) ∧ Aside0 (w'.heap[gb140]? = some (.cells #[u141000] 38 (0, 0))) ∧ Aside0 (w'.heap[gb144]? = some (.cells #[.int .i64 x9_1, u145001, u145002] 42 (0, 0))) ∧ Aside0 (Below w.heap.size w w'))
   case atStart => exact ⟨(x9_1), (x10_1), (([] : List ByteArray)), (([] : List ByteArray)), (.slice none 0 0), (.slice none 0 0), (by first | rfl | (simp; done) | (simp [*]; done)), (by first | rfl | (simp; done) | (simp [*]; done)), H', ⟨Nat.le_refl _⟩, ⟨by (with_reducible repeat (first | apply Kd.S_alloc | apply Kd.S_drewN | apply Kd.S_drew)); exact Kd.S_mono (Kd.S_far (p := ⟨gb144, 2, none⟩) (Kd.S_far (p := ⟨gb144, 1, none⟩) (Kd.S_far (p := ⟨gb144, 0, none⟩) (Kd.S_types HO_8.out BK144.out (by decide)) (fun _ hk => hk.2) (.int .i64 x9_1)) (fun _ hk => hk.2) (.slice none 0 0)) (fun _ hk => hk.2) (.slice none 0 0)) (fun _ hk => trivial)⟩, ⟨by (with_reducible repeat (first | apply Kd.S_alloc | apply Kd.S_drewN | apply Kd.S_drew)); exact Kd.S_mono (Kd.S_far (p := ⟨gb144, 2, none⟩) (Kd.S_far (p := ⟨gb144, 1, none⟩) (Kd.S_far (p := ⟨gb144, 0, none⟩) (Kd.S_mono HO_141000.out (fun k_ hk => (⟨hk, hk.2⟩ : _ ∧ k_ ≠ gb144))) (fun _ hk => hk.2) (.int .i64 x9_1)) (fun _ hk => hk.2) (.slice none 0 0)) (fun _ hk => hk.2) (.slice none 0 0)) (fun _ hk => ⟨(by simp [Value.ownBlock]), ⟨(by simp [Value.ownBlock]), hk.1.2⟩⟩)⟩, ⟨by first | exact Kd.R_nil _ _ _ _ _ | exact Kd.N_nil _ _ _ _ _ | exact Kd.V_nil _ _ _ _ _ | exact Kd.Q_nil _ _ _ _ _ | exact Kd.S_nil _ _ _ _ _⟩, ⟨by first | exact Kd.R_nil _ _ _ _ _ | exact Kd.N_nil _ _ _ _ _ | exact Kd.V_nil _ _ _ _ _ | exact Kd.Q_nil _ _ _ _ _ | exact Kd.S_nil _ _ _ _ _⟩, ⟨by (with_reducible repeat (first | refine blk_drewN ?_ _ | refine blk_drew ?_ | refine blk_alloc ?_ _)); refine blk_far ?_ NB135_144.out _; (with_reducible repeat (first | refine blk_drewN ?_ _ | refine blk_drew ?_ | refine blk_alloc ?_ _)); refine blk_far ?_ NB135_144.out _; (with_reducible repeat (first | refine blk_drewN ?_ _ | refine blk_drew ?_ | refine blk_alloc ?_ _)); refine blk_far ?_ NB135_144.out _; (with_reducible repeat (first | refine blk_drewN ?_ _ | refine blk_drew ?_ | refine blk_alloc ?_ _)); exact BK135.out⟩, ⟨by (with_reducible repeat (first | refine blk_drewN ?_ _ | refine blk_drew ?_ | refine blk_alloc ?_ _)); refine blk_far ?_ NB136_144.out _; (with_reducible repeat (first | refine blk_drewN ?_ _ | refine blk_drew ?_ | refine blk_alloc ?_ _)); refine blk_far ?_ NB136_144.out _; (with_reducible repeat (first | refine blk_drewN ?_ _ | refine blk_drew ?_ | refine blk_alloc ?_ _)); refine blk_far ?_ NB136_144.out _; (with_reducible repeat (first | refine blk_drewN ?_ _ | refine blk_drew ?_ | refine blk_alloc ?_ _)); exact BK136.out⟩, ⟨by (with_reducible repeat (first | refine blk_drewN ?_ _ | refine blk_drew ?_ | refine blk_alloc ?_ _)); refine blk_far ?_ NB139_144.out _; (with_reducible repeat (first | refine blk_drewN ?_ _ | refine blk_drew ?_ | refine blk_alloc ?_ _)); refine blk_far ?_ NB139_144.out _; (with_reducible repeat (first | refine blk_drewN ?_ _ | refine blk_drew ?_ | refine blk_alloc ?_ _)); refine blk_far ?_ NB139_144.out _; (with_reducible repeat (first | refine blk_drewN ?_ _ | refine blk_drew ?_ | refine blk_alloc ?_ _)); exact BK139.out⟩, ⟨by (with_reducible repeat (first | refine blk_drewN ?_ _ | refine blk_drew ?_ | refine blk_alloc ?_ _)); refine blk_far ?_ NB140_144.out _; (with_reducible repeat (first | refine blk_drewN ?_ _ | refine blk_drew ?_ | refine blk_alloc ?_ _)); refine blk_far ?_ NB140_144.out _; (with_reducible repeat (first | refine blk_drewN ?_ _ | refine blk_drew ?_ | refine blk_alloc ?_ _)); refine blk_far ?_ NB140_144.out _; (with_reducible repeat (first | refine blk_drewN ?_ _ | refine blk_drew ?_ | refine blk_alloc ?_ _)); exact BK140.out⟩, ⟨by (with_reducible repeat (first | refine blk_drewN ?_ _ | refine blk_drew ?_ | refine blk_alloc ?_ _)); refine blk_put (cs := #[.int .i64 x9_1, .slice none 0 0, .slice none 0 0]) ?_ 2 _ rfl; (with_reducible repeat (first | refine blk_drewN ?_ _ | refine blk_drew ?_ | refine blk_alloc ?_ _)); refine blk_put (cs := #[.int .i64 x9_1, .slice none 0 0, .slice none 0 0]) ?_ 1 _ rfl; (with_reducible repeat (first | refine blk_drewN ?_ _ | refine blk_drew ?_ | refine blk_alloc ?_ _)); refine blk_put (cs := #[.int .i64 0, .slice none 0 0, .slice none 0 0]) ?_ 0 _ rfl; (with_reducible repeat (first | refine blk_drewN ?_ _ | refine blk_drew ?_ | refine blk_alloc ?_ _)); exact BK144.out⟩, ⟨by repeat (first | (with_reducible first | exact HB.out | apply below_alloc | apply pw_below_drewN | apply below_drew1 | refine below_set ?_ GE135.out | refine below_set ?_ GE136.out | refine below_set ?_ GE139.out | refine below_set ?_ GE140.out | refine below_set ?_ GE144.out) | exact HB.out)⟩⟩
   clear H'
   try clear c1
   try clear c2
   try clear p2
   try clear c3
   try clear c4
   try clear c4b0
   try clear c9
   try clear c10
   try clear c15
   try clear c21
   try clear c22
   try clear c23
   try clear c28
   try clear c28b0
   try clear c29
   try clear c30
   try clear c31
   try clear c32
   try clear c33
   try clear c34
   try clear hcz11_0
   try clear hcz11_1
   try clear hcz24_0
   try clear hcz24_1
   try clear hcz35_0
   try clear hcz35_1
   try clear hcz35_2
   try clear hfz11_0
   try clear hfz11_1
   try clear hfz24_0
   try clear hfz24_1
   try clear hfz35_0
   try clear hfz35_1
   try clear hfz35_2
   try clear p2
   obtain ⟨x9_3, x10_3, x145001_3, x145002_3, u145001, u145002, rfl, rfl, HA, HK3, HO_8, HO_141000, HO_145001, HO_145002, BK135, BK136, BK139, BK140, BK144, HB⟩ := hrel
   cases gk with
   | zero => exact absurd HA.out (by simp [diff_Script.l1])
   | succ k3 =>
   have H := HA.out
   clear HA
   simp only [diff_Script.l1] at H
   have HC36 := Aside0.mk H
   clear H
   go_upto_region 4 with (fail)
   go_cut [59, 27, 28, 29, 30, 31, 32, 33, 34, 35, 36, 37, 38, 39, 40, 41, 42, 43, 44, 45, 46, 47, 48, 49, 50, 51, 52, 53, 54, 55, 56, 57, 58, 60, 61, 62, 63, 64, 65, 66, 67, 68, 69, 70, 71, 72, 73, 74, 75, 76, 77, 78, 79, 80, 81, 82, 83, 84, 85, 86, 87, 88, 89, 90, 91, 92, 93, 94, 95, 96, 97, 98, 99, 100, 101, 102, 103, 104, 105, 106, 107, 108, 109, 110] from 99999 (fun v59 _ _ _ _ _ _ _ _ _ _ _ _ _ _ _ _ _ _ _ _ _ _ _ _ _ _ _ _ _ _ _ _ _ _ _ _ _ _ _ _ _ _ _ _ _ _ _ _ _ _ _ _ _ _ _ _ _ _ _ _ _ _ _ _ _ _ _ _ _ _ _ _ _ _ _ _ _ _ _ _ _ _ _ wc => ∃ (kq : Nat) (x59_35 : Bool), v59 = .bool x59_35 ∧ Aside0 (diff_Script.j3 kq l0 l1 t141 x9_3 x10_3 x59_35 x141000_1 x9_1 x145001_3 x145002_3 = some (r1, r2, r3)) ∧ Aside0 (kq ≤ k3) ∧ Aside0 (Kd.S (Kd.slice 3 (Kd.int .i64)) 23 wc w.heap.size (fun _ => True) v142 t141) ∧ Aside0 (Kd.S k42 42 wc w.heap.size (fun k_ => some k_ ≠ (u145001 : Value).ownBlock ∧ some k_ ≠ (u145002 : Value).ownBlock ∧ k_ ≠ gb144) u141000 x141000_1) ∧ Aside0 (Kd.R Kd.string 9 wc w.heap.size (fun k_ => some k_ ≠ (u145002 : Value).ownBlock) u145001 x145001_3) ∧ Aside0 (Kd.R Kd.string 9 wc w.heap.size (fun k_ => some k_ ≠ (u145001 : Value).ownBlock) u145002 x145002_3) ∧ Aside0 (wc.heap[gb135]? = some (.cells #[(.slice none 0 0)] 38 (0, 0))) ∧ Aside0 (wc.heap[gb136]? = some (.cells #[.int .i64 0, .int .i64 0] 25 (0, 0))) ∧ Aside0 (wc.heap[gb139]? = some (.cells #[.int .i64 t137, .int .i64 t138] 25 (0, 0))) ∧ Aside0 (wc.heap[gb140]? = some (.cells #[u141000] 38 (0, 0))) ∧ Aside0 (wc.heap[gb144]? = some (.cells #[.int .i64 x9_1, u145001, u145002] 42 (0, 0))) ∧ Aside0 (Below w.heap.size w wc))
   case first =>
    have H := HC36.out
    clear HC36
    by_cases c37 : x9_3 < (l0.length : Int)
    · rw [if_pos c37] at H
      have c37b0 : decide (x9_3 < (l0.length : Int)) = true := decide_eq_true c37
      clear c37
      (first | rw [c37b0] | (simp only [i64_w, i32_w]; rw [c37b0]) | skip)
      by_cases c38 : x9_3 = (l0.length : Int)
      · rw [if_pos c38] at H
        have c38b0 : (x9_3 == (l0.length : Int)) = true := beq_iff_eq.mpr c38
        have c38b1 : (x9_3 != (l0.length : Int)) = false := bne_eq_false_iff_eq.mpr c38
        clear c38
        have H' := Aside0.mk H
        clear H
        try go_wp2_with (fail)
        have n0_ := Aside0.mk (Kd.S_drew HO_8.out)
        have n1_ := Aside0.mk (Kd.S_drew HO_141000.out)
        have n2_ := Aside0.mk (Kd.R_drew HO_145001.out)
        have n3_ := Aside0.mk (Kd.R_drew HO_145002.out)
        have n4_ := Aside0.mk (blk_drew BK135.out)
        have n5_ := Aside0.mk (blk_drew BK136.out)
        have n6_ := Aside0.mk (blk_drew BK139.out)
        have n7_ := Aside0.mk (blk_drew BK140.out)
        have n8_ := Aside0.mk (blk_drew BK144.out)
        have n9_ := Aside0.mk (below_drew1 HB.out)
        clear HO_8
        clear HO_141000
        clear HO_145001
        clear HO_145002
        clear BK135
        clear BK136
        clear BK139
        clear BK140
        clear BK144
        clear HB
        have HO_8 := n0_
        have HO_141000 := n1_
        have HO_145001 := n2_
        have HO_145002 := n3_
        have BK135 := n4_
        have BK136 := n5_
        have BK139 := n6_
        have BK140 := n7_
        have BK144 := n8_
        have HB := n9_
        clear n0_ n1_ n2_ n3_ n4_ n5_ n6_ n7_ n8_ n9_
        refine start_ (n := 33) (S := fun w' => True) (ds := []) b15z0 (by kernel_rfl) rfl rfl trivial (fun hHeld => ?_); refine with_tabW diff_Script_i22.tab4 diff_Script_i22.bits4 (fun HT_ HW_ => ?_)
        generalize wr.drew = w39 at HO_8 HO_141000 HO_145001 HO_145002 BK135 BK136 BK139 BK140 BK144 HB hHeld ⊢
        refine pure_ (i := 0) (N := some 27) (v := ?_) (a' := ?_) b15z1 rfl rfl (any_of HT_.out (by kernel_rfl)) (fun _ _ _ h => h) (Or.inl ⟨by rfl, ?_⟩) ?_ ?_
        rotate_left
        · intro w'
          go_simp
          with_reducible rfl
        rotate_left
        · simp only [Act.put, s15q0, s15q1, s15q2, i64_w, i32_w]
          rfl
        refine pure_ (i := 1) (N := some 28) (v := ?_) (a' := ?_) b15z2 rfl rfl (any_of HT_.out (by kernel_rfl)) (fun _ _ _ h => h) (Or.inl ⟨by rfl, ?_⟩) ?_ ?_
        rotate_left
        · intro w'
          go_simp
          with_reducible rfl
        rotate_left
        · simp only [Act.put, s15q0, s15q1, s15q2, i64_w, i32_w]
          rfl
        refine pure_ (i := 2) (N := some 29) (v := ?_) (a' := ?_) b15z3 rfl rfl (any_of HT_.out (by kernel_rfl)) (fun _ _ _ h => h) (Or.inl ⟨by rfl, ?_⟩) ?_ ?_
        rotate_left
        · intro w'
          go_simp
          with_reducible rfl
        rotate_left
        · simp only [Act.put, s15q0, s15q1, s15q2, i64_w, i32_w]
          rfl
        refine pure_ (i := 3) (N := some 30) (v := ?_) (a' := ?_) b15z4 rfl rfl (any_of HT_.out (by kernel_rfl)) (fun _ _ _ h => h) (Or.inl ⟨by rfl, ?_⟩) ?_ ?_
        rotate_left
        · intro w'
          go_simp
          with_reducible rfl
        rotate_left
        · simp only [Act.put, s15q0, s15q1, s15q2, i64_w, i32_w]
          rfl
        refine pure_ (i := 4) (N := some 31) (v := ?_) (a' := ?_) b15z5 rfl rfl (any_of HT_.out (by kernel_rfl)) (fun _ _ _ h => h) (Or.inl ⟨by rfl, ?_⟩) ?_ ?_
        rotate_left
        · intro w'
          go_simp
          with_reducible rfl
        rotate_left
        · simp only [Act.put, s15q0, s15q1, s15q2, i64_w, i32_w]
          rfl
        refine pure_ (i := 5) (N := some 32) (v := undef) (a' := ?_) b15z6 rfl rfl (any_of HT_.out (by kernel_rfl)) (fun _ _ _ h => h) (Or.inr ⟨by rfl, rfl⟩) ?_ ?_
        rotate_left
        · simp only [Act.put, s15q0, s15q1, s15q2, i64_w, i32_w]
          rfl
        refine pure_ (i := 6) (N := some 33) (v := undef) (a' := ?_) b15z7 rfl rfl (any_of HT_.out (by kernel_rfl)) (fun _ _ _ h => h) (Or.inr ⟨by rfl, rfl⟩) ?_ ?_
        rotate_left
        · simp only [Act.put, s15q0, s15q1, s15q2, i64_w, i32_w]
          rfl
        refine pure_ (i := 7) (N := some 34) (v := undef) (a' := ?_) b15z8 rfl rfl (any_of HT_.out (by kernel_rfl)) (fun _ _ _ h => h) (Or.inr ⟨by rfl, rfl⟩) ?_ ?_
        rotate_left
        · simp only [Act.put, s15q0, s15q1, s15q2, i64_w, i32_w]
          rfl
        refine pure_ (i := 8) (N := some 35) (v := undef) (a' := ?_) b15z9 rfl rfl (any_of HT_.out (by kernel_rfl)) (fun _ _ _ h => h) (Or.inr ⟨by rfl, rfl⟩) ?_ ?_
        rotate_left
        · simp only [Act.put, s15q0, s15q1, s15q2, i64_w, i32_w]
          rfl
        refine pure_ (i := 9) (N := some 36) (v := ?_) (a' := ?_) b15z10 rfl rfl (any_of HT_.out (by kernel_rfl)) (fun _ _ _ h => h) (Or.inl ⟨by rfl, ?_⟩) ?_ ?_
        rotate_left
        · intro w'
          go_simp
          with_reducible rfl
        rotate_left
        · simp only [Act.put, s15q0, s15q1, s15q2, i64_w, i32_w]
          rfl
        refine pure_ (i := 10) (N := some 37) (v := ?_) (a' := ?_) b15z11 rfl rfl (any_of HT_.out (by kernel_rfl)) (fun _ _ _ h => h) (Or.inl ⟨by rfl, ?_⟩) ?_ ?_
        rotate_left
        · intro w'
          go_simp
          with_reducible rfl
        rotate_left
        · simp only [Act.put, s15q0, s15q1, s15q2, i64_w, i32_w]
          rfl
        refine pure_ (i := 11) (N := some 38) (v := ?_) (a' := ?_) b15z12 rfl rfl (any_of HT_.out (by kernel_rfl)) (fun _ _ _ h => h) (Or.inl ⟨by rfl, ?_⟩) ?_ ?_
        rotate_left
        · intro w'
          go_simp
          with_reducible rfl
        rotate_left
        · simp only [Act.put, s15q0, s15q1, s15q2, i64_w, i32_w]
          rfl
        refine pure_ (i := 12) (N := some 39) (v := ?_) (a' := ?_) b15z13 rfl rfl (any_of HT_.out (by kernel_rfl)) (fun _ _ _ h => h) (Or.inl ⟨by rfl, ?_⟩) ?_ ?_
        rotate_left
        · intro w'
          go_simp
          with_reducible rfl
        rotate_left
        · simp only [Act.put, s15q0, s15q1, s15q2, i64_w, i32_w]
          rfl
        refine pure_ (i := 13) (N := some 40) (v := ?_) (a' := ?_) b15z14 rfl rfl (any_of HT_.out (by kernel_rfl)) (fun _ _ _ h => h) (Or.inl ⟨by rfl, ?_⟩) ?_ ?_
        rotate_left
        · intro w'
          go_simp
          with_reducible rfl
        rotate_left
        · simp only [Act.put, s15q0, s15q1, s15q2, i64_w, i32_w]
          rfl
        refine pure_ (i := 14) (N := some 41) (v := ?_) (a' := ?_) b15z15 rfl rfl (any_of HT_.out (by kernel_rfl)) (fun _ _ _ h => h) (Or.inl ⟨by rfl, ?_⟩) ?_ ?_
        rotate_left
        · intro w'
          go_simp
          with_reducible rfl
        rotate_left
        · simp only [Act.put, s15q0, s15q1, s15q2, i64_w, i32_w]
          rfl
        refine pure_ (i := 15) (N := some 42) (v := ?_) (a' := ?_) b15z16 rfl rfl (any_of HT_.out (by kernel_rfl)) (fun _ _ _ h => h) (Or.inl ⟨by rfl, ?_⟩) ?_ ?_
        rotate_left
        · intro w'
          go_simp
          with_reducible rfl
        rotate_left
        · simp only [Act.put, s15q0, s15q1, s15q2, i64_w, i32_w]
          rfl
        refine pure_ (i := 16) (N := some 43) (v := undef) (a' := ?_) b15z17 rfl rfl (any_of HT_.out (by kernel_rfl)) (fun _ _ _ h => h) (Or.inr ⟨by rfl, rfl⟩) ?_ ?_
        rotate_left
        · simp only [Act.put, s15q0, s15q1, s15q2, i64_w, i32_w]
          rfl
        refine pure_ (i := 17) (N := some 44) (v := undef) (a' := ?_) b15z18 rfl rfl (any_of HT_.out (by kernel_rfl)) (fun _ _ _ h => h) (Or.inr ⟨by rfl, rfl⟩) ?_ ?_
        rotate_left
        · simp only [Act.put, s15q0, s15q1, s15q2, i64_w, i32_w]
          rfl
        refine pure_ (i := 18) (N := some 45) (v := undef) (a' := ?_) b15z19 rfl rfl (any_of HT_.out (by kernel_rfl)) (fun _ _ _ h => h) (Or.inr ⟨by rfl, rfl⟩) ?_ ?_
        rotate_left
        · simp only [Act.put, s15q0, s15q1, s15q2, i64_w, i32_w]
          rfl
        refine pure_ (i := 19) (N := some 46) (v := undef) (a' := ?_) b15z20 rfl rfl (any_of HT_.out (by kernel_rfl)) (fun _ _ _ h => h) (Or.inr ⟨by rfl, rfl⟩) ?_ ?_
        rotate_left
        · simp only [Act.put, s15q0, s15q1, s15q2, i64_w, i32_w]
          rfl
        refine pure_ (i := 20) (N := some 47) (v := ?_) (a' := ?_) b15z21 rfl rfl (any_of HT_.out (by kernel_rfl)) (fun _ _ _ h => h) (Or.inl ⟨by rfl, ?_⟩) ?_ ?_
        rotate_left
        · intro w'
          go_simp
          with_reducible rfl
        rotate_left
        · simp only [Act.put, s15q0, s15q1, s15q2, i64_w, i32_w]
          rfl
        refine pure_ (i := 21) (N := some 48) (v := ?_) (a' := ?_) b15z22 rfl rfl (any_of HT_.out (by kernel_rfl)) (fun _ _ _ h => h) (Or.inl ⟨by rfl, ?_⟩) ?_ ?_
        rotate_left
        · intro w'
          go_simp
          with_reducible rfl
        rotate_left
        · simp only [Act.put, s15q0, s15q1, s15q2, i64_w, i32_w]
          rfl
        refine pure_ (i := 22) (N := some 49) (v := undef) (a' := ?_) b15z23 rfl rfl (any_of HT_.out (by kernel_rfl)) (fun _ _ _ h => h) (Or.inr ⟨by rfl, rfl⟩) ?_ ?_
        rotate_left
        · simp only [Act.put, s15q0, s15q1, s15q2, i64_w, i32_w]
          rfl
        refine pure_ (i := 23) (N := some 50) (v := undef) (a' := ?_) b15z24 rfl rfl (any_of HT_.out (by kernel_rfl)) (fun _ _ _ h => h) (Or.inr ⟨by rfl, rfl⟩) ?_ ?_
        rotate_left
        · simp only [Act.put, s15q0, s15q1, s15q2, i64_w, i32_w]
          rfl
        refine pure_ (i := 24) (N := some 51) (v := undef) (a' := ?_) b15z25 rfl rfl (any_of HT_.out (by kernel_rfl)) (fun _ _ _ h => h) (Or.inr ⟨by rfl, rfl⟩) ?_ ?_
        rotate_left
        · simp only [Act.put, s15q0, s15q1, s15q2, i64_w, i32_w]
          rfl
        refine pure_ (i := 25) (N := some 52) (v := undef) (a' := ?_) b15z26 rfl rfl (any_of HT_.out (by kernel_rfl)) (fun _ _ _ h => h) (Or.inr ⟨by rfl, rfl⟩) ?_ ?_
        rotate_left
        · simp only [Act.put, s15q0, s15q1, s15q2, i64_w, i32_w]
          rfl
        refine pure_ (i := 26) (N := some 53) (v := undef) (a' := ?_) b15z27 rfl rfl (any_of HT_.out (by kernel_rfl)) (fun _ _ _ h => h) (Or.inr ⟨by rfl, rfl⟩) ?_ ?_
        rotate_left
        · simp only [Act.put, s15q0, s15q1, s15q2, i64_w, i32_w]
          rfl
        refine pure_ (i := 27) (N := some 54) (v := undef) (a' := ?_) b15z28 rfl rfl (any_of HT_.out (by kernel_rfl)) (fun _ _ _ h => h) (Or.inr ⟨by rfl, rfl⟩) ?_ ?_
        rotate_left
        · simp only [Act.put, s15q0, s15q1, s15q2, i64_w, i32_w]
          rfl
        refine pure_ (i := 28) (N := some 55) (v := undef) (a' := ?_) b15z29 rfl rfl (any_of HT_.out (by kernel_rfl)) (fun _ _ _ h => h) (Or.inr ⟨by rfl, rfl⟩) ?_ ?_
        rotate_left
        · simp only [Act.put, s15q0, s15q1, s15q2, i64_w, i32_w]
          rfl
        refine pure_ (i := 29) (N := some 56) (v := undef) (a' := ?_) b15z30 rfl rfl (any_of HT_.out (by kernel_rfl)) (fun _ _ _ h => h) (Or.inr ⟨by rfl, rfl⟩) ?_ ?_
        rotate_left
        · simp only [Act.put, s15q0, s15q1, s15q2, i64_w, i32_w]
          rfl
        refine pure_ (i := 30) (N := some 57) (v := undef) (a' := ?_) b15z31 rfl rfl (any_of HT_.out (by kernel_rfl)) (fun _ _ _ h => h) (Or.inr ⟨by rfl, rfl⟩) ?_ ?_
        rotate_left
        · simp only [Act.put, s15q0, s15q1, s15q2, i64_w, i32_w]
          rfl
        refine pure_ (i := 31) (N := some 58) (v := ?_) (a' := ?_) b15z32 rfl rfl (any_of HT_.out (by kernel_rfl)) (fun _ _ _ h => h) (Or.inl ⟨by rfl, ?_⟩) ?_ ?_
        rotate_left
        · intro w'
          go_simp
          with_reducible rfl
        rotate_left
        · simp only [Act.put, s15q0, s15q1, s15q2, i64_w, i32_w]
          rfl
        refine pure_ (i := 32) (N := some 59) (v := ?_) (a' := ?_) b15z33 rfl rfl (any_of HT_.out (by kernel_rfl)) (fun _ _ _ h => h) (Or.inl ⟨by rfl, ?_⟩) ?_ ?_
        rotate_left
        · intro w'
          go_simp
          with_reducible rfl
        rotate_left
        · simp only [Act.put, s15q0, s15q1, s15q2, i64_w, i32_w]
          rfl
        refine done_ (done_of HT_.out (by kernel_rfl)) ?_
        try go_wp2_with (fail)
        go_meet
        case rel => exact ⟨_, (true), (by first | rfl | (simp; done) | (simp [*]; done)), H', ⟨by have := HK1.out; have := HJ26.out; have := HK3.out; first | omega | exact Nat.le_refl _⟩, ⟨by (with_reducible repeat (first | apply Kd.S_alloc | apply Kd.S_drewN | apply Kd.S_drew)); exact HO_8.out⟩, ⟨by (with_reducible repeat (first | apply Kd.S_alloc | apply Kd.S_drewN | apply Kd.S_drew)); exact HO_141000.out⟩, ⟨by (with_reducible repeat (first | apply Kd.R_alloc | apply Kd.R_drewN | apply Kd.R_drew)); exact HO_145001.out⟩, ⟨by (with_reducible repeat (first | apply Kd.R_alloc | apply Kd.R_drewN | apply Kd.R_drew)); exact HO_145002.out⟩, ⟨by (with_reducible repeat (first | refine blk_drewN ?_ _ | refine blk_drew ?_ | refine blk_alloc ?_ _)); exact BK135.out⟩, ⟨by (with_reducible repeat (first | refine blk_drewN ?_ _ | refine blk_drew ?_ | refine blk_alloc ?_ _)); exact BK136.out⟩, ⟨by (with_reducible repeat (first | refine blk_drewN ?_ _ | refine blk_drew ?_ | refine blk_alloc ?_ _)); exact BK139.out⟩, ⟨by (with_reducible repeat (first | refine blk_drewN ?_ _ | refine blk_drew ?_ | refine blk_alloc ?_ _)); exact BK140.out⟩, ⟨by (with_reducible repeat (first | refine blk_drewN ?_ _ | refine blk_drew ?_ | refine blk_alloc ?_ _)); exact BK144.out⟩, ⟨by repeat (first | (with_reducible first | exact HB.out | apply below_alloc | apply pw_below_drewN | apply below_drew1 | refine below_set ?_ GE135.out | refine below_set ?_ GE136.out | refine below_set ?_ GE139.out | refine below_set ?_ GE140.out | refine below_set ?_ GE144.out) | exact HB.out)⟩⟩
      rw [if_neg c38] at H
      have c38b0 : (x9_3 == (l0.length : Int)) = false := beq_eq_false_iff_ne.mpr c38
      have c38b1 : (x9_3 != (l0.length : Int)) = true := bne_iff_ne.mpr c38
      by_cases c40 : x10_3 = (l1.length : Int)
      · rw [if_pos c40] at H
        have c40b0 : (x10_3 == (l1.length : Int)) = true := beq_iff_eq.mpr c40
        have c40b1 : (x10_3 != (l1.length : Int)) = false := bne_eq_false_iff_eq.mpr c40
        clear c40
        have H' := Aside0.mk H
        clear H
        try go_wp2_with (fail)
        have n0_ := Aside0.mk (Kd.S_drew HO_8.out)
        have n1_ := Aside0.mk (Kd.S_drew HO_141000.out)
        have n2_ := Aside0.mk (Kd.R_drew HO_145001.out)
        have n3_ := Aside0.mk (Kd.R_drew HO_145002.out)
        have n4_ := Aside0.mk (blk_drew BK135.out)
        have n5_ := Aside0.mk (blk_drew BK136.out)
        have n6_ := Aside0.mk (blk_drew BK139.out)
        have n7_ := Aside0.mk (blk_drew BK140.out)
        have n8_ := Aside0.mk (blk_drew BK144.out)
        have n9_ := Aside0.mk (below_drew1 HB.out)
        clear HO_8
        clear HO_141000
        clear HO_145001
        clear HO_145002
        clear BK135
        clear BK136
        clear BK139
        clear BK140
        clear BK144
        clear HB
        have HO_8 := n0_
        have HO_141000 := n1_
        have HO_145001 := n2_
        have HO_145002 := n3_
        have BK135 := n4_
        have BK136 := n5_
        have BK139 := n6_
        have BK140 := n7_
        have BK144 := n8_
        have HB := n9_
        clear n0_ n1_ n2_ n3_ n4_ n5_ n6_ n7_ n8_ n9_
        refine start_ (n := 33) (S := fun w' => True) (ds := []) b15z0 (by kernel_rfl) rfl rfl trivial (fun hHeld => ?_); refine with_tabW diff_Script_i22.tab4 diff_Script_i22.bits4 (fun HT_ HW_ => ?_)
        generalize wr.drew = w41 at HO_8 HO_141000 HO_145001 HO_145002 BK135 BK136 BK139 BK140 BK144 HB hHeld ⊢
        refine pure_ (i := 0) (N := some 27) (v := ?_) (a' := ?_) b15z1 rfl rfl (any_of HT_.out (by kernel_rfl)) (fun _ _ _ h => h) (Or.inl ⟨by rfl, ?_⟩) ?_ ?_
        rotate_left
        · intro w'
          go_simp
          with_reducible rfl
        rotate_left
        · simp only [Act.put, s15q0, s15q1, s15q2, i64_w, i32_w]
          rfl
        refine pure_ (i := 1) (N := some 28) (v := ?_) (a' := ?_) b15z2 rfl rfl (any_of HT_.out (by kernel_rfl)) (fun _ _ _ h => h) (Or.inl ⟨by rfl, ?_⟩) ?_ ?_
        rotate_left
        · intro w'
          go_simp
          with_reducible rfl
        rotate_left
        · simp only [Act.put, s15q0, s15q1, s15q2, i64_w, i32_w]
          rfl
        refine pure_ (i := 2) (N := some 29) (v := ?_) (a' := ?_) b15z3 rfl rfl (any_of HT_.out (by kernel_rfl)) (fun _ _ _ h => h) (Or.inl ⟨by rfl, ?_⟩) ?_ ?_
        rotate_left
        · intro w'
          go_simp
          with_reducible rfl
        rotate_left
        · simp only [Act.put, s15q0, s15q1, s15q2, i64_w, i32_w]
          rfl
        refine pure_ (i := 3) (N := some 30) (v := ?_) (a' := ?_) b15z4 rfl rfl (any_of HT_.out (by kernel_rfl)) (fun _ _ _ h => h) (Or.inl ⟨by rfl, ?_⟩) ?_ ?_
        rotate_left
        · intro w'
          go_simp
          with_reducible rfl
        rotate_left
        · simp only [Act.put, s15q0, s15q1, s15q2, i64_w, i32_w]
          rfl
        refine pure_ (i := 4) (N := some 31) (v := ?_) (a' := ?_) b15z5 rfl rfl (any_of HT_.out (by kernel_rfl)) (fun _ _ _ h => h) (Or.inl ⟨by rfl, ?_⟩) ?_ ?_
        rotate_left
        · intro w'
          go_simp
          with_reducible rfl
        rotate_left
        · simp only [Act.put, s15q0, s15q1, s15q2, i64_w, i32_w]
          rfl
        refine pure_ (i := 5) (N := some 32) (v := undef) (a' := ?_) b15z6 rfl rfl (any_of HT_.out (by kernel_rfl)) (fun _ _ _ h => h) (Or.inr ⟨by rfl, rfl⟩) ?_ ?_
        rotate_left
        · simp only [Act.put, s15q0, s15q1, s15q2, i64_w, i32_w]
          rfl
        refine pure_ (i := 6) (N := some 33) (v := undef) (a' := ?_) b15z7 rfl rfl (any_of HT_.out (by kernel_rfl)) (fun _ _ _ h => h) (Or.inr ⟨by rfl, rfl⟩) ?_ ?_
        rotate_left
        · simp only [Act.put, s15q0, s15q1, s15q2, i64_w, i32_w]
          rfl
        refine pure_ (i := 7) (N := some 34) (v := undef) (a' := ?_) b15z8 rfl rfl (any_of HT_.out (by kernel_rfl)) (fun _ _ _ h => h) (Or.inr ⟨by rfl, rfl⟩) ?_ ?_
        rotate_left
        · simp only [Act.put, s15q0, s15q1, s15q2, i64_w, i32_w]
          rfl
        refine pure_ (i := 8) (N := some 35) (v := undef) (a' := ?_) b15z9 rfl rfl (any_of HT_.out (by kernel_rfl)) (fun _ _ _ h => h) (Or.inr ⟨by rfl, rfl⟩) ?_ ?_
        rotate_left
        · simp only [Act.put, s15q0, s15q1, s15q2, i64_w, i32_w]
          rfl
        refine pure_ (i := 9) (N := some 36) (v := ?_) (a' := ?_) b15z10 rfl rfl (any_of HT_.out (by kernel_rfl)) (fun _ _ _ h => h) (Or.inl ⟨by rfl, ?_⟩) ?_ ?_
        rotate_left
        · intro w'
          go_simp
          with_reducible rfl
        rotate_left
        · simp only [Act.put, s15q0, s15q1, s15q2, i64_w, i32_w]
          rfl
        refine pure_ (i := 10) (N := some 37) (v := ?_) (a' := ?_) b15z11 rfl rfl (any_of HT_.out (by kernel_rfl)) (fun _ _ _ h => h) (Or.inl ⟨by rfl, ?_⟩) ?_ ?_
        rotate_left
        · intro w'
          go_simp
          with_reducible rfl
        rotate_left
        · simp only [Act.put, s15q0, s15q1, s15q2, i64_w, i32_w]
          rfl
        refine pure_ (i := 11) (N := some 38) (v := ?_) (a' := ?_) b15z12 rfl rfl (any_of HT_.out (by kernel_rfl)) (fun _ _ _ h => h) (Or.inl ⟨by rfl, ?_⟩) ?_ ?_
        rotate_left
        · intro w'
          go_simp
          with_reducible rfl
        rotate_left
        · simp only [Act.put, s15q0, s15q1, s15q2, i64_w, i32_w]
          rfl
        refine pure_ (i := 12) (N := some 39) (v := ?_) (a' := ?_) b15z13 rfl rfl (any_of HT_.out (by kernel_rfl)) (fun _ _ _ h => h) (Or.inl ⟨by rfl, ?_⟩) ?_ ?_
        rotate_left
        · intro w'
          go_simp
          with_reducible rfl
        rotate_left
        · simp only [Act.put, s15q0, s15q1, s15q2, i64_w, i32_w]
          rfl
        refine pure_ (i := 13) (N := some 40) (v := ?_) (a' := ?_) b15z14 rfl rfl (any_of HT_.out (by kernel_rfl)) (fun _ _ _ h => h) (Or.inl ⟨by rfl, ?_⟩) ?_ ?_
        rotate_left
        · intro w'
          go_simp
          with_reducible rfl
        rotate_left
        · simp only [Act.put, s15q0, s15q1, s15q2, i64_w, i32_w]
          rfl
        refine pure_ (i := 14) (N := some 41) (v := ?_) (a' := ?_) b15z15 rfl rfl (any_of HT_.out (by kernel_rfl)) (fun _ _ _ h => h) (Or.inl ⟨by rfl, ?_⟩) ?_ ?_
        rotate_left
        · intro w'
          go_simp
          with_reducible rfl
        rotate_left
        · simp only [Act.put, s15q0, s15q1, s15q2, i64_w, i32_w]
          rfl
        refine pure_ (i := 15) (N := some 42) (v := ?_) (a' := ?_) b15z16 rfl rfl (any_of HT_.out (by kernel_rfl)) (fun _ _ _ h => h) (Or.inl ⟨by rfl, ?_⟩) ?_ ?_
        rotate_left
        · intro w'
          go_simp
          with_reducible rfl
        rotate_left
        · simp only [Act.put, s15q0, s15q1, s15q2, i64_w, i32_w]
          rfl
        refine pure_ (i := 16) (N := some 43) (v := ?_) (a' := ?_) b15z17 rfl rfl (any_of HT_.out (by kernel_rfl)) (fun _ _ _ h => h) (Or.inl ⟨by rfl, ?_⟩) ?_ ?_
        rotate_left
        · intro w'
          go_simp
          with_reducible rfl
        rotate_left
        · simp only [Act.put, s15q0, s15q1, s15q2, i64_w, i32_w]
          rfl
        refine pure_ (i := 17) (N := some 44) (v := ?_) (a' := ?_) b15z18 rfl rfl (any_of HT_.out (by kernel_rfl)) (fun _ _ _ h => h) (Or.inl ⟨by rfl, ?_⟩) ?_ ?_
        rotate_left
        · intro w'
          go_simp
          with_reducible rfl
        rotate_left
        · simp only [Act.put, s15q0, s15q1, s15q2, i64_w, i32_w]
          rfl
        refine pure_ (i := 18) (N := some 45) (v := ?_) (a' := ?_) b15z19 rfl rfl (any_of HT_.out (by kernel_rfl)) (fun _ _ _ h => h) (Or.inl ⟨by rfl, ?_⟩) ?_ ?_
        rotate_left
        · intro w'
          go_simp
          with_reducible rfl
        rotate_left
        · simp only [Act.put, s15q0, s15q1, s15q2, i64_w, i32_w]
          rfl
        refine pure_ (i := 19) (N := some 46) (v := ?_) (a' := ?_) b15z20 rfl rfl (any_of HT_.out (by kernel_rfl)) (fun _ _ _ h => h) (Or.inl ⟨by rfl, ?_⟩) ?_ ?_
        rotate_left
        · intro w'
          go_simp
          with_reducible rfl
        rotate_left
        · simp only [Act.put, s15q0, s15q1, s15q2, i64_w, i32_w]
          rfl
        refine pure_ (i := 20) (N := some 47) (v := ?_) (a' := ?_) b15z21 rfl rfl (any_of HT_.out (by kernel_rfl)) (fun _ _ _ h => h) (Or.inl ⟨by rfl, ?_⟩) ?_ ?_
        rotate_left
        · intro w'
          go_simp
          with_reducible rfl
        rotate_left
        · simp only [Act.put, s15q0, s15q1, s15q2, i64_w, i32_w]
          rfl
        refine pure_ (i := 21) (N := some 48) (v := ?_) (a' := ?_) b15z22 rfl rfl (any_of HT_.out (by kernel_rfl)) (fun _ _ _ h => h) (Or.inl ⟨by rfl, ?_⟩) ?_ ?_
        rotate_left
        · intro w'
          go_simp
          with_reducible rfl
        rotate_left
        · simp only [Act.put, s15q0, s15q1, s15q2, i64_w, i32_w]
          rfl
        refine pure_ (i := 22) (N := some 49) (v := undef) (a' := ?_) b15z23 rfl rfl (any_of HT_.out (by kernel_rfl)) (fun _ _ _ h => h) (Or.inr ⟨by rfl, rfl⟩) ?_ ?_
        rotate_left
        · simp only [Act.put, s15q0, s15q1, s15q2, i64_w, i32_w]
          rfl
        refine pure_ (i := 23) (N := some 50) (v := undef) (a' := ?_) b15z24 rfl rfl (any_of HT_.out (by kernel_rfl)) (fun _ _ _ h => h) (Or.inr ⟨by rfl, rfl⟩) ?_ ?_
        rotate_left
        · simp only [Act.put, s15q0, s15q1, s15q2, i64_w, i32_w]
          rfl
        refine pure_ (i := 24) (N := some 51) (v := undef) (a' := ?_) b15z25 rfl rfl (any_of HT_.out (by kernel_rfl)) (fun _ _ _ h => h) (Or.inr ⟨by rfl, rfl⟩) ?_ ?_
        rotate_left
        · simp only [Act.put, s15q0, s15q1, s15q2, i64_w, i32_w]
          rfl
        refine pure_ (i := 25) (N := some 52) (v := undef) (a' := ?_) b15z26 rfl rfl (any_of HT_.out (by kernel_rfl)) (fun _ _ _ h => h) (Or.inr ⟨by rfl, rfl⟩) ?_ ?_
        rotate_left
        · simp only [Act.put, s15q0, s15q1, s15q2, i64_w, i32_w]
          rfl
        refine pure_ (i := 26) (N := some 53) (v := undef) (a' := ?_) b15z27 rfl rfl (any_of HT_.out (by kernel_rfl)) (fun _ _ _ h => h) (Or.inr ⟨by rfl, rfl⟩) ?_ ?_
        rotate_left
        · simp only [Act.put, s15q0, s15q1, s15q2, i64_w, i32_w]
          rfl
        refine pure_ (i := 27) (N := some 54) (v := undef) (a' := ?_) b15z28 rfl rfl (any_of HT_.out (by kernel_rfl)) (fun _ _ _ h => h) (Or.inr ⟨by rfl, rfl⟩) ?_ ?_
        rotate_left
        · simp only [Act.put, s15q0, s15q1, s15q2, i64_w, i32_w]
          rfl
        refine pure_ (i := 28) (N := some 55) (v := undef) (a' := ?_) b15z29 rfl rfl (any_of HT_.out (by kernel_rfl)) (fun _ _ _ h => h) (Or.inr ⟨by rfl, rfl⟩) ?_ ?_
        rotate_left
        · simp only [Act.put, s15q0, s15q1, s15q2, i64_w, i32_w]
          rfl
        refine pure_ (i := 29) (N := some 56) (v := undef) (a' := ?_) b15z30 rfl rfl (any_of HT_.out (by kernel_rfl)) (fun _ _ _ h => h) (Or.inr ⟨by rfl, rfl⟩) ?_ ?_
        rotate_left
        · simp only [Act.put, s15q0, s15q1, s15q2, i64_w, i32_w]
          rfl
        refine pure_ (i := 30) (N := some 57) (v := undef) (a' := ?_) b15z31 rfl rfl (any_of HT_.out (by kernel_rfl)) (fun _ _ _ h => h) (Or.inr ⟨by rfl, rfl⟩) ?_ ?_
        rotate_left
        · simp only [Act.put, s15q0, s15q1, s15q2, i64_w, i32_w]
          rfl
        refine pure_ (i := 31) (N := some 58) (v := ?_) (a' := ?_) b15z32 rfl rfl (any_of HT_.out (by kernel_rfl)) (fun _ _ _ h => h) (Or.inl ⟨by rfl, ?_⟩) ?_ ?_
        rotate_left
        · intro w'
          go_simp
          with_reducible rfl
        rotate_left
        · simp only [Act.put, s15q0, s15q1, s15q2, i64_w, i32_w]
          rfl
        refine pure_ (i := 32) (N := some 59) (v := ?_) (a' := ?_) b15z33 rfl rfl (any_of HT_.out (by kernel_rfl)) (fun _ _ _ h => h) (Or.inl ⟨by rfl, ?_⟩) ?_ ?_
        rotate_left
        · intro w'
          go_simp
          with_reducible rfl
        rotate_left
        · simp only [Act.put, s15q0, s15q1, s15q2, i64_w, i32_w]
          rfl
        refine done_ (done_of HT_.out (by kernel_rfl)) ?_
        try go_wp2_with (fail)
        go_meet
        case rel => exact ⟨_, (true), (by first | rfl | (simp; done) | (simp [*]; done)), H', ⟨by have := HK1.out; have := HJ26.out; have := HK3.out; first | omega | exact Nat.le_refl _⟩, ⟨by (with_reducible repeat (first | apply Kd.S_alloc | apply Kd.S_drewN | apply Kd.S_drew)); exact HO_8.out⟩, ⟨by (with_reducible repeat (first | apply Kd.S_alloc | apply Kd.S_drewN | apply Kd.S_drew)); exact HO_141000.out⟩, ⟨by (with_reducible repeat (first | apply Kd.R_alloc | apply Kd.R_drewN | apply Kd.R_drew)); exact HO_145001.out⟩, ⟨by (with_reducible repeat (first | apply Kd.R_alloc | apply Kd.R_drewN | apply Kd.R_drew)); exact HO_145002.out⟩, ⟨by (with_reducible repeat (first | refine blk_drewN ?_ _ | refine blk_drew ?_ | refine blk_alloc ?_ _)); exact BK135.out⟩, ⟨by (with_reducible repeat (first | refine blk_drewN ?_ _ | refine blk_drew ?_ | refine blk_alloc ?_ _)); exact BK136.out⟩, ⟨by (with_reducible repeat (first | refine blk_drewN ?_ _ | refine blk_drew ?_ | refine blk_alloc ?_ _)); exact BK139.out⟩, ⟨by (with_reducible repeat (first | refine blk_drewN ?_ _ | refine blk_drew ?_ | refine blk_alloc ?_ _)); exact BK140.out⟩, ⟨by (with_reducible repeat (first | refine blk_drewN ?_ _ | refine blk_drew ?_ | refine blk_alloc ?_ _)); exact BK144.out⟩, ⟨by repeat (first | (with_reducible first | exact HB.out | apply below_alloc | apply pw_below_drewN | apply below_drew1 | refine below_set ?_ GE135.out | refine below_set ?_ GE136.out | refine below_set ?_ GE139.out | refine below_set ?_ GE140.out | refine below_set ?_ GE144.out) | exact HB.out)⟩⟩
      rw [if_neg c40] at H
      have c40b0 : (x10_3 == (l1.length : Int)) = false := beq_eq_false_iff_ne.mpr c40
      have c40b1 : (x10_3 != (l1.length : Int)) = true := bne_iff_ne.mpr c40
      by_cases c42 : 0 ≤ x9_3
      · rw [if_pos c42] at H
        have c42b0 : decide (0 ≤ x9_3) = true := decide_eq_true c42
        clear c42
        by_cases c43 : 0 ≤ x10_3
        · rw [if_pos c43] at H
          have c43b0 : decide (0 ≤ x10_3) = true := decide_eq_true c43
          clear c43
          by_cases c44 : x10_3 < (l1.length : Int)
          · rw [if_pos c44] at H
            have c44b0 : decide (x10_3 < (l1.length : Int)) = true := decide_eq_true c44
            clear c44
            have H' := Aside0.mk H
            clear H
            try go_wp2_with (fail)
            have n0_ := Aside0.mk (Kd.S_drew HO_8.out)
            have n1_ := Aside0.mk (Kd.S_drew HO_141000.out)
            have n2_ := Aside0.mk (Kd.R_drew HO_145001.out)
            have n3_ := Aside0.mk (Kd.R_drew HO_145002.out)
            have n4_ := Aside0.mk (blk_drew BK135.out)
            have n5_ := Aside0.mk (blk_drew BK136.out)
            have n6_ := Aside0.mk (blk_drew BK139.out)
            have n7_ := Aside0.mk (blk_drew BK140.out)
            have n8_ := Aside0.mk (blk_drew BK144.out)
            have n9_ := Aside0.mk (below_drew1 HB.out)
            clear HO_8
            clear HO_141000
            clear HO_145001
            clear HO_145002
            clear BK135
            clear BK136
            clear BK139
            clear BK140
            clear BK144
            clear HB
            have HO_8 := n0_
            have HO_141000 := n1_
            have HO_145001 := n2_
            have HO_145002 := n3_
            have BK135 := n4_
            have BK136 := n5_
            have BK139 := n6_
            have BK140 := n7_
            have BK144 := n8_
            have HB := n9_
            clear n0_ n1_ n2_ n3_ n4_ n5_ n6_ n7_ n8_ n9_
            have p145 : 0 ≤ (x9_3 : Int) := of_decide_eq_true (by first | (with_reducible assumption) | assumption)
            have q145 : x9_3 < (l0.length : Int) := of_decide_eq_true (by first | (with_reducible assumption) | assumption)
            obtain ⟨ad145, e145, hx145_0⟩ := Kd.at_string HR0.out x9_3 p145 q145
            have hw145_0 := hx145_0
            cases e145
            replace hx145_0 := (HB.out.cell (World.block_lt_of_cell? w _ hx145_0)).trans hx145_0
            replace p145 := eq_true p145
            replace q145 := eq_true q145
            have p146 : 0 ≤ (x10_3 : Int) := of_decide_eq_true (by first | (with_reducible assumption) | assumption)
            have q146 : x10_3 < (l1.length : Int) := of_decide_eq_true (by first | (with_reducible assumption) | assumption)
            obtain ⟨ad146, e146, hx146_0⟩ := Kd.at_string HR1.out x10_3 p146 q146
            have hw146_0 := hx146_0
            cases e146
            replace hx146_0 := (HB.out.cell (World.block_lt_of_cell? w _ hx146_0)).trans hx146_0
            replace p146 := eq_true p146
            replace q146 := eq_true q146
            refine start_ (n := 33) (S := fun w' => w'.cell? (ad145.add (x9_3).toNat) = some (.string (rdOf ByteArray.empty l0 x9_3)) ∧ w'.cell? (ad146.add (x10_3).toNat) = some (.string (rdOf ByteArray.empty l1 x10_3))) (ds := []) b15z0 (by kernel_rfl) rfl rfl ⟨((HB.out.cell (World.block_lt_of_cell? w _ hw145_0)).trans hw145_0), ((HB.out.cell (World.block_lt_of_cell? w _ hw146_0)).trans hw146_0)⟩ (fun hHeld => ?_); refine with_tabW diff_Script_i22.tab4 diff_Script_i22.bits4 (fun HT_ HW_ => ?_)
            generalize wr.drew = w45 at HO_8 HO_141000 HO_145001 HO_145002 BK135 BK136 BK139 BK140 BK144 HB hx145_0 hx146_0 hHeld ⊢
            refine pure_ (i := 0) (N := some 27) (v := ?_) (a' := ?_) b15z1 rfl rfl (any_of HT_.out (by kernel_rfl)) (fun _ _ _ h => h) (Or.inl ⟨by rfl, ?_⟩) ?_ ?_
            rotate_left
            · intro w'
              go_simp
              with_reducible rfl
            rotate_left
            · simp only [Act.put, s15q0, s15q1, s15q2, i64_w, i32_w]
              rfl
            refine pure_ (i := 1) (N := some 28) (v := ?_) (a' := ?_) b15z2 rfl rfl (any_of HT_.out (by kernel_rfl)) (fun _ _ _ h => h) (Or.inl ⟨by rfl, ?_⟩) ?_ ?_
            rotate_left
            · intro w'
              go_simp
              with_reducible rfl
            rotate_left
            · simp only [Act.put, s15q0, s15q1, s15q2, i64_w, i32_w]
              rfl
            refine pure_ (i := 2) (N := some 29) (v := ?_) (a' := ?_) b15z3 rfl rfl (any_of HT_.out (by kernel_rfl)) (fun _ _ _ h => h) (Or.inl ⟨by rfl, ?_⟩) ?_ ?_
            rotate_left
            · intro w'
              go_simp
              with_reducible rfl
            rotate_left
            · simp only [Act.put, s15q0, s15q1, s15q2, i64_w, i32_w]
              rfl
            refine pure_ (i := 3) (N := some 30) (v := ?_) (a' := ?_) b15z4 rfl rfl (any_of HT_.out (by kernel_rfl)) (fun _ _ _ h => h) (Or.inl ⟨by rfl, ?_⟩) ?_ ?_
            rotate_left
            · intro w'
              go_simp
              with_reducible rfl
            rotate_left
            · simp only [Act.put, s15q0, s15q1, s15q2, i64_w, i32_w]
              rfl
            refine pure_ (i := 4) (N := some 31) (v := ?_) (a' := ?_) b15z5 rfl rfl (any_of HT_.out (by kernel_rfl)) (fun _ _ _ h => h) (Or.inl ⟨by rfl, ?_⟩) ?_ ?_
            rotate_left
            · intro w'
              go_simp
              with_reducible rfl
            rotate_left
            · simp only [Act.put, s15q0, s15q1, s15q2, i64_w, i32_w]
              rfl
            refine pure_ (i := 5) (N := some 32) (v := undef) (a' := ?_) b15z6 rfl rfl (any_of HT_.out (by kernel_rfl)) (fun _ _ _ h => h) (Or.inr ⟨by rfl, rfl⟩) ?_ ?_
            rotate_left
            · simp only [Act.put, s15q0, s15q1, s15q2, i64_w, i32_w]
              rfl
            refine pure_ (i := 6) (N := some 33) (v := undef) (a' := ?_) b15z7 rfl rfl (any_of HT_.out (by kernel_rfl)) (fun _ _ _ h => h) (Or.inr ⟨by rfl, rfl⟩) ?_ ?_
            rotate_left
            · simp only [Act.put, s15q0, s15q1, s15q2, i64_w, i32_w]
              rfl
            refine pure_ (i := 7) (N := some 34) (v := undef) (a' := ?_) b15z8 rfl rfl (any_of HT_.out (by kernel_rfl)) (fun _ _ _ h => h) (Or.inr ⟨by rfl, rfl⟩) ?_ ?_
            rotate_left
            · simp only [Act.put, s15q0, s15q1, s15q2, i64_w, i32_w]
              rfl
            refine pure_ (i := 8) (N := some 35) (v := undef) (a' := ?_) b15z9 rfl rfl (any_of HT_.out (by kernel_rfl)) (fun _ _ _ h => h) (Or.inr ⟨by rfl, rfl⟩) ?_ ?_
            rotate_left
            · simp only [Act.put, s15q0, s15q1, s15q2, i64_w, i32_w]
              rfl
            refine pure_ (i := 9) (N := some 36) (v := ?_) (a' := ?_) b15z10 rfl rfl (any_of HT_.out (by kernel_rfl)) (fun _ _ _ h => h) (Or.inl ⟨by rfl, ?_⟩) ?_ ?_
            rotate_left
            · intro w'
              go_simp
              with_reducible rfl
            rotate_left
            · simp only [Act.put, s15q0, s15q1, s15q2, i64_w, i32_w]
              rfl
            refine pure_ (i := 10) (N := some 37) (v := ?_) (a' := ?_) b15z11 rfl rfl (any_of HT_.out (by kernel_rfl)) (fun _ _ _ h => h) (Or.inl ⟨by rfl, ?_⟩) ?_ ?_
            rotate_left
            · intro w'
              go_simp
              with_reducible rfl
            rotate_left
            · simp only [Act.put, s15q0, s15q1, s15q2, i64_w, i32_w]
              rfl
            refine pure_ (i := 11) (N := some 38) (v := ?_) (a' := ?_) b15z12 rfl rfl (any_of HT_.out (by kernel_rfl)) (fun _ _ _ h => h) (Or.inl ⟨by rfl, ?_⟩) ?_ ?_
            rotate_left
            · intro w'
              go_simp
              with_reducible rfl
            rotate_left
            · simp only [Act.put, s15q0, s15q1, s15q2, i64_w, i32_w]
              rfl
            refine pure_ (i := 12) (N := some 39) (v := ?_) (a' := ?_) b15z13 rfl rfl (any_of HT_.out (by kernel_rfl)) (fun _ _ _ h => h) (Or.inl ⟨by rfl, ?_⟩) ?_ ?_
            rotate_left
            · intro w'
              go_simp
              with_reducible rfl
            rotate_left
            · simp only [Act.put, s15q0, s15q1, s15q2, i64_w, i32_w]
              rfl
            refine pure_ (i := 13) (N := some 40) (v := ?_) (a' := ?_) b15z14 rfl rfl (any_of HT_.out (by kernel_rfl)) (fun _ _ _ h => h) (Or.inl ⟨by rfl, ?_⟩) ?_ ?_
            rotate_left
            · intro w'
              go_simp
              with_reducible rfl
            rotate_left
            · simp only [Act.put, s15q0, s15q1, s15q2, i64_w, i32_w]
              rfl
            refine pure_ (i := 14) (N := some 41) (v := ?_) (a' := ?_) b15z15 rfl rfl (any_of HT_.out (by kernel_rfl)) (fun _ _ _ h => h) (Or.inl ⟨by rfl, ?_⟩) ?_ ?_
            rotate_left
            · intro w'
              go_simp
              with_reducible rfl
            rotate_left
            · simp only [Act.put, s15q0, s15q1, s15q2, i64_w, i32_w]
              rfl
            refine pure_ (i := 15) (N := some 42) (v := ?_) (a' := ?_) b15z16 rfl rfl (any_of HT_.out (by kernel_rfl)) (fun _ _ _ h => h) (Or.inl ⟨by rfl, ?_⟩) ?_ ?_
            rotate_left
            · intro w'
              go_simp
              with_reducible rfl
            rotate_left
            · simp only [Act.put, s15q0, s15q1, s15q2, i64_w, i32_w]
              rfl
            refine pure_ (i := 16) (N := some 43) (v := ?_) (a' := ?_) b15z17 rfl rfl (any_of HT_.out (by kernel_rfl)) (fun _ _ _ h => h) (Or.inl ⟨by rfl, ?_⟩) ?_ ?_
            rotate_left
            · intro w'
              go_simp
              with_reducible rfl
            rotate_left
            · simp only [Act.put, s15q0, s15q1, s15q2, i64_w, i32_w]
              rfl
            refine pure_ (i := 17) (N := some 44) (v := ?_) (a' := ?_) b15z18 rfl rfl (any_of HT_.out (by kernel_rfl)) (fun _ _ _ h => h) (Or.inl ⟨by rfl, ?_⟩) ?_ ?_
            rotate_left
            · intro w'
              go_simp
              with_reducible rfl
            rotate_left
            · simp only [Act.put, s15q0, s15q1, s15q2, i64_w, i32_w]
              rfl
            refine pure_ (i := 18) (N := some 45) (v := ?_) (a' := ?_) b15z19 rfl rfl (any_of HT_.out (by kernel_rfl)) (fun _ _ _ h => h) (Or.inl ⟨by rfl, ?_⟩) ?_ ?_
            rotate_left
            · intro w'
              go_simp
              with_reducible rfl
            rotate_left
            · simp only [Act.put, s15q0, s15q1, s15q2, i64_w, i32_w]
              rfl
            refine pure_ (i := 19) (N := some 46) (v := ?_) (a' := ?_) b15z20 rfl rfl (any_of HT_.out (by kernel_rfl)) (fun _ _ _ h => h) (Or.inl ⟨by rfl, ?_⟩) ?_ ?_
            rotate_left
            · intro w'
              go_simp
              with_reducible rfl
            rotate_left
            · simp only [Act.put, s15q0, s15q1, s15q2, i64_w, i32_w]
              rfl
            refine pure_ (i := 20) (N := some 47) (v := ?_) (a' := ?_) b15z21 rfl rfl (any_of HT_.out (by kernel_rfl)) (fun _ _ _ h => h) (Or.inl ⟨by rfl, ?_⟩) ?_ ?_
            rotate_left
            · intro w'
              go_simp
              with_reducible rfl
            rotate_left
            · simp only [Act.put, s15q0, s15q1, s15q2, i64_w, i32_w]
              rfl
            refine pure_ (i := 21) (N := some 48) (v := ?_) (a' := ?_) b15z22 rfl rfl (any_of HT_.out (by kernel_rfl)) (fun _ _ _ h => h) (Or.inl ⟨by rfl, ?_⟩) ?_ ?_
            rotate_left
            · intro w'
              go_simp
              with_reducible rfl
            rotate_left
            · simp only [Act.put, s15q0, s15q1, s15q2, i64_w, i32_w]
              rfl
            refine pure_ (i := 22) (N := some 49) (v := ?_) (a' := ?_) b15z23 rfl rfl (any_of HT_.out (by kernel_rfl)) (fun _ _ _ h => h) (Or.inl ⟨by rfl, ?_⟩) ?_ ?_
            rotate_left
            · intro w'
              go_simp
              with_reducible rfl
            rotate_left
            · simp only [Act.put, s15q0, s15q1, s15q2, i64_w, i32_w]
              rfl
            refine pure_ (i := 23) (N := some 50) (v := ?_) (a' := ?_) b15z24 rfl rfl (any_of HT_.out (by kernel_rfl)) (fun _ _ _ h => h) (Or.inl ⟨by rfl, ?_⟩) ?_ ?_
            rotate_left
            · intro w'
              go_simp
              with_reducible rfl
            rotate_left
            · simp only [Act.put, s15q0, s15q1, s15q2, i64_w, i32_w]
              rfl
            refine pure_ (i := 24) (N := some 51) (v := ?_) (a' := ?_) b15z25 rfl rfl (any_of HT_.out (by kernel_rfl)) (fun _ _ _ h => h) (Or.inl ⟨by rfl, ?_⟩) ?_ ?_
            rotate_left
            · intro w'
              go_simp
              with_reducible rfl
            rotate_left
            · simp only [Act.put, s15q0, s15q1, s15q2, i64_w, i32_w]
              rfl
            refine pure_ (i := 26) (N := some 53) (v := ?_) (a' := ?_) b15z34 rfl rfl (any_of HT_.out (by kernel_rfl)) (fun _ _ _ h => h) (Or.inl ⟨by rfl, ?_⟩) ?_ ?_
            rotate_left
            · intro w'
              go_simp
              with_reducible rfl
            rotate_left
            · simp only [Act.put, s15q0, s15q1, s15q2, i64_w, i32_w]
              rfl
            refine pure_ (i := 27) (N := some 54) (v := ?_) (a' := ?_) b15z35 rfl rfl (any_of HT_.out (by kernel_rfl)) (fun _ _ _ h => h) (Or.inl ⟨by rfl, ?_⟩) ?_ ?_
            rotate_left
            · intro w'
              go_simp
              with_reducible rfl
            rotate_left
            · simp only [Act.put, s15q0, s15q1, s15q2, i64_w, i32_w]
              rfl
            refine pure_ (i := 28) (N := some 55) (v := ?_) (a' := ?_) b15z36 rfl rfl (any_of HT_.out (by kernel_rfl)) (fun _ _ _ h => h) (Or.inl ⟨by rfl, ?_⟩) ?_ ?_
            rotate_left
            · intro w'
              go_simp
              with_reducible rfl
            rotate_left
            · simp only [Act.put, s15q0, s15q1, s15q2, i64_w, i32_w]
              rfl
            refine take_ (i := 25) (N := some 52) (v := ?_) (a' := ?_) b15z29 rfl rfl (take_ofW HT_.out HW_.out (by kernel_rfl)) (fun _ _ _ h => h) (Or.inl ⟨by rfl, ?_⟩) hHeld ?_ ?_
            rotate_left
            · rintro w' ⟨s0, s1⟩
              go_simp
              with_reducible rfl
            rotate_left
            · simp only [Act.put, s15q0, s15q1, s15q2, i64_w, i32_w]
              rfl
            refine take_ (i := 29) (N := some 56) (v := ?_) (a' := ?_) b15z30 rfl rfl (take_ofW HT_.out HW_.out (by kernel_rfl)) (fun _ _ _ h => h) (Or.inl ⟨by rfl, ?_⟩) hHeld ?_ ?_
            rotate_left
            · rintro w' ⟨s0, s1⟩
              go_simp
              with_reducible rfl
            rotate_left
            · simp only [Act.put, s15q0, s15q1, s15q2, i64_w, i32_w]
              rfl
            refine pure_ (i := 30) (N := some 57) (v := ?_) (a' := ?_) b15z31 rfl rfl (any_of HT_.out (by kernel_rfl)) (fun _ _ _ h => h) (Or.inl ⟨by rfl, ?_⟩) ?_ ?_
            rotate_left
            · intro w'
              go_simp
              with_reducible rfl
            rotate_left
            · simp only [Act.put, s15q0, s15q1, s15q2, i64_w, i32_w]
              rfl
            refine pure_ (i := 31) (N := some 58) (v := ?_) (a' := ?_) b15z32 rfl rfl (any_of HT_.out (by kernel_rfl)) (fun _ _ _ h => h) (Or.inl ⟨by rfl, ?_⟩) ?_ ?_
            rotate_left
            · intro w'
              go_simp
              with_reducible rfl
            rotate_left
            · simp only [Act.put, s15q0, s15q1, s15q2, i64_w, i32_w]
              rfl
            refine pure_ (i := 32) (N := some 59) (v := ?_) (a' := ?_) b15z33 rfl rfl (any_of HT_.out (by kernel_rfl)) (fun _ _ _ h => h) (Or.inl ⟨by rfl, ?_⟩) ?_ ?_
            rotate_left
            · intro w'
              go_simp
              with_reducible rfl
            rotate_left
            · simp only [Act.put, s15q0, s15q1, s15q2, i64_w, i32_w]
              rfl
            refine done_ (done_of HT_.out (by kernel_rfl)) ?_
            try go_wp2_with (fail)
            go_meet
            case rel => exact ⟨_, (((rdOf ByteArray.empty l0 x9_3).toList != (rdOf ByteArray.empty l1 x10_3).toList)), (by first | rfl | (simp; done) | (simp [*]; done)), H', ⟨by have := HK1.out; have := HJ26.out; have := HK3.out; first | omega | exact Nat.le_refl _⟩, ⟨by (with_reducible repeat (first | apply Kd.S_alloc | apply Kd.S_drewN | apply Kd.S_drew)); exact HO_8.out⟩, ⟨by (with_reducible repeat (first | apply Kd.S_alloc | apply Kd.S_drewN | apply Kd.S_drew)); exact HO_141000.out⟩, ⟨by (with_reducible repeat (first | apply Kd.R_alloc | apply Kd.R_drewN | apply Kd.R_drew)); exact HO_145001.out⟩, ⟨by (with_reducible repeat (first | apply Kd.R_alloc | apply Kd.R_drewN | apply Kd.R_drew)); exact HO_145002.out⟩, ⟨by (with_reducible repeat (first | refine blk_drewN ?_ _ | refine blk_drew ?_ | refine blk_alloc ?_ _)); exact BK135.out⟩, ⟨by (with_reducible repeat (first | refine blk_drewN ?_ _ | refine blk_drew ?_ | refine blk_alloc ?_ _)); exact BK136.out⟩, ⟨by (with_reducible repeat (first | refine blk_drewN ?_ _ | refine blk_drew ?_ | refine blk_alloc ?_ _)); exact BK139.out⟩, ⟨by (with_reducible repeat (first | refine blk_drewN ?_ _ | refine blk_drew ?_ | refine blk_alloc ?_ _)); exact BK140.out⟩, ⟨by (with_reducible repeat (first | refine blk_drewN ?_ _ | refine blk_drew ?_ | refine blk_alloc ?_ _)); exact BK144.out⟩, ⟨by repeat (first | (with_reducible first | exact HB.out | apply below_alloc | apply pw_below_drewN | apply below_drew1 | refine below_set ?_ GE135.out | refine below_set ?_ GE136.out | refine below_set ?_ GE139.out | refine below_set ?_ GE140.out | refine below_set ?_ GE144.out) | exact HB.out)⟩⟩
          rw [if_neg c44] at H
          exact absurd H (by simp)
        rw [if_neg c43] at H
        exact absurd H (by simp)
      rw [if_neg c42] at H
      exact absurd H (by simp)
    rw [if_neg c37] at H
    have c37b0 : decide (x9_3 < (l0.length : Int)) = false := decide_eq_false c37
    clear c37
    (first | rw [c37b0] | (simp only [i64_w, i32_w]; rw [c37b0]) | skip)
    by_cases c46 : x10_3 < (l1.length : Int)
    · rw [if_pos c46] at H
      have c46b0 : decide (x10_3 < (l1.length : Int)) = true := decide_eq_true c46
      clear c46
      by_cases c47 : x9_3 = (l0.length : Int)
      · rw [if_pos c47] at H
        have c47b0 : (x9_3 == (l0.length : Int)) = true := beq_iff_eq.mpr c47
        have c47b1 : (x9_3 != (l0.length : Int)) = false := bne_eq_false_iff_eq.mpr c47
        clear c47
        have H' := Aside0.mk H
        clear H
        try go_wp2_with (fail)
        have n0_ := Aside0.mk (Kd.S_drew HO_8.out)
        have n1_ := Aside0.mk (Kd.S_drew HO_141000.out)
        have n2_ := Aside0.mk (Kd.R_drew HO_145001.out)
        have n3_ := Aside0.mk (Kd.R_drew HO_145002.out)
        have n4_ := Aside0.mk (blk_drew BK135.out)
        have n5_ := Aside0.mk (blk_drew BK136.out)
        have n6_ := Aside0.mk (blk_drew BK139.out)
        have n7_ := Aside0.mk (blk_drew BK140.out)
        have n8_ := Aside0.mk (blk_drew BK144.out)
        have n9_ := Aside0.mk (below_drew1 HB.out)
        clear HO_8
        clear HO_141000
        clear HO_145001
        clear HO_145002
        clear BK135
        clear BK136
        clear BK139
        clear BK140
        clear BK144
        clear HB
        have HO_8 := n0_
        have HO_141000 := n1_
        have HO_145001 := n2_
        have HO_145002 := n3_
        have BK135 := n4_
        have BK136 := n5_
        have BK139 := n6_
        have BK140 := n7_
        have BK144 := n8_
        have HB := n9_
        clear n0_ n1_ n2_ n3_ n4_ n5_ n6_ n7_ n8_ n9_
        refine start_ (n := 33) (S := fun w' => True) (ds := []) b15z0 (by kernel_rfl) rfl rfl trivial (fun hHeld => ?_); refine with_tabW diff_Script_i22.tab4 diff_Script_i22.bits4 (fun HT_ HW_ => ?_)
        generalize wr.drew = w48 at HO_8 HO_141000 HO_145001 HO_145002 BK135 BK136 BK139 BK140 BK144 HB hHeld ⊢
        refine pure_ (i := 0) (N := some 27) (v := ?_) (a' := ?_) b15z1 rfl rfl (any_of HT_.out (by kernel_rfl)) (fun _ _ _ h => h) (Or.inl ⟨by rfl, ?_⟩) ?_ ?_
        rotate_left
        · intro w'
          go_simp
          with_reducible rfl
        rotate_left
        · simp only [Act.put, s15q0, s15q1, s15q2, i64_w, i32_w]
          rfl
        refine pure_ (i := 1) (N := some 28) (v := ?_) (a' := ?_) b15z2 rfl rfl (any_of HT_.out (by kernel_rfl)) (fun _ _ _ h => h) (Or.inl ⟨by rfl, ?_⟩) ?_ ?_
        rotate_left
        · intro w'
          go_simp
          with_reducible rfl
        rotate_left
        · simp only [Act.put, s15q0, s15q1, s15q2, i64_w, i32_w]
          rfl
        refine pure_ (i := 2) (N := some 29) (v := ?_) (a' := ?_) b15z3 rfl rfl (any_of HT_.out (by kernel_rfl)) (fun _ _ _ h => h) (Or.inl ⟨by rfl, ?_⟩) ?_ ?_
        rotate_left
        · intro w'
          go_simp
          with_reducible rfl
        rotate_left
        · simp only [Act.put, s15q0, s15q1, s15q2, i64_w, i32_w]
          rfl
        refine pure_ (i := 3) (N := some 30) (v := ?_) (a' := ?_) b15z4 rfl rfl (any_of HT_.out (by kernel_rfl)) (fun _ _ _ h => h) (Or.inl ⟨by rfl, ?_⟩) ?_ ?_
        rotate_left
        · intro w'
          go_simp
          with_reducible rfl
        rotate_left
        · simp only [Act.put, s15q0, s15q1, s15q2, i64_w, i32_w]
          rfl
        refine pure_ (i := 4) (N := some 31) (v := ?_) (a' := ?_) b15z5 rfl rfl (any_of HT_.out (by kernel_rfl)) (fun _ _ _ h => h) (Or.inl ⟨by rfl, ?_⟩) ?_ ?_
        rotate_left
        · intro w'
          go_simp
          with_reducible rfl
        rotate_left
        · simp only [Act.put, s15q0, s15q1, s15q2, i64_w, i32_w]
          rfl
        refine pure_ (i := 5) (N := some 32) (v := ?_) (a' := ?_) b15z6 rfl rfl (any_of HT_.out (by kernel_rfl)) (fun _ _ _ h => h) (Or.inl ⟨by rfl, ?_⟩) ?_ ?_
        rotate_left
        · intro w'
          go_simp
          with_reducible rfl
        rotate_left
        · simp only [Act.put, s15q0, s15q1, s15q2, i64_w, i32_w]
          rfl
        refine pure_ (i := 6) (N := some 33) (v := ?_) (a' := ?_) b15z7 rfl rfl (any_of HT_.out (by kernel_rfl)) (fun _ _ _ h => h) (Or.inl ⟨by rfl, ?_⟩) ?_ ?_
        rotate_left
        · intro w'
          go_simp
          with_reducible rfl
        rotate_left
        · simp only [Act.put, s15q0, s15q1, s15q2, i64_w, i32_w]
          rfl
        refine pure_ (i := 7) (N := some 34) (v := ?_) (a' := ?_) b15z8 rfl rfl (any_of HT_.out (by kernel_rfl)) (fun _ _ _ h => h) (Or.inl ⟨by rfl, ?_⟩) ?_ ?_
        rotate_left
        · intro w'
          go_simp
          with_reducible rfl
        rotate_left
        · simp only [Act.put, s15q0, s15q1, s15q2, i64_w, i32_w]
          rfl
        refine pure_ (i := 8) (N := some 35) (v := ?_) (a' := ?_) b15z9 rfl rfl (any_of HT_.out (by kernel_rfl)) (fun _ _ _ h => h) (Or.inl ⟨by rfl, ?_⟩) ?_ ?_
        rotate_left
        · intro w'
          go_simp
          with_reducible rfl
        rotate_left
        · simp only [Act.put, s15q0, s15q1, s15q2, i64_w, i32_w]
          rfl
        refine pure_ (i := 9) (N := some 36) (v := ?_) (a' := ?_) b15z10 rfl rfl (any_of HT_.out (by kernel_rfl)) (fun _ _ _ h => h) (Or.inl ⟨by rfl, ?_⟩) ?_ ?_
        rotate_left
        · intro w'
          go_simp
          with_reducible rfl
        rotate_left
        · simp only [Act.put, s15q0, s15q1, s15q2, i64_w, i32_w]
          rfl
        refine pure_ (i := 10) (N := some 37) (v := ?_) (a' := ?_) b15z11 rfl rfl (any_of HT_.out (by kernel_rfl)) (fun _ _ _ h => h) (Or.inl ⟨by rfl, ?_⟩) ?_ ?_
        rotate_left
        · intro w'
          go_simp
          with_reducible rfl
        rotate_left
        · simp only [Act.put, s15q0, s15q1, s15q2, i64_w, i32_w]
          rfl
        refine pure_ (i := 11) (N := some 38) (v := ?_) (a' := ?_) b15z12 rfl rfl (any_of HT_.out (by kernel_rfl)) (fun _ _ _ h => h) (Or.inl ⟨by rfl, ?_⟩) ?_ ?_
        rotate_left
        · intro w'
          go_simp
          with_reducible rfl
        rotate_left
        · simp only [Act.put, s15q0, s15q1, s15q2, i64_w, i32_w]
          rfl
        refine pure_ (i := 12) (N := some 39) (v := ?_) (a' := ?_) b15z13 rfl rfl (any_of HT_.out (by kernel_rfl)) (fun _ _ _ h => h) (Or.inl ⟨by rfl, ?_⟩) ?_ ?_
        rotate_left
        · intro w'
          go_simp
          with_reducible rfl
        rotate_left
        · simp only [Act.put, s15q0, s15q1, s15q2, i64_w, i32_w]
          rfl
        refine pure_ (i := 13) (N := some 40) (v := ?_) (a' := ?_) b15z14 rfl rfl (any_of HT_.out (by kernel_rfl)) (fun _ _ _ h => h) (Or.inl ⟨by rfl, ?_⟩) ?_ ?_
        rotate_left
        · intro w'
          go_simp
          with_reducible rfl
        rotate_left
        · simp only [Act.put, s15q0, s15q1, s15q2, i64_w, i32_w]
          rfl
        refine pure_ (i := 14) (N := some 41) (v := ?_) (a' := ?_) b15z15 rfl rfl (any_of HT_.out (by kernel_rfl)) (fun _ _ _ h => h) (Or.inl ⟨by rfl, ?_⟩) ?_ ?_
        rotate_left
        · intro w'
          go_simp
          with_reducible rfl
        rotate_left
        · simp only [Act.put, s15q0, s15q1, s15q2, i64_w, i32_w]
          rfl
        refine pure_ (i := 15) (N := some 42) (v := ?_) (a' := ?_) b15z16 rfl rfl (any_of HT_.out (by kernel_rfl)) (fun _ _ _ h => h) (Or.inl ⟨by rfl, ?_⟩) ?_ ?_
        rotate_left
        · intro w'
          go_simp
          with_reducible rfl
        rotate_left
        · simp only [Act.put, s15q0, s15q1, s15q2, i64_w, i32_w]
          rfl
        refine pure_ (i := 16) (N := some 43) (v := undef) (a' := ?_) b15z17 rfl rfl (any_of HT_.out (by kernel_rfl)) (fun _ _ _ h => h) (Or.inr ⟨by rfl, rfl⟩) ?_ ?_
        rotate_left
        · simp only [Act.put, s15q0, s15q1, s15q2, i64_w, i32_w]
          rfl
        refine pure_ (i := 17) (N := some 44) (v := undef) (a' := ?_) b15z18 rfl rfl (any_of HT_.out (by kernel_rfl)) (fun _ _ _ h => h) (Or.inr ⟨by rfl, rfl⟩) ?_ ?_
        rotate_left
        · simp only [Act.put, s15q0, s15q1, s15q2, i64_w, i32_w]
          rfl
        refine pure_ (i := 18) (N := some 45) (v := undef) (a' := ?_) b15z19 rfl rfl (any_of HT_.out (by kernel_rfl)) (fun _ _ _ h => h) (Or.inr ⟨by rfl, rfl⟩) ?_ ?_
        rotate_left
        · simp only [Act.put, s15q0, s15q1, s15q2, i64_w, i32_w]
          rfl
        refine pure_ (i := 19) (N := some 46) (v := undef) (a' := ?_) b15z20 rfl rfl (any_of HT_.out (by kernel_rfl)) (fun _ _ _ h => h) (Or.inr ⟨by rfl, rfl⟩) ?_ ?_
        rotate_left
        · simp only [Act.put, s15q0, s15q1, s15q2, i64_w, i32_w]
          rfl
        refine pure_ (i := 20) (N := some 47) (v := ?_) (a' := ?_) b15z21 rfl rfl (any_of HT_.out (by kernel_rfl)) (fun _ _ _ h => h) (Or.inl ⟨by rfl, ?_⟩) ?_ ?_
        rotate_left
        · intro w'
          go_simp
          with_reducible rfl
        rotate_left
        · simp only [Act.put, s15q0, s15q1, s15q2, i64_w, i32_w]
          rfl
        refine pure_ (i := 21) (N := some 48) (v := ?_) (a' := ?_) b15z22 rfl rfl (any_of HT_.out (by kernel_rfl)) (fun _ _ _ h => h) (Or.inl ⟨by rfl, ?_⟩) ?_ ?_
        rotate_left
        · intro w'
          go_simp
          with_reducible rfl
        rotate_left
        · simp only [Act.put, s15q0, s15q1, s15q2, i64_w, i32_w]
          rfl
        refine pure_ (i := 22) (N := some 49) (v := undef) (a' := ?_) b15z23 rfl rfl (any_of HT_.out (by kernel_rfl)) (fun _ _ _ h => h) (Or.inr ⟨by rfl, rfl⟩) ?_ ?_
        rotate_left
        · simp only [Act.put, s15q0, s15q1, s15q2, i64_w, i32_w]
          rfl
        refine pure_ (i := 23) (N := some 50) (v := undef) (a' := ?_) b15z24 rfl rfl (any_of HT_.out (by kernel_rfl)) (fun _ _ _ h => h) (Or.inr ⟨by rfl, rfl⟩) ?_ ?_
        rotate_left
        · simp only [Act.put, s15q0, s15q1, s15q2, i64_w, i32_w]
          rfl
        refine pure_ (i := 24) (N := some 51) (v := undef) (a' := ?_) b15z25 rfl rfl (any_of HT_.out (by kernel_rfl)) (fun _ _ _ h => h) (Or.inr ⟨by rfl, rfl⟩) ?_ ?_
        rotate_left
        · simp only [Act.put, s15q0, s15q1, s15q2, i64_w, i32_w]
          rfl
        refine pure_ (i := 25) (N := some 52) (v := undef) (a' := ?_) b15z26 rfl rfl (any_of HT_.out (by kernel_rfl)) (fun _ _ _ h => h) (Or.inr ⟨by rfl, rfl⟩) ?_ ?_
        rotate_left
        · simp only [Act.put, s15q0, s15q1, s15q2, i64_w, i32_w]
          rfl
        refine pure_ (i := 26) (N := some 53) (v := undef) (a' := ?_) b15z27 rfl rfl (any_of HT_.out (by kernel_rfl)) (fun _ _ _ h => h) (Or.inr ⟨by rfl, rfl⟩) ?_ ?_
        rotate_left
        · simp only [Act.put, s15q0, s15q1, s15q2, i64_w, i32_w]
          rfl
        refine pure_ (i := 27) (N := some 54) (v := undef) (a' := ?_) b15z28 rfl rfl (any_of HT_.out (by kernel_rfl)) (fun _ _ _ h => h) (Or.inr ⟨by rfl, rfl⟩) ?_ ?_
        rotate_left
        · simp only [Act.put, s15q0, s15q1, s15q2, i64_w, i32_w]
          rfl
        refine pure_ (i := 28) (N := some 55) (v := undef) (a' := ?_) b15z29 rfl rfl (any_of HT_.out (by kernel_rfl)) (fun _ _ _ h => h) (Or.inr ⟨by rfl, rfl⟩) ?_ ?_
        rotate_left
        · simp only [Act.put, s15q0, s15q1, s15q2, i64_w, i32_w]
          rfl
        refine pure_ (i := 29) (N := some 56) (v := undef) (a' := ?_) b15z30 rfl rfl (any_of HT_.out (by kernel_rfl)) (fun _ _ _ h => h) (Or.inr ⟨by rfl, rfl⟩) ?_ ?_
        rotate_left
        · simp only [Act.put, s15q0, s15q1, s15q2, i64_w, i32_w]
          rfl
        refine pure_ (i := 30) (N := some 57) (v := undef) (a' := ?_) b15z31 rfl rfl (any_of HT_.out (by kernel_rfl)) (fun _ _ _ h => h) (Or.inr ⟨by rfl, rfl⟩) ?_ ?_
        rotate_left
        · simp only [Act.put, s15q0, s15q1, s15q2, i64_w, i32_w]
          rfl
        refine pure_ (i := 31) (N := some 58) (v := ?_) (a' := ?_) b15z32 rfl rfl (any_of HT_.out (by kernel_rfl)) (fun _ _ _ h => h) (Or.inl ⟨by rfl, ?_⟩) ?_ ?_
        rotate_left
        · intro w'
          go_simp
          with_reducible rfl
        rotate_left
        · simp only [Act.put, s15q0, s15q1, s15q2, i64_w, i32_w]
          rfl
        refine pure_ (i := 32) (N := some 59) (v := ?_) (a' := ?_) b15z33 rfl rfl (any_of HT_.out (by kernel_rfl)) (fun _ _ _ h => h) (Or.inl ⟨by rfl, ?_⟩) ?_ ?_
        rotate_left
        · intro w'
          go_simp
          with_reducible rfl
        rotate_left
        · simp only [Act.put, s15q0, s15q1, s15q2, i64_w, i32_w]
          rfl
        refine done_ (done_of HT_.out (by kernel_rfl)) ?_
        try go_wp2_with (fail)
        go_meet
        case rel => exact ⟨_, (true), (by first | rfl | (simp; done) | (simp [*]; done)), H', ⟨by have := HK1.out; have := HJ26.out; have := HK3.out; first | omega | exact Nat.le_refl _⟩, ⟨by (with_reducible repeat (first | apply Kd.S_alloc | apply Kd.S_drewN | apply Kd.S_drew)); exact HO_8.out⟩, ⟨by (with_reducible repeat (first | apply Kd.S_alloc | apply Kd.S_drewN | apply Kd.S_drew)); exact HO_141000.out⟩, ⟨by (with_reducible repeat (first | apply Kd.R_alloc | apply Kd.R_drewN | apply Kd.R_drew)); exact HO_145001.out⟩, ⟨by (with_reducible repeat (first | apply Kd.R_alloc | apply Kd.R_drewN | apply Kd.R_drew)); exact HO_145002.out⟩, ⟨by (with_reducible repeat (first | refine blk_drewN ?_ _ | refine blk_drew ?_ | refine blk_alloc ?_ _)); exact BK135.out⟩, ⟨by (with_reducible repeat (first | refine blk_drewN ?_ _ | refine blk_drew ?_ | refine blk_alloc ?_ _)); exact BK136.out⟩, ⟨by (with_reducible repeat (first | refine blk_drewN ?_ _ | refine blk_drew ?_ | refine blk_alloc ?_ _)); exact BK139.out⟩, ⟨by (with_reducible repeat (first | refine blk_drewN ?_ _ | refine blk_drew ?_ | refine blk_alloc ?_ _)); exact BK140.out⟩, ⟨by (with_reducible repeat (first | refine blk_drewN ?_ _ | refine blk_drew ?_ | refine blk_alloc ?_ _)); exact BK144.out⟩, ⟨by repeat (first | (with_reducible first | exact HB.out | apply below_alloc | apply pw_below_drewN | apply below_drew1 | refine below_set ?_ GE135.out | refine below_set ?_ GE136.out | refine below_set ?_ GE139.out | refine below_set ?_ GE140.out | refine below_set ?_ GE144.out) | exact HB.out)⟩⟩
      rw [if_neg c47] at H
      have c47b0 : (x9_3 == (l0.length : Int)) = false := beq_eq_false_iff_ne.mpr c47
      have c47b1 : (x9_3 != (l0.length : Int)) = true := bne_iff_ne.mpr c47
      by_cases c49 : x10_3 = (l1.length : Int)
      · rw [if_pos c49] at H
        have c49b0 : (x10_3 == (l1.length : Int)) = true := beq_iff_eq.mpr c49
        have c49b1 : (x10_3 != (l1.length : Int)) = false := bne_eq_false_iff_eq.mpr c49
        clear c49
        have H' := Aside0.mk H
        clear H
        try go_wp2_with (fail)
        have n0_ := Aside0.mk (Kd.S_drew HO_8.out)
        have n1_ := Aside0.mk (Kd.S_drew HO_141000.out)
        have n2_ := Aside0.mk (Kd.R_drew HO_145001.out)
        have n3_ := Aside0.mk (Kd.R_drew HO_145002.out)
        have n4_ := Aside0.mk (blk_drew BK135.out)
        have n5_ := Aside0.mk (blk_drew BK136.out)
        have n6_ := Aside0.mk (blk_drew BK139.out)
        have n7_ := Aside0.mk (blk_drew BK140.out)
        have n8_ := Aside0.mk (blk_drew BK144.out)
        have n9_ := Aside0.mk (below_drew1 HB.out)
        clear HO_8
        clear HO_141000
        clear HO_145001
        clear HO_145002
        clear BK135
        clear BK136
        clear BK139
        clear BK140
        clear BK144
        clear HB
        have HO_8 := n0_
        have HO_141000 := n1_
        have HO_145001 := n2_
        have HO_145002 := n3_
        have BK135 := n4_
        have BK136 := n5_
        have BK139 := n6_
        have BK140 := n7_
        have BK144 := n8_
        have HB := n9_
        clear n0_ n1_ n2_ n3_ n4_ n5_ n6_ n7_ n8_ n9_
        refine start_ (n := 33) (S := fun w' => True) (ds := []) b15z0 (by kernel_rfl) rfl rfl trivial (fun hHeld => ?_); refine with_tabW diff_Script_i22.tab4 diff_Script_i22.bits4 (fun HT_ HW_ => ?_)
        generalize wr.drew = w50 at HO_8 HO_141000 HO_145001 HO_145002 BK135 BK136 BK139 BK140 BK144 HB hHeld ⊢
        refine pure_ (i := 0) (N := some 27) (v := ?_) (a' := ?_) b15z1 rfl rfl (any_of HT_.out (by kernel_rfl)) (fun _ _ _ h => h) (Or.inl ⟨by rfl, ?_⟩) ?_ ?_
        rotate_left
        · intro w'
          go_simp
          with_reducible rfl
        rotate_left
        · simp only [Act.put, s15q0, s15q1, s15q2, i64_w, i32_w]
          rfl
        refine pure_ (i := 1) (N := some 28) (v := ?_) (a' := ?_) b15z2 rfl rfl (any_of HT_.out (by kernel_rfl)) (fun _ _ _ h => h) (Or.inl ⟨by rfl, ?_⟩) ?_ ?_
        rotate_left
        · intro w'
          go_simp
          with_reducible rfl
        rotate_left
        · simp only [Act.put, s15q0, s15q1, s15q2, i64_w, i32_w]
          rfl
        refine pure_ (i := 2) (N := some 29) (v := ?_) (a' := ?_) b15z3 rfl rfl (any_of HT_.out (by kernel_rfl)) (fun _ _ _ h => h) (Or.inl ⟨by rfl, ?_⟩) ?_ ?_
        rotate_left
        · intro w'
          go_simp
          with_reducible rfl
        rotate_left
        · simp only [Act.put, s15q0, s15q1, s15q2, i64_w, i32_w]
          rfl
        refine pure_ (i := 3) (N := some 30) (v := ?_) (a' := ?_) b15z4 rfl rfl (any_of HT_.out (by kernel_rfl)) (fun _ _ _ h => h) (Or.inl ⟨by rfl, ?_⟩) ?_ ?_
        rotate_left
        · intro w'
          go_simp
          with_reducible rfl
        rotate_left
        · simp only [Act.put, s15q0, s15q1, s15q2, i64_w, i32_w]
          rfl
        refine pure_ (i := 4) (N := some 31) (v := ?_) (a' := ?_) b15z5 rfl rfl (any_of HT_.out (by kernel_rfl)) (fun _ _ _ h => h) (Or.inl ⟨by rfl, ?_⟩) ?_ ?_
        rotate_left
        · intro w'
          go_simp
          with_reducible rfl
        rotate_left
        · simp only [Act.put, s15q0, s15q1, s15q2, i64_w, i32_w]
          rfl
        refine pure_ (i := 5) (N := some 32) (v := ?_) (a' := ?_) b15z6 rfl rfl (any_of HT_.out (by kernel_rfl)) (fun _ _ _ h => h) (Or.inl ⟨by rfl, ?_⟩) ?_ ?_
        rotate_left
        · intro w'
          go_simp
          with_reducible rfl
        rotate_left
        · simp only [Act.put, s15q0, s15q1, s15q2, i64_w, i32_w]
          rfl
        refine pure_ (i := 6) (N := some 33) (v := ?_) (a' := ?_) b15z7 rfl rfl (any_of HT_.out (by kernel_rfl)) (fun _ _ _ h => h) (Or.inl ⟨by rfl, ?_⟩) ?_ ?_
        rotate_left
        · intro w'
          go_simp
          with_reducible rfl
        rotate_left
        · simp only [Act.put, s15q0, s15q1, s15q2, i64_w, i32_w]
          rfl
        refine pure_ (i := 7) (N := some 34) (v := ?_) (a' := ?_) b15z8 rfl rfl (any_of HT_.out (by kernel_rfl)) (fun _ _ _ h => h) (Or.inl ⟨by rfl, ?_⟩) ?_ ?_
        rotate_left
        · intro w'
          go_simp
          with_reducible rfl
        rotate_left
        · simp only [Act.put, s15q0, s15q1, s15q2, i64_w, i32_w]
          rfl
        refine pure_ (i := 8) (N := some 35) (v := ?_) (a' := ?_) b15z9 rfl rfl (any_of HT_.out (by kernel_rfl)) (fun _ _ _ h => h) (Or.inl ⟨by rfl, ?_⟩) ?_ ?_
        rotate_left
        · intro w'
          go_simp
          with_reducible rfl
        rotate_left
        · simp only [Act.put, s15q0, s15q1, s15q2, i64_w, i32_w]
          rfl
        refine pure_ (i := 9) (N := some 36) (v := ?_) (a' := ?_) b15z10 rfl rfl (any_of HT_.out (by kernel_rfl)) (fun _ _ _ h => h) (Or.inl ⟨by rfl, ?_⟩) ?_ ?_
        rotate_left
        · intro w'
          go_simp
          with_reducible rfl
        rotate_left
        · simp only [Act.put, s15q0, s15q1, s15q2, i64_w, i32_w]
          rfl
        refine pure_ (i := 10) (N := some 37) (v := ?_) (a' := ?_) b15z11 rfl rfl (any_of HT_.out (by kernel_rfl)) (fun _ _ _ h => h) (Or.inl ⟨by rfl, ?_⟩) ?_ ?_
        rotate_left
        · intro w'
          go_simp
          with_reducible rfl
        rotate_left
        · simp only [Act.put, s15q0, s15q1, s15q2, i64_w, i32_w]
          rfl
        refine pure_ (i := 11) (N := some 38) (v := ?_) (a' := ?_) b15z12 rfl rfl (any_of HT_.out (by kernel_rfl)) (fun _ _ _ h => h) (Or.inl ⟨by rfl, ?_⟩) ?_ ?_
        rotate_left
        · intro w'
          go_simp
          with_reducible rfl
        rotate_left
        · simp only [Act.put, s15q0, s15q1, s15q2, i64_w, i32_w]
          rfl
        refine pure_ (i := 12) (N := some 39) (v := ?_) (a' := ?_) b15z13 rfl rfl (any_of HT_.out (by kernel_rfl)) (fun _ _ _ h => h) (Or.inl ⟨by rfl, ?_⟩) ?_ ?_
        rotate_left
        · intro w'
          go_simp
          with_reducible rfl
        rotate_left
        · simp only [Act.put, s15q0, s15q1, s15q2, i64_w, i32_w]
          rfl
        refine pure_ (i := 13) (N := some 40) (v := ?_) (a' := ?_) b15z14 rfl rfl (any_of HT_.out (by kernel_rfl)) (fun _ _ _ h => h) (Or.inl ⟨by rfl, ?_⟩) ?_ ?_
        rotate_left
        · intro w'
          go_simp
          with_reducible rfl
        rotate_left
        · simp only [Act.put, s15q0, s15q1, s15q2, i64_w, i32_w]
          rfl
        refine pure_ (i := 14) (N := some 41) (v := ?_) (a' := ?_) b15z15 rfl rfl (any_of HT_.out (by kernel_rfl)) (fun _ _ _ h => h) (Or.inl ⟨by rfl, ?_⟩) ?_ ?_
        rotate_left
        · intro w'
          go_simp
          with_reducible rfl
        rotate_left
        · simp only [Act.put, s15q0, s15q1, s15q2, i64_w, i32_w]
          rfl
        refine pure_ (i := 15) (N := some 42) (v := ?_) (a' := ?_) b15z16 rfl rfl (any_of HT_.out (by kernel_rfl)) (fun _ _ _ h => h) (Or.inl ⟨by rfl, ?_⟩) ?_ ?_
        rotate_left
        · intro w'
          go_simp
          with_reducible rfl
        rotate_left
        · simp only [Act.put, s15q0, s15q1, s15q2, i64_w, i32_w]
          rfl
        refine pure_ (i := 16) (N := some 43) (v := ?_) (a' := ?_) b15z17 rfl rfl (any_of HT_.out (by kernel_rfl)) (fun _ _ _ h => h) (Or.inl ⟨by rfl, ?_⟩) ?_ ?_
        rotate_left
        · intro w'
          go_simp
          with_reducible rfl
        rotate_left
        · simp only [Act.put, s15q0, s15q1, s15q2, i64_w, i32_w]
          rfl
        refine pure_ (i := 17) (N := some 44) (v := ?_) (a' := ?_) b15z18 rfl rfl (any_of HT_.out (by kernel_rfl)) (fun _ _ _ h => h) (Or.inl ⟨by rfl, ?_⟩) ?_ ?_
        rotate_left
        · intro w'
          go_simp
          with_reducible rfl
        rotate_left
        · simp only [Act.put, s15q0, s15q1, s15q2, i64_w, i32_w]
          rfl
        refine pure_ (i := 18) (N := some 45) (v := ?_) (a' := ?_) b15z19 rfl rfl (any_of HT_.out (by kernel_rfl)) (fun _ _ _ h => h) (Or.inl ⟨by rfl, ?_⟩) ?_ ?_
        rotate_left
        · intro w'
          go_simp
          with_reducible rfl
        rotate_left
        · simp only [Act.put, s15q0, s15q1, s15q2, i64_w, i32_w]
          rfl
        refine pure_ (i := 19) (N := some 46) (v := ?_) (a' := ?_) b15z20 rfl rfl (any_of HT_.out (by kernel_rfl)) (fun _ _ _ h => h) (Or.inl ⟨by rfl, ?_⟩) ?_ ?_
        rotate_left
        · intro w'
          go_simp
          with_reducible rfl
        rotate_left
        · simp only [Act.put, s15q0, s15q1, s15q2, i64_w, i32_w]
          rfl
        refine pure_ (i := 20) (N := some 47) (v := ?_) (a' := ?_) b15z21 rfl rfl (any_of HT_.out (by kernel_rfl)) (fun _ _ _ h => h) (Or.inl ⟨by rfl, ?_⟩) ?_ ?_
        rotate_left
        · intro w'
          go_simp
          with_reducible rfl
        rotate_left
        · simp only [Act.put, s15q0, s15q1, s15q2, i64_w, i32_w]
          rfl
        refine pure_ (i := 21) (N := some 48) (v := ?_) (a' := ?_) b15z22 rfl rfl (any_of HT_.out (by kernel_rfl)) (fun _ _ _ h => h) (Or.inl ⟨by rfl, ?_⟩) ?_ ?_
        rotate_left
        · intro w'
          go_simp
          with_reducible rfl
        rotate_left
        · simp only [Act.put, s15q0, s15q1, s15q2, i64_w, i32_w]
          rfl
        refine pure_ (i := 22) (N := some 49) (v := undef) (a' := ?_) b15z23 rfl rfl (any_of HT_.out (by kernel_rfl)) (fun _ _ _ h => h) (Or.inr ⟨by rfl, rfl⟩) ?_ ?_
        rotate_left
        · simp only [Act.put, s15q0, s15q1, s15q2, i64_w, i32_w]
          rfl
        refine pure_ (i := 23) (N := some 50) (v := undef) (a' := ?_) b15z24 rfl rfl (any_of HT_.out (by kernel_rfl)) (fun _ _ _ h => h) (Or.inr ⟨by rfl, rfl⟩) ?_ ?_
        rotate_left
        · simp only [Act.put, s15q0, s15q1, s15q2, i64_w, i32_w]
          rfl
        refine pure_ (i := 24) (N := some 51) (v := undef) (a' := ?_) b15z25 rfl rfl (any_of HT_.out (by kernel_rfl)) (fun _ _ _ h => h) (Or.inr ⟨by rfl, rfl⟩) ?_ ?_
        rotate_left
        · simp only [Act.put, s15q0, s15q1, s15q2, i64_w, i32_w]
          rfl
        refine pure_ (i := 25) (N := some 52) (v := undef) (a' := ?_) b15z26 rfl rfl (any_of HT_.out (by kernel_rfl)) (fun _ _ _ h => h) (Or.inr ⟨by rfl, rfl⟩) ?_ ?_
        rotate_left
        · simp only [Act.put, s15q0, s15q1, s15q2, i64_w, i32_w]
          rfl
        refine pure_ (i := 26) (N := some 53) (v := undef) (a' := ?_) b15z27 rfl rfl (any_of HT_.out (by kernel_rfl)) (fun _ _ _ h => h) (Or.inr ⟨by rfl, rfl⟩) ?_ ?_
        rotate_left
        · simp only [Act.put, s15q0, s15q1, s15q2, i64_w, i32_w]
          rfl
        refine pure_ (i := 27) (N := some 54) (v := undef) (a' := ?_) b15z28 rfl rfl (any_of HT_.out (by kernel_rfl)) (fun _ _ _ h => h) (Or.inr ⟨by rfl, rfl⟩) ?_ ?_
        rotate_left
        · simp only [Act.put, s15q0, s15q1, s15q2, i64_w, i32_w]
          rfl
        refine pure_ (i := 28) (N := some 55) (v := undef) (a' := ?_) b15z29 rfl rfl (any_of HT_.out (by kernel_rfl)) (fun _ _ _ h => h) (Or.inr ⟨by rfl, rfl⟩) ?_ ?_
        rotate_left
        · simp only [Act.put, s15q0, s15q1, s15q2, i64_w, i32_w]
          rfl
        refine pure_ (i := 29) (N := some 56) (v := undef) (a' := ?_) b15z30 rfl rfl (any_of HT_.out (by kernel_rfl)) (fun _ _ _ h => h) (Or.inr ⟨by rfl, rfl⟩) ?_ ?_
        rotate_left
        · simp only [Act.put, s15q0, s15q1, s15q2, i64_w, i32_w]
          rfl
        refine pure_ (i := 30) (N := some 57) (v := undef) (a' := ?_) b15z31 rfl rfl (any_of HT_.out (by kernel_rfl)) (fun _ _ _ h => h) (Or.inr ⟨by rfl, rfl⟩) ?_ ?_
        rotate_left
        · simp only [Act.put, s15q0, s15q1, s15q2, i64_w, i32_w]
          rfl
        refine pure_ (i := 31) (N := some 58) (v := ?_) (a' := ?_) b15z32 rfl rfl (any_of HT_.out (by kernel_rfl)) (fun _ _ _ h => h) (Or.inl ⟨by rfl, ?_⟩) ?_ ?_
        rotate_left
        · intro w'
          go_simp
          with_reducible rfl
        rotate_left
        · simp only [Act.put, s15q0, s15q1, s15q2, i64_w, i32_w]
          rfl
        refine pure_ (i := 32) (N := some 59) (v := ?_) (a' := ?_) b15z33 rfl rfl (any_of HT_.out (by kernel_rfl)) (fun _ _ _ h => h) (Or.inl ⟨by rfl, ?_⟩) ?_ ?_
        rotate_left
        · intro w'
          go_simp
          with_reducible rfl
        rotate_left
        · simp only [Act.put, s15q0, s15q1, s15q2, i64_w, i32_w]
          rfl
        refine done_ (done_of HT_.out (by kernel_rfl)) ?_
        try go_wp2_with (fail)
        go_meet
        case rel => exact ⟨_, (true), (by first | rfl | (simp; done) | (simp [*]; done)), H', ⟨by have := HK1.out; have := HJ26.out; have := HK3.out; first | omega | exact Nat.le_refl _⟩, ⟨by (with_reducible repeat (first | apply Kd.S_alloc | apply Kd.S_drewN | apply Kd.S_drew)); exact HO_8.out⟩, ⟨by (with_reducible repeat (first | apply Kd.S_alloc | apply Kd.S_drewN | apply Kd.S_drew)); exact HO_141000.out⟩, ⟨by (with_reducible repeat (first | apply Kd.R_alloc | apply Kd.R_drewN | apply Kd.R_drew)); exact HO_145001.out⟩, ⟨by (with_reducible repeat (first | apply Kd.R_alloc | apply Kd.R_drewN | apply Kd.R_drew)); exact HO_145002.out⟩, ⟨by (with_reducible repeat (first | refine blk_drewN ?_ _ | refine blk_drew ?_ | refine blk_alloc ?_ _)); exact BK135.out⟩, ⟨by (with_reducible repeat (first | refine blk_drewN ?_ _ | refine blk_drew ?_ | refine blk_alloc ?_ _)); exact BK136.out⟩, ⟨by (with_reducible repeat (first | refine blk_drewN ?_ _ | refine blk_drew ?_ | refine blk_alloc ?_ _)); exact BK139.out⟩, ⟨by (with_reducible repeat (first | refine blk_drewN ?_ _ | refine blk_drew ?_ | refine blk_alloc ?_ _)); exact BK140.out⟩, ⟨by (with_reducible repeat (first | refine blk_drewN ?_ _ | refine blk_drew ?_ | refine blk_alloc ?_ _)); exact BK144.out⟩, ⟨by repeat (first | (with_reducible first | exact HB.out | apply below_alloc | apply pw_below_drewN | apply below_drew1 | refine below_set ?_ GE135.out | refine below_set ?_ GE136.out | refine below_set ?_ GE139.out | refine below_set ?_ GE140.out | refine below_set ?_ GE144.out) | exact HB.out)⟩⟩
      rw [if_neg c49] at H
      have c49b0 : (x10_3 == (l1.length : Int)) = false := beq_eq_false_iff_ne.mpr c49
      have c49b1 : (x10_3 != (l1.length : Int)) = true := bne_iff_ne.mpr c49
      by_cases c51 : 0 ≤ x9_3
      · rw [if_pos c51] at H
        exact absurd H (by simp)
      rw [if_neg c51] at H
      exact absurd H (by simp)
    rw [if_neg c46] at H
    have c46b0 : decide (x10_3 < (l1.length : Int)) = false := decide_eq_false c46
    clear c46
    have H' := Aside0.mk H
    clear H
    try go_wp2_with (fail)
    have n0_ := Aside0.mk (Kd.S_drew HO_8.out)
    have n1_ := Aside0.mk (Kd.S_drew HO_141000.out)
    have n2_ := Aside0.mk (Kd.R_drew HO_145001.out)
    have n3_ := Aside0.mk (Kd.R_drew HO_145002.out)
    have n4_ := Aside0.mk (blk_drew BK135.out)
    have n5_ := Aside0.mk (blk_drew BK136.out)
    have n6_ := Aside0.mk (blk_drew BK139.out)
    have n7_ := Aside0.mk (blk_drew BK140.out)
    have n8_ := Aside0.mk (blk_drew BK144.out)
    have n9_ := Aside0.mk (below_drew1 HB.out)
    clear HO_8
    clear HO_141000
    clear HO_145001
    clear HO_145002
    clear BK135
    clear BK136
    clear BK139
    clear BK140
    clear BK144
    clear HB
    have HO_8 := n0_
    have HO_141000 := n1_
    have HO_145001 := n2_
    have HO_145002 := n3_
    have BK135 := n4_
    have BK136 := n5_
    have BK139 := n6_
    have BK140 := n7_
    have BK144 := n8_
    have HB := n9_
    clear n0_ n1_ n2_ n3_ n4_ n5_ n6_ n7_ n8_ n9_
    refine start_ (n := 33) (S := fun w' => True) (ds := []) b15z0 (by kernel_rfl) rfl rfl trivial (fun hHeld => ?_); refine with_tabW diff_Script_i22.tab4 diff_Script_i22.bits4 (fun HT_ HW_ => ?_)
    generalize wr.drew = w52 at HO_8 HO_141000 HO_145001 HO_145002 BK135 BK136 BK139 BK140 BK144 HB hHeld ⊢
    refine pure_ (i := 0) (N := some 27) (v := ?_) (a' := ?_) b15z1 rfl rfl (any_of HT_.out (by kernel_rfl)) (fun _ _ _ h => h) (Or.inl ⟨by rfl, ?_⟩) ?_ ?_
    rotate_left
    · intro w'
      go_simp
      with_reducible rfl
    rotate_left
    · simp only [Act.put, s15q0, s15q1, s15q2, i64_w, i32_w]
      rfl
    refine pure_ (i := 1) (N := some 28) (v := ?_) (a' := ?_) b15z2 rfl rfl (any_of HT_.out (by kernel_rfl)) (fun _ _ _ h => h) (Or.inl ⟨by rfl, ?_⟩) ?_ ?_
    rotate_left
    · intro w'
      go_simp
      with_reducible rfl
    rotate_left
    · simp only [Act.put, s15q0, s15q1, s15q2, i64_w, i32_w]
      rfl
    refine pure_ (i := 2) (N := some 29) (v := ?_) (a' := ?_) b15z3 rfl rfl (any_of HT_.out (by kernel_rfl)) (fun _ _ _ h => h) (Or.inl ⟨by rfl, ?_⟩) ?_ ?_
    rotate_left
    · intro w'
      go_simp
      with_reducible rfl
    rotate_left
    · simp only [Act.put, s15q0, s15q1, s15q2, i64_w, i32_w]
      rfl
    refine pure_ (i := 3) (N := some 30) (v := ?_) (a' := ?_) b15z4 rfl rfl (any_of HT_.out (by kernel_rfl)) (fun _ _ _ h => h) (Or.inl ⟨by rfl, ?_⟩) ?_ ?_
    rotate_left
    · intro w'
      go_simp
      with_reducible rfl
    rotate_left
    · simp only [Act.put, s15q0, s15q1, s15q2, i64_w, i32_w]
      rfl
    refine pure_ (i := 4) (N := some 31) (v := ?_) (a' := ?_) b15z5 rfl rfl (any_of HT_.out (by kernel_rfl)) (fun _ _ _ h => h) (Or.inl ⟨by rfl, ?_⟩) ?_ ?_
    rotate_left
    · intro w'
      go_simp
      with_reducible rfl
    rotate_left
    · simp only [Act.put, s15q0, s15q1, s15q2, i64_w, i32_w]
      rfl
    refine pure_ (i := 5) (N := some 32) (v := ?_) (a' := ?_) b15z6 rfl rfl (any_of HT_.out (by kernel_rfl)) (fun _ _ _ h => h) (Or.inl ⟨by rfl, ?_⟩) ?_ ?_
    rotate_left
    · intro w'
      go_simp
      with_reducible rfl
    rotate_left
    · simp only [Act.put, s15q0, s15q1, s15q2, i64_w, i32_w]
      rfl
    refine pure_ (i := 6) (N := some 33) (v := ?_) (a' := ?_) b15z7 rfl rfl (any_of HT_.out (by kernel_rfl)) (fun _ _ _ h => h) (Or.inl ⟨by rfl, ?_⟩) ?_ ?_
    rotate_left
    · intro w'
      go_simp
      with_reducible rfl
    rotate_left
    · simp only [Act.put, s15q0, s15q1, s15q2, i64_w, i32_w]
      rfl
    refine pure_ (i := 7) (N := some 34) (v := ?_) (a' := ?_) b15z8 rfl rfl (any_of HT_.out (by kernel_rfl)) (fun _ _ _ h => h) (Or.inl ⟨by rfl, ?_⟩) ?_ ?_
    rotate_left
    · intro w'
      go_simp
      with_reducible rfl
    rotate_left
    · simp only [Act.put, s15q0, s15q1, s15q2, i64_w, i32_w]
      rfl
    refine pure_ (i := 8) (N := some 35) (v := ?_) (a' := ?_) b15z9 rfl rfl (any_of HT_.out (by kernel_rfl)) (fun _ _ _ h => h) (Or.inl ⟨by rfl, ?_⟩) ?_ ?_
    rotate_left
    · intro w'
      go_simp
      with_reducible rfl
    rotate_left
    · simp only [Act.put, s15q0, s15q1, s15q2, i64_w, i32_w]
      rfl
    refine pure_ (i := 9) (N := some 36) (v := ?_) (a' := ?_) b15z10 rfl rfl (any_of HT_.out (by kernel_rfl)) (fun _ _ _ h => h) (Or.inl ⟨by rfl, ?_⟩) ?_ ?_
    rotate_left
    · intro w'
      go_simp
      with_reducible rfl
    rotate_left
    · simp only [Act.put, s15q0, s15q1, s15q2, i64_w, i32_w]
      rfl
    refine pure_ (i := 10) (N := some 37) (v := ?_) (a' := ?_) b15z11 rfl rfl (any_of HT_.out (by kernel_rfl)) (fun _ _ _ h => h) (Or.inl ⟨by rfl, ?_⟩) ?_ ?_
    rotate_left
    · intro w'
      go_simp
      with_reducible rfl
    rotate_left
    · simp only [Act.put, s15q0, s15q1, s15q2, i64_w, i32_w]
      rfl
    refine pure_ (i := 11) (N := some 38) (v := undef) (a' := ?_) b15z12 rfl rfl (any_of HT_.out (by kernel_rfl)) (fun _ _ _ h => h) (Or.inr ⟨by rfl, rfl⟩) ?_ ?_
    rotate_left
    · simp only [Act.put, s15q0, s15q1, s15q2, i64_w, i32_w]
      rfl
    refine pure_ (i := 12) (N := some 39) (v := undef) (a' := ?_) b15z13 rfl rfl (any_of HT_.out (by kernel_rfl)) (fun _ _ _ h => h) (Or.inr ⟨by rfl, rfl⟩) ?_ ?_
    rotate_left
    · simp only [Act.put, s15q0, s15q1, s15q2, i64_w, i32_w]
      rfl
    refine pure_ (i := 13) (N := some 40) (v := undef) (a' := ?_) b15z14 rfl rfl (any_of HT_.out (by kernel_rfl)) (fun _ _ _ h => h) (Or.inr ⟨by rfl, rfl⟩) ?_ ?_
    rotate_left
    · simp only [Act.put, s15q0, s15q1, s15q2, i64_w, i32_w]
      rfl
    refine pure_ (i := 14) (N := some 41) (v := undef) (a' := ?_) b15z15 rfl rfl (any_of HT_.out (by kernel_rfl)) (fun _ _ _ h => h) (Or.inr ⟨by rfl, rfl⟩) ?_ ?_
    rotate_left
    · simp only [Act.put, s15q0, s15q1, s15q2, i64_w, i32_w]
      rfl
    refine pure_ (i := 15) (N := some 42) (v := undef) (a' := ?_) b15z16 rfl rfl (any_of HT_.out (by kernel_rfl)) (fun _ _ _ h => h) (Or.inr ⟨by rfl, rfl⟩) ?_ ?_
    rotate_left
    · simp only [Act.put, s15q0, s15q1, s15q2, i64_w, i32_w]
      rfl
    refine pure_ (i := 16) (N := some 43) (v := undef) (a' := ?_) b15z17 rfl rfl (any_of HT_.out (by kernel_rfl)) (fun _ _ _ h => h) (Or.inr ⟨by rfl, rfl⟩) ?_ ?_
    rotate_left
    · simp only [Act.put, s15q0, s15q1, s15q2, i64_w, i32_w]
      rfl
    refine pure_ (i := 17) (N := some 44) (v := undef) (a' := ?_) b15z18 rfl rfl (any_of HT_.out (by kernel_rfl)) (fun _ _ _ h => h) (Or.inr ⟨by rfl, rfl⟩) ?_ ?_
    rotate_left
    · simp only [Act.put, s15q0, s15q1, s15q2, i64_w, i32_w]
      rfl
    refine pure_ (i := 18) (N := some 45) (v := undef) (a' := ?_) b15z19 rfl rfl (any_of HT_.out (by kernel_rfl)) (fun _ _ _ h => h) (Or.inr ⟨by rfl, rfl⟩) ?_ ?_
    rotate_left
    · simp only [Act.put, s15q0, s15q1, s15q2, i64_w, i32_w]
      rfl
    refine pure_ (i := 19) (N := some 46) (v := undef) (a' := ?_) b15z20 rfl rfl (any_of HT_.out (by kernel_rfl)) (fun _ _ _ h => h) (Or.inr ⟨by rfl, rfl⟩) ?_ ?_
    rotate_left
    · simp only [Act.put, s15q0, s15q1, s15q2, i64_w, i32_w]
      rfl
    refine pure_ (i := 20) (N := some 47) (v := undef) (a' := ?_) b15z21 rfl rfl (any_of HT_.out (by kernel_rfl)) (fun _ _ _ h => h) (Or.inr ⟨by rfl, rfl⟩) ?_ ?_
    rotate_left
    · simp only [Act.put, s15q0, s15q1, s15q2, i64_w, i32_w]
      rfl
    refine pure_ (i := 21) (N := some 48) (v := undef) (a' := ?_) b15z22 rfl rfl (any_of HT_.out (by kernel_rfl)) (fun _ _ _ h => h) (Or.inr ⟨by rfl, rfl⟩) ?_ ?_
    rotate_left
    · simp only [Act.put, s15q0, s15q1, s15q2, i64_w, i32_w]
      rfl
    refine pure_ (i := 22) (N := some 49) (v := undef) (a' := ?_) b15z23 rfl rfl (any_of HT_.out (by kernel_rfl)) (fun _ _ _ h => h) (Or.inr ⟨by rfl, rfl⟩) ?_ ?_
    rotate_left
    · simp only [Act.put, s15q0, s15q1, s15q2, i64_w, i32_w]
      rfl
    refine pure_ (i := 23) (N := some 50) (v := undef) (a' := ?_) b15z24 rfl rfl (any_of HT_.out (by kernel_rfl)) (fun _ _ _ h => h) (Or.inr ⟨by rfl, rfl⟩) ?_ ?_
    rotate_left
    · simp only [Act.put, s15q0, s15q1, s15q2, i64_w, i32_w]
      rfl
    refine pure_ (i := 24) (N := some 51) (v := undef) (a' := ?_) b15z25 rfl rfl (any_of HT_.out (by kernel_rfl)) (fun _ _ _ h => h) (Or.inr ⟨by rfl, rfl⟩) ?_ ?_
    rotate_left
    · simp only [Act.put, s15q0, s15q1, s15q2, i64_w, i32_w]
      rfl
    refine pure_ (i := 25) (N := some 52) (v := undef) (a' := ?_) b15z26 rfl rfl (any_of HT_.out (by kernel_rfl)) (fun _ _ _ h => h) (Or.inr ⟨by rfl, rfl⟩) ?_ ?_
    rotate_left
    · simp only [Act.put, s15q0, s15q1, s15q2, i64_w, i32_w]
      rfl
    refine pure_ (i := 26) (N := some 53) (v := undef) (a' := ?_) b15z27 rfl rfl (any_of HT_.out (by kernel_rfl)) (fun _ _ _ h => h) (Or.inr ⟨by rfl, rfl⟩) ?_ ?_
    rotate_left
    · simp only [Act.put, s15q0, s15q1, s15q2, i64_w, i32_w]
      rfl
    refine pure_ (i := 27) (N := some 54) (v := undef) (a' := ?_) b15z28 rfl rfl (any_of HT_.out (by kernel_rfl)) (fun _ _ _ h => h) (Or.inr ⟨by rfl, rfl⟩) ?_ ?_
    rotate_left
    · simp only [Act.put, s15q0, s15q1, s15q2, i64_w, i32_w]
      rfl
    refine pure_ (i := 28) (N := some 55) (v := undef) (a' := ?_) b15z29 rfl rfl (any_of HT_.out (by kernel_rfl)) (fun _ _ _ h => h) (Or.inr ⟨by rfl, rfl⟩) ?_ ?_
    rotate_left
    · simp only [Act.put, s15q0, s15q1, s15q2, i64_w, i32_w]
      rfl
    refine pure_ (i := 29) (N := some 56) (v := undef) (a' := ?_) b15z30 rfl rfl (any_of HT_.out (by kernel_rfl)) (fun _ _ _ h => h) (Or.inr ⟨by rfl, rfl⟩) ?_ ?_
    rotate_left
    · simp only [Act.put, s15q0, s15q1, s15q2, i64_w, i32_w]
      rfl
    refine pure_ (i := 30) (N := some 57) (v := undef) (a' := ?_) b15z31 rfl rfl (any_of HT_.out (by kernel_rfl)) (fun _ _ _ h => h) (Or.inr ⟨by rfl, rfl⟩) ?_ ?_
    rotate_left
    · simp only [Act.put, s15q0, s15q1, s15q2, i64_w, i32_w]
      rfl
    refine pure_ (i := 31) (N := some 58) (v := undef) (a' := ?_) b15z32 rfl rfl (any_of HT_.out (by kernel_rfl)) (fun _ _ _ h => h) (Or.inr ⟨by rfl, rfl⟩) ?_ ?_
    rotate_left
    · simp only [Act.put, s15q0, s15q1, s15q2, i64_w, i32_w]
      rfl
    refine pure_ (i := 32) (N := some 59) (v := ?_) (a' := ?_) b15z33 rfl rfl (any_of HT_.out (by kernel_rfl)) (fun _ _ _ h => h) (Or.inl ⟨by rfl, ?_⟩) ?_ ?_
    rotate_left
    · intro w'
      go_simp
      with_reducible rfl
    rotate_left
    · simp only [Act.put, s15q0, s15q1, s15q2, i64_w, i32_w]
      rfl
    refine done_ (done_of HT_.out (by kernel_rfl)) ?_
    try go_wp2_with (fail)
    go_meet
    case rel => exact ⟨_, (false), (by first | rfl | (simp; done) | (simp [*]; done)), H', ⟨by have := HK1.out; have := HJ26.out; have := HK3.out; first | omega | exact Nat.le_refl _⟩, ⟨by (with_reducible repeat (first | apply Kd.S_alloc | apply Kd.S_drewN | apply Kd.S_drew)); exact HO_8.out⟩, ⟨by (with_reducible repeat (first | apply Kd.S_alloc | apply Kd.S_drewN | apply Kd.S_drew)); exact HO_141000.out⟩, ⟨by (with_reducible repeat (first | apply Kd.R_alloc | apply Kd.R_drewN | apply Kd.R_drew)); exact HO_145001.out⟩, ⟨by (with_reducible repeat (first | apply Kd.R_alloc | apply Kd.R_drewN | apply Kd.R_drew)); exact HO_145002.out⟩, ⟨by (with_reducible repeat (first | refine blk_drewN ?_ _ | refine blk_drew ?_ | refine blk_alloc ?_ _)); exact BK135.out⟩, ⟨by (with_reducible repeat (first | refine blk_drewN ?_ _ | refine blk_drew ?_ | refine blk_alloc ?_ _)); exact BK136.out⟩, ⟨by (with_reducible repeat (first | refine blk_drewN ?_ _ | refine blk_drew ?_ | refine blk_alloc ?_ _)); exact BK139.out⟩, ⟨by (with_reducible repeat (first | refine blk_drewN ?_ _ | refine blk_drew ?_ | refine blk_alloc ?_ _)); exact BK140.out⟩, ⟨by (with_reducible repeat (first | refine blk_drewN ?_ _ | refine blk_drew ?_ | refine blk_alloc ?_ _)); exact BK144.out⟩, ⟨by repeat (first | (with_reducible first | exact HB.out | apply below_alloc | apply pw_below_drewN | apply below_drew1 | refine below_set ?_ GE135.out | refine below_set ?_ GE136.out | refine below_set ?_ GE139.out | refine below_set ?_ GE140.out | refine below_set ?_ GE144.out) | exact HB.out)⟩⟩
   clear HC36
   try clear p2
   try clear c4
   try clear c5
   try clear c46
   try clear c46b0
   try clear c47
   try clear c47b0
   try clear c47b1
   try clear c49
   try clear c49b0
   try clear c49b1
   try clear c51
   obtain ⟨kq, x59_35, rfl, HA, HJ35, HO_8, HO_141000, HO_145001, HO_145002, BK135, BK136, BK139, BK140, BK144, HB⟩ := hcut
   cases kq with
   | zero => exact absurd HA.out (by simp [diff_Script.j3])
   | succ kj35 =>
   have H := HA.out
   clear HA
   simp only [diff_Script.j3] at H
   by_cases c53 : x59_35 = true
   · subst c53
     have H1 : (if x10_3 = (l1.length : Int) then (diff_Script.j4 kj35 l0 l1 t141 x9_3 x10_3 true x141000_1 x9_1 x145001_3 x145002_3) else (if x9_3 < (l0.length : Int) then (if 0 ≤ (wrap64 (x9_3 + 1)) then (if (wrap64 (x9_3 + 1)) < (t141.length : Int) then (if 0 ≤ x10_3 then (if x10_3 < ((rd_L4 t141 (wrap64 (x9_3 + 1))).length : Int) then (if 0 ≤ x9_3 then (if x9_3 < (t141.length : Int) then (if 0 ≤ (wrap64 (x10_3 + 1)) then (if (wrap64 (x10_3 + 1)) < ((rd_L4 t141 x9_3).length : Int) then (diff_Script.j4 kj35 l0 l1 t141 x9_3 x10_3 (decide ((rd (rd_L4 t141 (wrap64 (x9_3 + 1))) x10_3) ≥ (rd (rd_L4 t141 x9_3) (wrap64 (x10_3 + 1))))) x141000_1 x9_1 x145001_3 x145002_3) else (none)) else (none)) else (none)) else (none)) else (none)) else (none)) else (none)) else (none)) else (diff_Script.j4 kj35 l0 l1 t141 x9_3 x10_3 false x141000_1 x9_1 x145001_3 x145002_3))) = some (r1, r2, r3) := by rw [if_pos rfl] at H; exact H
     clear H
     have H := H1
     clear H1
     have HC54 := Aside0.mk H
     clear H
     go_upto_region 5 with (fail)
     go_cut [88, 27, 28, 29, 30, 31, 32, 33, 34, 35, 36, 37, 38, 39, 40, 41, 42, 43, 44, 45, 46, 47, 48, 49, 50, 51, 52, 53, 54, 55, 56, 57, 58, 59, 60, 61, 62, 63, 64, 65, 66, 67, 68, 69, 70, 71, 72, 73, 74, 75, 76, 77, 78, 79, 80, 81, 82, 83, 84, 85, 86, 87, 89, 90, 91, 92, 93, 94, 95, 96, 97, 98, 99, 100, 101, 102, 103, 104, 105, 106, 107, 108, 109, 110] from 99999 (fun v88 _ _ _ _ _ _ _ _ _ _ _ _ _ _ _ _ _ _ _ _ _ _ _ _ _ _ _ _ _ _ _ _ _ _ _ _ _ _ _ _ _ _ _ _ _ _ _ _ _ _ _ _ _ _ _ _ _ _ _ _ _ _ _ _ _ _ _ _ _ _ _ _ _ _ _ _ _ _ _ _ _ _ _ wc => ∃ (kq : Nat) (x88_53 : Bool), v88 = .bool x88_53 ∧ Aside0 (diff_Script.j4 kq l0 l1 t141 x9_3 x10_3 x88_53 x141000_1 x9_1 x145001_3 x145002_3 = some (r1, r2, r3)) ∧ Aside0 (kq ≤ kj35) ∧ Aside0 (Kd.S (Kd.slice 3 (Kd.int .i64)) 23 wc w.heap.size (fun _ => True) v142 t141) ∧ Aside0 (Kd.S k42 42 wc w.heap.size (fun k_ => some k_ ≠ (u145001 : Value).ownBlock ∧ some k_ ≠ (u145002 : Value).ownBlock ∧ k_ ≠ gb144) u141000 x141000_1) ∧ Aside0 (Kd.R Kd.string 9 wc w.heap.size (fun k_ => some k_ ≠ (u145002 : Value).ownBlock) u145001 x145001_3) ∧ Aside0 (Kd.R Kd.string 9 wc w.heap.size (fun k_ => some k_ ≠ (u145001 : Value).ownBlock) u145002 x145002_3) ∧ Aside0 (wc.heap[gb135]? = some (.cells #[(.slice none 0 0)] 38 (0, 0))) ∧ Aside0 (wc.heap[gb136]? = some (.cells #[.int .i64 0, .int .i64 0] 25 (0, 0))) ∧ Aside0 (wc.heap[gb139]? = some (.cells #[.int .i64 t137, .int .i64 t138] 25 (0, 0))) ∧ Aside0 (wc.heap[gb140]? = some (.cells #[u141000] 38 (0, 0))) ∧ Aside0 (wc.heap[gb144]? = some (.cells #[.int .i64 x9_1, u145001, u145002] 42 (0, 0))) ∧ Aside0 (Below w.heap.size w wc))
     case first =>
      have H := HC54.out
      clear HC54
      by_cases c55 : x10_3 = (l1.length : Int)
      · rw [if_pos c55] at H
        have c55b0 : (x10_3 == (l1.length : Int)) = true := beq_iff_eq.mpr c55
        have c55b1 : (x10_3 != (l1.length : Int)) = false := bne_eq_false_iff_eq.mpr c55
        clear c55
        (first | rw [c55b0] | (simp only [i64_w, i32_w]; rw [c55b0]) | skip)
        have H' := Aside0.mk H
        clear H
        try go_wp2_with (fail)
        have n0_ := Aside0.mk (Kd.S_drew HO_8.out)
        have n1_ := Aside0.mk (Kd.S_drew HO_141000.out)
        have n2_ := Aside0.mk (Kd.R_drew HO_145001.out)
        have n3_ := Aside0.mk (Kd.R_drew HO_145002.out)
        have n4_ := Aside0.mk (blk_drew BK135.out)
        have n5_ := Aside0.mk (blk_drew BK136.out)
        have n6_ := Aside0.mk (blk_drew BK139.out)
        have n7_ := Aside0.mk (blk_drew BK140.out)
        have n8_ := Aside0.mk (blk_drew BK144.out)
        have n9_ := Aside0.mk (below_drew1 HB.out)
        clear HO_8
        clear HO_141000
        clear HO_145001
        clear HO_145002
        clear BK135
        clear BK136
        clear BK139
        clear BK140
        clear BK144
        clear HB
        have HO_8 := n0_
        have HO_141000 := n1_
        have HO_145001 := n2_
        have HO_145002 := n3_
        have BK135 := n4_
        have BK136 := n5_
        have BK139 := n6_
        have BK140 := n7_
        have BK144 := n8_
        have HB := n9_
        clear n0_ n1_ n2_ n3_ n4_ n5_ n6_ n7_ n8_ n9_
        refine start_ (n := 29) (S := fun w' => True) (ds := []) b15z37 (by kernel_rfl) rfl rfl trivial (fun hHeld => ?_); refine with_tabW diff_Script_i22.tab5 diff_Script_i22.bits5 (fun HT_ HW_ => ?_)
        generalize wc.drew = w56 at HO_8 HO_141000 HO_145001 HO_145002 BK135 BK136 BK139 BK140 BK144 HB hHeld ⊢
        refine pure_ (i := 0) (N := some 60) (v := ?_) (a' := ?_) b15z38 rfl rfl (any_of HT_.out (by kernel_rfl)) (fun _ _ _ h => h) (Or.inl ⟨by rfl, ?_⟩) ?_ ?_
        rotate_left
        · intro w'
          go_simp
          with_reducible rfl
        rotate_left
        · simp only [Act.put, s15q0, s15q1, s15q2, i64_w, i32_w]
          rfl
        refine pure_ (i := 1) (N := some 61) (v := ?_) (a' := ?_) b15z39 rfl rfl (any_of HT_.out (by kernel_rfl)) (fun _ _ _ h => h) (Or.inl ⟨by rfl, ?_⟩) ?_ ?_
        rotate_left
        · intro w'
          go_simp
          with_reducible rfl
        rotate_left
        · simp only [Act.put, s15q0, s15q1, s15q2, i64_w, i32_w]
          rfl
        refine pure_ (i := 2) (N := some 62) (v := ?_) (a' := ?_) b15z40 rfl rfl (any_of HT_.out (by kernel_rfl)) (fun _ _ _ h => h) (Or.inl ⟨by rfl, ?_⟩) ?_ ?_
        rotate_left
        · intro w'
          go_simp
          with_reducible rfl
        rotate_left
        · simp only [Act.put, s15q0, s15q1, s15q2, i64_w, i32_w]
          rfl
        refine pure_ (i := 3) (N := some 63) (v := ?_) (a' := ?_) b15z41 rfl rfl (any_of HT_.out (by kernel_rfl)) (fun _ _ _ h => h) (Or.inl ⟨by rfl, ?_⟩) ?_ ?_
        rotate_left
        · intro w'
          go_simp
          with_reducible rfl
        rotate_left
        · simp only [Act.put, s15q0, s15q1, s15q2, i64_w, i32_w]
          rfl
        refine pure_ (i := 4) (N := some 64) (v := ?_) (a' := ?_) b15z42 rfl rfl (any_of HT_.out (by kernel_rfl)) (fun _ _ _ h => h) (Or.inl ⟨by rfl, ?_⟩) ?_ ?_
        rotate_left
        · intro w'
          go_simp
          with_reducible rfl
        rotate_left
        · simp only [Act.put, s15q0, s15q1, s15q2, i64_w, i32_w]
          rfl
        refine pure_ (i := 5) (N := some 65) (v := undef) (a' := ?_) b15z43 rfl rfl (any_of HT_.out (by kernel_rfl)) (fun _ _ _ h => h) (Or.inr ⟨by rfl, rfl⟩) ?_ ?_
        rotate_left
        · simp only [Act.put, s15q0, s15q1, s15q2, i64_w, i32_w]
          rfl
        refine pure_ (i := 6) (N := some 66) (v := undef) (a' := ?_) b15z44 rfl rfl (any_of HT_.out (by kernel_rfl)) (fun _ _ _ h => h) (Or.inr ⟨by rfl, rfl⟩) ?_ ?_
        rotate_left
        · simp only [Act.put, s15q0, s15q1, s15q2, i64_w, i32_w]
          rfl
        refine pure_ (i := 7) (N := some 67) (v := undef) (a' := ?_) b15z45 rfl rfl (any_of HT_.out (by kernel_rfl)) (fun _ _ _ h => h) (Or.inr ⟨by rfl, rfl⟩) ?_ ?_
        rotate_left
        · simp only [Act.put, s15q0, s15q1, s15q2, i64_w, i32_w]
          rfl
        refine pure_ (i := 8) (N := some 68) (v := undef) (a' := ?_) b15z46 rfl rfl (any_of HT_.out (by kernel_rfl)) (fun _ _ _ h => h) (Or.inr ⟨by rfl, rfl⟩) ?_ ?_
        rotate_left
        · simp only [Act.put, s15q0, s15q1, s15q2, i64_w, i32_w]
          rfl
        refine pure_ (i := 9) (N := some 69) (v := undef) (a' := ?_) b15z47 rfl rfl (any_of HT_.out (by kernel_rfl)) (fun _ _ _ h => h) (Or.inr ⟨by rfl, rfl⟩) ?_ ?_
        rotate_left
        · simp only [Act.put, s15q0, s15q1, s15q2, i64_w, i32_w]
          rfl
        refine pure_ (i := 10) (N := some 70) (v := undef) (a' := ?_) b15z48 rfl rfl (any_of HT_.out (by kernel_rfl)) (fun _ _ _ h => h) (Or.inr ⟨by rfl, rfl⟩) ?_ ?_
        rotate_left
        · simp only [Act.put, s15q0, s15q1, s15q2, i64_w, i32_w]
          rfl
        refine pure_ (i := 11) (N := some 71) (v := undef) (a' := ?_) b15z49 rfl rfl (any_of HT_.out (by kernel_rfl)) (fun _ _ _ h => h) (Or.inr ⟨by rfl, rfl⟩) ?_ ?_
        rotate_left
        · simp only [Act.put, s15q0, s15q1, s15q2, i64_w, i32_w]
          rfl
        refine pure_ (i := 12) (N := some 72) (v := undef) (a' := ?_) b15z50 rfl rfl (any_of HT_.out (by kernel_rfl)) (fun _ _ _ h => h) (Or.inr ⟨by rfl, rfl⟩) ?_ ?_
        rotate_left
        · simp only [Act.put, s15q0, s15q1, s15q2, i64_w, i32_w]
          rfl
        refine pure_ (i := 13) (N := some 73) (v := undef) (a' := ?_) b15z51 rfl rfl (any_of HT_.out (by kernel_rfl)) (fun _ _ _ h => h) (Or.inr ⟨by rfl, rfl⟩) ?_ ?_
        rotate_left
        · simp only [Act.put, s15q0, s15q1, s15q2, i64_w, i32_w]
          rfl
        refine pure_ (i := 14) (N := some 74) (v := undef) (a' := ?_) b15z52 rfl rfl (any_of HT_.out (by kernel_rfl)) (fun _ _ _ h => h) (Or.inr ⟨by rfl, rfl⟩) ?_ ?_
        rotate_left
        · simp only [Act.put, s15q0, s15q1, s15q2, i64_w, i32_w]
          rfl
        refine pure_ (i := 15) (N := some 75) (v := undef) (a' := ?_) b15z53 rfl rfl (any_of HT_.out (by kernel_rfl)) (fun _ _ _ h => h) (Or.inr ⟨by rfl, rfl⟩) ?_ ?_
        rotate_left
        · simp only [Act.put, s15q0, s15q1, s15q2, i64_w, i32_w]
          rfl
        refine pure_ (i := 16) (N := some 76) (v := undef) (a' := ?_) b15z54 rfl rfl (any_of HT_.out (by kernel_rfl)) (fun _ _ _ h => h) (Or.inr ⟨by rfl, rfl⟩) ?_ ?_
        rotate_left
        · simp only [Act.put, s15q0, s15q1, s15q2, i64_w, i32_w]
          rfl
        refine pure_ (i := 17) (N := some 77) (v := undef) (a' := ?_) b15z55 rfl rfl (any_of HT_.out (by kernel_rfl)) (fun _ _ _ h => h) (Or.inr ⟨by rfl, rfl⟩) ?_ ?_
        rotate_left
        · simp only [Act.put, s15q0, s15q1, s15q2, i64_w, i32_w]
          rfl
        refine pure_ (i := 18) (N := some 78) (v := undef) (a' := ?_) b15z56 rfl rfl (any_of HT_.out (by kernel_rfl)) (fun _ _ _ h => h) (Or.inr ⟨by rfl, rfl⟩) ?_ ?_
        rotate_left
        · simp only [Act.put, s15q0, s15q1, s15q2, i64_w, i32_w]
          rfl
        refine pure_ (i := 19) (N := some 79) (v := undef) (a' := ?_) b15z57 rfl rfl (any_of HT_.out (by kernel_rfl)) (fun _ _ _ h => h) (Or.inr ⟨by rfl, rfl⟩) ?_ ?_
        rotate_left
        · simp only [Act.put, s15q0, s15q1, s15q2, i64_w, i32_w]
          rfl
        refine pure_ (i := 20) (N := some 80) (v := undef) (a' := ?_) b15z58 rfl rfl (any_of HT_.out (by kernel_rfl)) (fun _ _ _ h => h) (Or.inr ⟨by rfl, rfl⟩) ?_ ?_
        rotate_left
        · simp only [Act.put, s15q0, s15q1, s15q2, i64_w, i32_w]
          rfl
        refine pure_ (i := 21) (N := some 81) (v := undef) (a' := ?_) b15z59 rfl rfl (any_of HT_.out (by kernel_rfl)) (fun _ _ _ h => h) (Or.inr ⟨by rfl, rfl⟩) ?_ ?_
        rotate_left
        · simp only [Act.put, s15q0, s15q1, s15q2, i64_w, i32_w]
          rfl
        refine pure_ (i := 22) (N := some 82) (v := undef) (a' := ?_) b15z60 rfl rfl (any_of HT_.out (by kernel_rfl)) (fun _ _ _ h => h) (Or.inr ⟨by rfl, rfl⟩) ?_ ?_
        rotate_left
        · simp only [Act.put, s15q0, s15q1, s15q2, i64_w, i32_w]
          rfl
        refine pure_ (i := 23) (N := some 83) (v := undef) (a' := ?_) b15z61 rfl rfl (any_of HT_.out (by kernel_rfl)) (fun _ _ _ h => h) (Or.inr ⟨by rfl, rfl⟩) ?_ ?_
        rotate_left
        · simp only [Act.put, s15q0, s15q1, s15q2, i64_w, i32_w]
          rfl
        refine pure_ (i := 24) (N := some 84) (v := undef) (a' := ?_) b15z62 rfl rfl (any_of HT_.out (by kernel_rfl)) (fun _ _ _ h => h) (Or.inr ⟨by rfl, rfl⟩) ?_ ?_
        rotate_left
        · simp only [Act.put, s15q0, s15q1, s15q2, i64_w, i32_w]
          rfl
        refine pure_ (i := 25) (N := some 85) (v := undef) (a' := ?_) b15z63 rfl rfl (any_of HT_.out (by kernel_rfl)) (fun _ _ _ h => h) (Or.inr ⟨by rfl, rfl⟩) ?_ ?_
        rotate_left
        · simp only [Act.put, s15q0, s15q1, s15q2, i64_w, i32_w]
          rfl
        refine pure_ (i := 26) (N := some 86) (v := undef) (a' := ?_) b15z64 rfl rfl (any_of HT_.out (by kernel_rfl)) (fun _ _ _ h => h) (Or.inr ⟨by rfl, rfl⟩) ?_ ?_
        rotate_left
        · simp only [Act.put, s15q0, s15q1, s15q2, i64_w, i32_w]
          rfl
        refine pure_ (i := 27) (N := some 87) (v := undef) (a' := ?_) b15z65 rfl rfl (any_of HT_.out (by kernel_rfl)) (fun _ _ _ h => h) (Or.inr ⟨by rfl, rfl⟩) ?_ ?_
        rotate_left
        · simp only [Act.put, s15q0, s15q1, s15q2, i64_w, i32_w]
          rfl
        refine pure_ (i := 28) (N := some 88) (v := ?_) (a' := ?_) b15z66 rfl rfl (any_of HT_.out (by kernel_rfl)) (fun _ _ _ h => h) (Or.inl ⟨by rfl, ?_⟩) ?_ ?_
        rotate_left
        · intro w'
          go_simp
          with_reducible rfl
        rotate_left
        · simp only [Act.put, s15q0, s15q1, s15q2, i64_w, i32_w]
          rfl
        refine done_ (done_of HT_.out (by kernel_rfl)) ?_
        try go_wp2_with (fail)
        go_meet
        case rel => exact ⟨_, (true), (by first | rfl | (simp; done) | (simp [*]; done)), H', ⟨by have := HK1.out; have := HJ26.out; have := HK3.out; have := HJ35.out; first | omega | exact Nat.le_refl _⟩, ⟨by (with_reducible repeat (first | apply Kd.S_alloc | apply Kd.S_drewN | apply Kd.S_drew)); exact HO_8.out⟩, ⟨by (with_reducible repeat (first | apply Kd.S_alloc | apply Kd.S_drewN | apply Kd.S_drew)); exact HO_141000.out⟩, ⟨by (with_reducible repeat (first | apply Kd.R_alloc | apply Kd.R_drewN | apply Kd.R_drew)); exact HO_145001.out⟩, ⟨by (with_reducible repeat (first | apply Kd.R_alloc | apply Kd.R_drewN | apply Kd.R_drew)); exact HO_145002.out⟩, ⟨by (with_reducible repeat (first | refine blk_drewN ?_ _ | refine blk_drew ?_ | refine blk_alloc ?_ _)); exact BK135.out⟩, ⟨by (with_reducible repeat (first | refine blk_drewN ?_ _ | refine blk_drew ?_ | refine blk_alloc ?_ _)); exact BK136.out⟩, ⟨by (with_reducible repeat (first | refine blk_drewN ?_ _ | refine blk_drew ?_ | refine blk_alloc ?_ _)); exact BK139.out⟩, ⟨by (with_reducible repeat (first | refine blk_drewN ?_ _ | refine blk_drew ?_ | refine blk_alloc ?_ _)); exact BK140.out⟩, ⟨by (with_reducible repeat (first | refine blk_drewN ?_ _ | refine blk_drew ?_ | refine blk_alloc ?_ _)); exact BK144.out⟩, ⟨by repeat (first | (with_reducible first | exact HB.out | apply below_alloc | apply pw_below_drewN | apply below_drew1 | refine below_set ?_ GE135.out | refine below_set ?_ GE136.out | refine below_set ?_ GE139.out | refine below_set ?_ GE140.out | refine below_set ?_ GE144.out) | exact HB.out)⟩⟩
      rw [if_neg c55] at H
      have c55b0 : (x10_3 == (l1.length : Int)) = false := beq_eq_false_iff_ne.mpr c55
      have c55b1 : (x10_3 != (l1.length : Int)) = true := bne_iff_ne.mpr c55
      (first | rw [c55b0] | (simp only [i64_w, i32_w]; rw [c55b0]) | skip)
      by_cases c57 : x9_3 < (l0.length : Int)
      · rw [if_pos c57] at H
        have c57b0 : decide (x9_3 < (l0.length : Int)) = true := decide_eq_true c57
        clear c57
        obtain ⟨ji58, hji58⟩ : ∃ j_ : Int, (wrap64 (x9_3 + 1)) = j_ := ⟨_, rfl⟩
        replace H : (if 0 ≤ (ji58) then (if (ji58) < (t141.length : Int) then (if 0 ≤ x10_3 then (if x10_3 < ((rd_L4 t141 (ji58)).length : Int) then (if 0 ≤ x9_3 then (if x9_3 < (t141.length : Int) then (if 0 ≤ (wrap64 (x10_3 + 1)) then (if (wrap64 (x10_3 + 1)) < ((rd_L4 t141 x9_3).length : Int) then (diff_Script.j4 kj35 l0 l1 t141 x9_3 x10_3 (decide ((rd (rd_L4 t141 (ji58)) x10_3) ≥ (rd (rd_L4 t141 x9_3) (wrap64 (x10_3 + 1))))) x141000_1 x9_1 x145001_3 x145002_3) else (none)) else (none)) else (none)) else (none)) else (none)) else (none)) else (none)) else (none)) = some (r1, r2, r3) := by first | (rw [hji58] at H; exact H) | (simp only [hji58] at H ⊢; exact H)
        have hji58w : (IntKind.i64.wrap (x9_3 + 1)) = ji58 := (i64_w _).trans hji58
        by_cases c59 : 0 ≤ (ji58)
        · rw [if_pos c59] at H
          have c59b0 : decide (0 ≤ (ji58)) = true := decide_eq_true c59
          clear c59
          by_cases c60 : (ji58) < (t141.length : Int)
          · rw [if_pos c60] at H
            have c60b0 : decide ((ji58) < (t141.length : Int)) = true := decide_eq_true c60
            clear c60
            by_cases c61 : 0 ≤ x10_3
            · rw [if_pos c61] at H
              have c61b0 : decide (0 ≤ x10_3) = true := decide_eq_true c61
              clear c61
              by_cases c62 : x10_3 < ((rd_L4 t141 (ji58)).length : Int)
              · rw [if_pos c62] at H
                have c62b0 : decide (x10_3 < ((rd_L4 t141 (ji58)).length : Int)) = true := decide_eq_true c62
                clear c62
                by_cases c63 : 0 ≤ x9_3
                · rw [if_pos c63] at H
                  have c63b0 : decide (0 ≤ x9_3) = true := decide_eq_true c63
                  clear c63
                  by_cases c64 : x9_3 < (t141.length : Int)
                  · rw [if_pos c64] at H
                    have c64b0 : decide (x9_3 < (t141.length : Int)) = true := decide_eq_true c64
                    clear c64
                    obtain ⟨ji65, hji65⟩ : ∃ j_ : Int, (wrap64 (x10_3 + 1)) = j_ := ⟨_, rfl⟩
                    replace H : (if 0 ≤ (ji65) then (if (ji65) < ((rd_L4 t141 x9_3).length : Int) then (diff_Script.j4 kj35 l0 l1 t141 x9_3 x10_3 (decide ((rd (rd_L4 t141 (ji58)) x10_3) ≥ (rd (rd_L4 t141 x9_3) (ji65)))) x141000_1 x9_1 x145001_3 x145002_3) else (none)) else (none)) = some (r1, r2, r3) := by first | (rw [hji65] at H; exact H) | (simp only [hji65] at H ⊢; exact H)
                    have hji65w : (IntKind.i64.wrap (x10_3 + 1)) = ji65 := (i64_w _).trans hji65
                    by_cases c66 : 0 ≤ (ji65)
                    · rw [if_pos c66] at H
                      have c66b0 : decide (0 ≤ (ji65)) = true := decide_eq_true c66
                      clear c66
                      by_cases c67 : (ji65) < ((rd_L4 t141 x9_3).length : Int)
                      · rw [if_pos c67] at H
                        have c67b0 : decide ((ji65) < ((rd_L4 t141 x9_3).length : Int)) = true := decide_eq_true c67
                        clear c67
                        have H' := Aside0.mk H
                        clear H
                        try go_wp2_with (fail)
                        have n0_ := Aside0.mk (Kd.S_drew HO_8.out)
                        have n1_ := Aside0.mk (Kd.S_drew HO_141000.out)
                        have n2_ := Aside0.mk (Kd.R_drew HO_145001.out)
                        have n3_ := Aside0.mk (Kd.R_drew HO_145002.out)
                        have n4_ := Aside0.mk (blk_drew BK135.out)
                        have n5_ := Aside0.mk (blk_drew BK136.out)
                        have n6_ := Aside0.mk (blk_drew BK139.out)
                        have n7_ := Aside0.mk (blk_drew BK140.out)
                        have n8_ := Aside0.mk (blk_drew BK144.out)
                        have n9_ := Aside0.mk (below_drew1 HB.out)
                        clear HO_8
                        clear HO_141000
                        clear HO_145001
                        clear HO_145002
                        clear BK135
                        clear BK136
                        clear BK139
                        clear BK140
                        clear BK144
                        clear HB
                        have HO_8 := n0_
                        have HO_141000 := n1_
                        have HO_145001 := n2_
                        have HO_145002 := n3_
                        have BK135 := n4_
                        have BK136 := n5_
                        have BK139 := n6_
                        have BK140 := n7_
                        have BK144 := n8_
                        have HB := n9_
                        clear n0_ n1_ n2_ n3_ n4_ n5_ n6_ n7_ n8_ n9_
                        obtain ⟨Ao69, co69, eo69⟩ := Kd.S_slice HO_8.out
                        (first | subst eo69 | (injection eo69 with f1_ f2_ f3_; have f4_ := f1_.symm; have f5_ := f3_.symm; clear f1_ f2_ f3_; subst f4_; subst f5_))
                        have p147 : 0 ≤ ((ji58) : Int) := of_decide_eq_true (by first | (with_reducible assumption) | assumption)
                        have q147 : (ji58) < (t141.length : Int) := of_decide_eq_true (by first | (with_reducible assumption) | assumption)
                        obtain ⟨ad147, A147_0, c147_0, e147, hx147_0, hl147_0, hi147_0⟩ := at_L4 (Kd.S_reads' HO_8.out).2.2 (ji58) p147 q147
                        cases e147
                        obtain ⟨ce147, hce147, hMe147, hcc147⟩ := Kd.S_get HO_8.out [] (ji58) p147 (by first | exact q147 | exact of_decide_eq_true (by first | (with_reducible assumption) | assumption) | (have e_ := (Kd.S_reads' HO_8.out).1; omega))
                        obtain ⟨ve147_0, rfl, ge147_0⟩ := hMe147
                        have hv147_0 := hcc147 0 _ rfl
                        rw [Nat.add_zero, show ((Kd.slice 3 (Kd.int .i64))).sz = 1 from rfl, Nat.mul_one] at hv147_0
                        replace hv147_0 := Option.some.inj (hv147_0.symm.trans hx147_0)
                        rw [hv147_0] at ge147_0
                        have HL147_0 := Aside0.mk (show Kd.R (Kd.int .i64) 3 _ _ _ _ (rd_L4 t141 (ji58)) from ge147_0)
                        clear hv147_0 ge147_0
                        clear hcc147 hce147
                        have HR147_0 := Aside0.mk hi147_0
                        have HC147_0 := Aside0.mk hl147_0
                        clear hi147_0 hl147_0
                        replace p147 := eq_true p147
                        replace q147 := eq_true q147
                        have p148 : 0 ≤ (x10_3 : Int) := of_decide_eq_true (by first | (with_reducible assumption) | assumption)
                        have q148 : x10_3 < ((rd_L4 t141 (ji58)).length : Int) := of_decide_eq_true (by first | (with_reducible assumption) | assumption)
                        obtain ⟨ad148, e148, hx148_0⟩ := Kd.at_int (by repeat (first | (with_reducible exact HR147_0.out) | (with_reducible refine Kd.C_alloc ?_ _) | (with_reducible refine Kd.C_drewN ?_ _) | (with_reducible refine Kd.C_drew ?_) | exact HR147_0.out)) x10_3 p148 q148
                        cases e148
                        replace p148 := eq_true p148
                        replace q148 := eq_true q148
                        have p149 : 0 ≤ (x9_3 : Int) := of_decide_eq_true (by first | (with_reducible assumption) | assumption)
                        have q149 : x9_3 < (t141.length : Int) := of_decide_eq_true (by first | (with_reducible assumption) | assumption)
                        obtain ⟨ad149, A149_0, c149_0, e149, hx149_0, hl149_0, hi149_0⟩ := at_L4 (Kd.S_reads' HO_8.out).2.2 x9_3 p149 q149
                        obtain rfl : ad147 = ad149 := (by injection e149)
                        obtain ⟨ce149, hce149, hMe149, hcc149⟩ := Kd.S_get HO_8.out [] x9_3 p149 (by first | exact q149 | exact of_decide_eq_true (by first | (with_reducible assumption) | assumption) | (have e_ := (Kd.S_reads' HO_8.out).1; omega))
                        obtain ⟨ve149_0, rfl, ge149_0⟩ := hMe149
                        have hv149_0 := hcc149 0 _ rfl
                        rw [Nat.add_zero, show ((Kd.slice 3 (Kd.int .i64))).sz = 1 from rfl, Nat.mul_one] at hv149_0
                        replace hv149_0 := Option.some.inj (hv149_0.symm.trans hx149_0)
                        rw [hv149_0] at ge149_0
                        have HL149_0 := Aside0.mk (show Kd.R (Kd.int .i64) 3 _ _ _ _ (rd_L4 t141 x9_3) from ge149_0)
                        clear hv149_0 ge149_0
                        clear hcc149 hce149
                        have HR149_0 := Aside0.mk hi149_0
                        have HC149_0 := Aside0.mk hl149_0
                        clear hi149_0 hl149_0
                        replace p149 := eq_true p149
                        replace q149 := eq_true q149
                        have p150 : 0 ≤ ((ji65) : Int) := of_decide_eq_true (by first | (with_reducible assumption) | assumption)
                        have q150 : (ji65) < ((rd_L4 t141 x9_3).length : Int) := of_decide_eq_true (by first | (with_reducible assumption) | assumption)
                        obtain ⟨ad150, e150, hx150_0⟩ := Kd.at_int (by repeat (first | (with_reducible exact HR149_0.out) | (with_reducible refine Kd.C_alloc ?_ _) | (with_reducible refine Kd.C_drewN ?_ _) | (with_reducible refine Kd.C_drew ?_) | exact HR149_0.out)) (ji65) p150 q150
                        cases e150
                        replace p150 := eq_true p150
                        replace q150 := eq_true q150
                        refine start_ (n := 29) (S := fun w' => w'.cell? (ad147.add ((ji58)).toNat) = some (.slice (some ad148) (rd_L4 t141 (ji58)).length c147_0) ∧ w'.cell? (ad148.add (x10_3).toNat) = some (.int .i64 (rd (rd_L4 t141 (ji58)) x10_3)) ∧ w'.cell? (ad147.add (x9_3).toNat) = some (.slice (some ad150) (rd_L4 t141 x9_3).length c149_0) ∧ w'.cell? (ad150.add ((ji65)).toNat) = some (.int .i64 (rd (rd_L4 t141 x9_3) (ji65)))) (ds := []) b15z37 (by kernel_rfl) rfl rfl ⟨hx147_0, hx148_0, hx149_0, hx150_0⟩ (fun hHeld => ?_)
                        generalize wc.drew = w68 at HO_8 HO_141000 HO_145001 HO_145002 BK135 BK136 BK139 BK140 BK144 HB HL147_0 HL149_0 HR147_0 HR149_0 hx147_0 hx148_0 hx149_0 hx150_0 hHeld ⊢
                        refine pure_ (i := 0) (N := some 60) (v := ?_) (a' := ?_) b15z38 rfl rfl (by kernel_rfl) (fun _ _ _ h => h) (Or.inl ⟨by rfl, ?_⟩) ?_ ?_
                        rotate_left
                        · intro w'
                          go_simp
                          with_reducible rfl
                        rotate_left
                        · simp only [Act.put, s15q0, s15q1, s15q2, i64_w, i32_w]
                          rfl
                        refine pure_ (i := 1) (N := some 61) (v := ?_) (a' := ?_) b15z39 rfl rfl (by kernel_rfl) (fun _ _ _ h => h) (Or.inl ⟨by rfl, ?_⟩) ?_ ?_
                        rotate_left
                        · intro w'
                          go_simp
                          with_reducible rfl
                        rotate_left
                        · simp only [Act.put, s15q0, s15q1, s15q2, i64_w, i32_w]
                          rfl
                        refine pure_ (i := 2) (N := some 62) (v := ?_) (a' := ?_) b15z40 rfl rfl (by kernel_rfl) (fun _ _ _ h => h) (Or.inl ⟨by rfl, ?_⟩) ?_ ?_
                        rotate_left
                        · intro w'
                          go_simp
                          with_reducible rfl
                        rotate_left
                        · simp only [Act.put, s15q0, s15q1, s15q2, i64_w, i32_w]
                          rfl
                        refine pure_ (i := 3) (N := some 63) (v := ?_) (a' := ?_) b15z41 rfl rfl (by kernel_rfl) (fun _ _ _ h => h) (Or.inl ⟨by rfl, ?_⟩) ?_ ?_
                        rotate_left
                        · intro w'
                          go_simp
                          with_reducible rfl
                        rotate_left
                        · simp only [Act.put, s15q0, s15q1, s15q2, i64_w, i32_w]
                          rfl
                        refine pure_ (i := 4) (N := some 64) (v := ?_) (a' := ?_) b15z42 rfl rfl (by kernel_rfl) (fun _ _ _ h => h) (Or.inl ⟨by rfl, ?_⟩) ?_ ?_
                        rotate_left
                        · intro w'
                          go_simp
                          with_reducible rfl
                        rotate_left
                        · simp only [Act.put, s15q0, s15q1, s15q2, i64_w, i32_w]
                          rfl
                        refine pure_ (i := 5) (N := some 65) (v := ?_) (a' := ?_) b15z43 rfl rfl (by kernel_rfl) (fun _ _ _ h => h) (Or.inl ⟨by rfl, ?_⟩) ?_ ?_
                        rotate_left
                        · intro w'
                          go_simp
                          with_reducible rfl
                        rotate_left
                        · simp only [Act.put, s15q0, s15q1, s15q2, i64_w, i32_w]
                          rfl
                        refine pure_ (i := 6) (N := some 66) (v := ?_) (a' := ?_) b15z44 rfl rfl (by kernel_rfl) (fun _ _ _ h => h) (Or.inl ⟨by rfl, ?_⟩) ?_ ?_
                        rotate_left
                        · intro w'
                          go_simp
                          with_reducible rfl
                        rotate_left
                        · simp only [Act.put, s15q0, s15q1, s15q2, i64_w, i32_w]
                          rfl
                        refine pure_ (i := 7) (N := some 67) (v := ?_) (a' := ?_) b15z45 rfl rfl (by kernel_rfl) (fun _ _ _ h => h) (Or.inl ⟨by rfl, ?_⟩) ?_ ?_
                        rotate_left
                        · intro w'
                          go_simp
                          with_reducible rfl
                        rotate_left
                        · simp only [Act.put, s15q0, s15q1, s15q2, i64_w, i32_w]
                          rfl
                        refine pure_ (i := 8) (N := some 68) (v := ?_) (a' := ?_) b15z46 rfl rfl (by kernel_rfl) (fun _ _ _ h => h) (Or.inl ⟨by rfl, ?_⟩) ?_ ?_
                        rotate_left
                        · intro w'
                          go_simp
                          with_reducible rfl
                        rotate_left
                        · simp only [Act.put, s15q0, s15q1, s15q2, i64_w, i32_w]
                          rfl
                        refine pure_ (i := 9) (N := some 69) (v := ?_) (a' := ?_) b15z47 rfl rfl (by kernel_rfl) (fun _ _ _ h => h) (Or.inl ⟨by rfl, ?_⟩) ?_ ?_
                        rotate_left
                        · intro w'
                          go_simp
                          with_reducible rfl
                        rotate_left
                        · simp only [Act.put, s15q0, s15q1, s15q2, i64_w, i32_w]
                          rfl
                        refine pure_ (i := 10) (N := some 70) (v := ?_) (a' := ?_) b15z48 rfl rfl (by kernel_rfl) (fun _ _ _ h => h) (Or.inl ⟨by rfl, ?_⟩) ?_ ?_
                        rotate_left
                        · intro w'
                          go_simp
                          with_reducible rfl
                        rotate_left
                        · simp only [Act.put, s15q0, s15q1, s15q2, i64_w, i32_w]
                          rfl
                        refine pure_ (i := 11) (N := some 71) (v := ?_) (a' := ?_) b15z49 rfl rfl (by kernel_rfl) (fun _ _ _ h => h) (Or.inl ⟨by rfl, ?_⟩) ?_ ?_
                        rotate_left
                        · intro w'
                          go_simp
                          with_reducible rfl
                        rotate_left
                        · simp only [Act.put, s15q0, s15q1, s15q2, i64_w, i32_w]
                          rfl
                        refine pure_ (i := 12) (N := some 72) (v := ?_) (a' := ?_) b15z50 rfl rfl (by kernel_rfl) (fun _ _ _ h => h) (Or.inl ⟨by rfl, ?_⟩) ?_ ?_
                        rotate_left
                        · intro w'
                          go_simp
                          with_reducible rfl
                        rotate_left
                        · simp only [Act.put, s15q0, s15q1, s15q2, i64_w, i32_w]
                          rfl
                        refine pure_ (i := 13) (N := some 73) (v := ?_) (a' := ?_) b15z51 rfl rfl (by kernel_rfl) (fun _ _ _ h => h) (Or.inl ⟨by rfl, ?_⟩) ?_ ?_
                        rotate_left
                        · intro w'
                          go_simp
                          with_reducible rfl
                        rotate_left
                        · simp only [Act.put, s15q0, s15q1, s15q2, i64_w, i32_w]
                          rfl
                        refine pure_ (i := 15) (N := some 75) (v := ?_) (a' := ?_) b15z67 rfl rfl (by kernel_rfl) (fun _ _ _ h => h) (Or.inl ⟨by rfl, ?_⟩) ?_ ?_
                        rotate_left
                        · intro w'
                          go_simp
                          with_reducible rfl
                        rotate_left
                        · simp only [Act.put, s15q0, s15q1, s15q2, i64_w, i32_w]
                          rfl
                        refine pure_ (i := 18) (N := some 78) (v := ?_) (a' := ?_) b15z68 rfl rfl (by kernel_rfl) (fun _ _ _ h => h) (Or.inl ⟨by rfl, ?_⟩) ?_ ?_
                        rotate_left
                        · intro w'
                          go_simp
                          with_reducible rfl
                        rotate_left
                        · simp only [Act.put, s15q0, s15q1, s15q2, i64_w, i32_w]
                          rfl
                        refine pure_ (i := 19) (N := some 79) (v := ?_) (a' := ?_) b15z69 rfl rfl (by kernel_rfl) (fun _ _ _ h => h) (Or.inl ⟨by rfl, ?_⟩) ?_ ?_
                        rotate_left
                        · intro w'
                          go_simp
                          with_reducible rfl
                        rotate_left
                        · simp only [Act.put, s15q0, s15q1, s15q2, i64_w, i32_w]
                          rfl
                        refine pure_ (i := 20) (N := some 80) (v := ?_) (a' := ?_) b15z70 rfl rfl (by kernel_rfl) (fun _ _ _ h => h) (Or.inl ⟨by rfl, ?_⟩) ?_ ?_
                        rotate_left
                        · intro w'
                          go_simp
                          with_reducible rfl
                        rotate_left
                        · simp only [Act.put, s15q0, s15q1, s15q2, i64_w, i32_w]
                          rfl
                        refine pure_ (i := 22) (N := some 82) (v := ?_) (a' := ?_) b15z71 rfl rfl (by kernel_rfl) (fun _ _ _ h => h) (Or.inl ⟨by rfl, ?_⟩) ?_ ?_
                        rotate_left
                        · intro w'
                          go_simp
                          with_reducible rfl
                        rotate_left
                        · simp only [Act.put, s15q0, s15q1, s15q2, i64_w, i32_w]
                          rfl
                        refine pure_ (i := 23) (N := some 83) (v := ?_) (a' := ?_) b15z72 rfl rfl (by kernel_rfl) (fun _ _ _ h => h) (Or.inl ⟨by rfl, ?_⟩) ?_ ?_
                        rotate_left
                        · intro w'
                          go_simp
                          with_reducible rfl
                        rotate_left
                        · simp only [Act.put, s15q0, s15q1, s15q2, i64_w, i32_w]
                          rfl
                        refine take_ (i := 14) (N := some 74) (v := ?_) (a' := ?_) b15z73 rfl rfl (by kernel_rfl) (fun _ _ _ h => h) (Or.inl ⟨by rfl, ?_⟩) hHeld ?_ ?_
                        rotate_left
                        · rintro w' ⟨s0, s1, s2, s3⟩
                          go_simp
                          with_reducible rfl
                        rotate_left
                        · simp only [Act.put, s15q0, s15q1, s15q2, i64_w, i32_w]
                          rfl
                        refine pure_ (i := 16) (N := some 76) (v := ?_) (a' := ?_) b15z74 rfl rfl (by kernel_rfl) (fun _ _ _ h => h) (Or.inl ⟨by rfl, ?_⟩) ?_ ?_
                        rotate_left
                        · intro w'
                          go_simp
                          with_reducible rfl
                        rotate_left
                        · simp only [Act.put, s15q0, s15q1, s15q2, i64_w, i32_w]
                          rfl
                        refine take_ (i := 17) (N := some 77) (v := ?_) (a' := ?_) b15z75 rfl rfl (by kernel_rfl) (fun _ _ _ h => h) (Or.inl ⟨by rfl, ?_⟩) hHeld ?_ ?_
                        rotate_left
                        · rintro w' ⟨s0, s1, s2, s3⟩
                          go_simp
                          with_reducible rfl
                        rotate_left
                        · simp only [Act.put, s15q0, s15q1, s15q2, i64_w, i32_w]
                          rfl
                        refine take_ (i := 21) (N := some 81) (v := ?_) (a' := ?_) b15z61 rfl rfl (by kernel_rfl) (fun _ _ _ h => h) (Or.inl ⟨by rfl, ?_⟩) hHeld ?_ ?_
                        rotate_left
                        · rintro w' ⟨s0, s1, s2, s3⟩
                          go_simp
                          with_reducible rfl
                        rotate_left
                        · simp only [Act.put, s15q0, s15q1, s15q2, i64_w, i32_w]
                          rfl
                        refine pure_ (i := 24) (N := some 84) (v := ?_) (a' := ?_) b15z62 rfl rfl (by kernel_rfl) (fun _ _ _ h => h) (Or.inl ⟨by rfl, ?_⟩) ?_ ?_
                        rotate_left
                        · intro w'
                          go_simp
                          with_reducible rfl
                        rotate_left
                        · simp only [Act.put, s15q0, s15q1, s15q2, i64_w, i32_w]
                          rfl
                        refine take_ (i := 25) (N := some 85) (v := ?_) (a' := ?_) b15z63 rfl rfl (by kernel_rfl) (fun _ _ _ h => h) (Or.inl ⟨by rfl, ?_⟩) hHeld ?_ ?_
                        rotate_left
                        · rintro w' ⟨s0, s1, s2, s3⟩
                          go_simp
                          with_reducible rfl
                        rotate_left
                        · simp only [Act.put, s15q0, s15q1, s15q2, i64_w, i32_w]
                          rfl
                        refine pure_ (i := 26) (N := some 86) (v := ?_) (a' := ?_) b15z64 rfl rfl (by kernel_rfl) (fun _ _ _ h => h) (Or.inl ⟨by rfl, ?_⟩) ?_ ?_
                        rotate_left
                        · intro w'
                          go_simp
                          with_reducible rfl
                        rotate_left
                        · simp only [Act.put, s15q0, s15q1, s15q2, i64_w, i32_w]
                          rfl
                        refine pure_ (i := 27) (N := some 87) (v := ?_) (a' := ?_) b15z65 rfl rfl (by kernel_rfl) (fun _ _ _ h => h) (Or.inl ⟨by rfl, ?_⟩) ?_ ?_
                        rotate_left
                        · intro w'
                          go_simp
                          with_reducible rfl
                        rotate_left
                        · simp only [Act.put, s15q0, s15q1, s15q2, i64_w, i32_w]
                          rfl
                        refine pure_ (i := 28) (N := some 88) (v := ?_) (a' := ?_) b15z66 rfl rfl (by kernel_rfl) (fun _ _ _ h => h) (Or.inl ⟨by rfl, ?_⟩) ?_ ?_
                        rotate_left
                        · intro w'
                          go_simp
                          with_reducible rfl
                        rotate_left
                        · simp only [Act.put, s15q0, s15q1, s15q2, i64_w, i32_w]
                          rfl
                        refine done_ (by kernel_rfl) ?_
                        try go_wp2_with (fail)
                        go_meet
                        case rel => exact ⟨_, (decide ((rd (rd_L4 t141 (ji58)) x10_3) ≥ (rd (rd_L4 t141 x9_3) (ji65)))), (by first | rfl | (simp; done) | (simp only [← hji58, ← hji65] <;> (first | rfl | simp)) | (simp [*]; done)), H', ⟨by have := HK1.out; have := HJ26.out; have := HK3.out; have := HJ35.out; first | omega | exact Nat.le_refl _⟩, ⟨by (with_reducible repeat (first | apply Kd.S_alloc | apply Kd.S_drewN | apply Kd.S_drew)); exact HO_8.out⟩, ⟨by (with_reducible repeat (first | apply Kd.S_alloc | apply Kd.S_drewN | apply Kd.S_drew)); exact HO_141000.out⟩, ⟨by (with_reducible repeat (first | apply Kd.R_alloc | apply Kd.R_drewN | apply Kd.R_drew)); exact HO_145001.out⟩, ⟨by (with_reducible repeat (first | apply Kd.R_alloc | apply Kd.R_drewN | apply Kd.R_drew)); exact HO_145002.out⟩, ⟨by (with_reducible repeat (first | refine blk_drewN ?_ _ | refine blk_drew ?_ | refine blk_alloc ?_ _)); exact BK135.out⟩, ⟨by (with_reducible repeat (first | refine blk_drewN ?_ _ | refine blk_drew ?_ | refine blk_alloc ?_ _)); exact BK136.out⟩, ⟨by (with_reducible repeat (first | refine blk_drewN ?_ _ | refine blk_drew ?_ | refine blk_alloc ?_ _)); exact BK139.out⟩, ⟨by (with_reducible repeat (first | refine blk_drewN ?_ _ | refine blk_drew ?_ | refine blk_alloc ?_ _)); exact BK140.out⟩, ⟨by (with_reducible repeat (first | refine blk_drewN ?_ _ | refine blk_drew ?_ | refine blk_alloc ?_ _)); exact BK144.out⟩, ⟨by repeat (first | (with_reducible first | exact HB.out | apply below_alloc | apply pw_below_drewN | apply below_drew1 | refine below_set ?_ GE135.out | refine below_set ?_ GE136.out | refine below_set ?_ GE139.out | refine below_set ?_ GE140.out | refine below_set ?_ GE144.out) | exact HB.out)⟩⟩
                      rw [if_neg c67] at H
                      exact absurd H (by simp)
                    rw [if_neg c66] at H
                    exact absurd H (by simp)
                  rw [if_neg c64] at H
                  exact absurd H (by simp)
                rw [if_neg c63] at H
                exact absurd H (by simp)
              rw [if_neg c62] at H
              exact absurd H (by simp)
            rw [if_neg c61] at H
            exact absurd H (by simp)
          rw [if_neg c60] at H
          exact absurd H (by simp)
        rw [if_neg c59] at H
        exact absurd H (by simp)
      rw [if_neg c57] at H
      have c57b0 : decide (x9_3 < (l0.length : Int)) = false := decide_eq_false c57
      clear c57
      have H' := Aside0.mk H
      clear H
      try go_wp2_with (fail)
      have n0_ := Aside0.mk (Kd.S_drew HO_8.out)
      have n1_ := Aside0.mk (Kd.S_drew HO_141000.out)
      have n2_ := Aside0.mk (Kd.R_drew HO_145001.out)
      have n3_ := Aside0.mk (Kd.R_drew HO_145002.out)
      have n4_ := Aside0.mk (blk_drew BK135.out)
      have n5_ := Aside0.mk (blk_drew BK136.out)
      have n6_ := Aside0.mk (blk_drew BK139.out)
      have n7_ := Aside0.mk (blk_drew BK140.out)
      have n8_ := Aside0.mk (blk_drew BK144.out)
      have n9_ := Aside0.mk (below_drew1 HB.out)
      clear HO_8
      clear HO_141000
      clear HO_145001
      clear HO_145002
      clear BK135
      clear BK136
      clear BK139
      clear BK140
      clear BK144
      clear HB
      have HO_8 := n0_
      have HO_141000 := n1_
      have HO_145001 := n2_
      have HO_145002 := n3_
      have BK135 := n4_
      have BK136 := n5_
      have BK139 := n6_
      have BK140 := n7_
      have BK144 := n8_
      have HB := n9_
      clear n0_ n1_ n2_ n3_ n4_ n5_ n6_ n7_ n8_ n9_
      refine start_ (n := 29) (S := fun w' => True) (ds := []) b15z37 (by kernel_rfl) rfl rfl trivial (fun hHeld => ?_); refine with_tabW diff_Script_i22.tab5 diff_Script_i22.bits5 (fun HT_ HW_ => ?_)
      generalize wc.drew = w70 at HO_8 HO_141000 HO_145001 HO_145002 BK135 BK136 BK139 BK140 BK144 HB hHeld ⊢
      refine pure_ (i := 0) (N := some 60) (v := ?_) (a' := ?_) b15z38 rfl rfl (any_of HT_.out (by kernel_rfl)) (fun _ _ _ h => h) (Or.inl ⟨by rfl, ?_⟩) ?_ ?_
      rotate_left
      · intro w'
        go_simp
        with_reducible rfl
      rotate_left
      · simp only [Act.put, s15q0, s15q1, s15q2, i64_w, i32_w]
        rfl
      refine pure_ (i := 1) (N := some 61) (v := ?_) (a' := ?_) b15z39 rfl rfl (any_of HT_.out (by kernel_rfl)) (fun _ _ _ h => h) (Or.inl ⟨by rfl, ?_⟩) ?_ ?_
      rotate_left
      · intro w'
        go_simp
        with_reducible rfl
      rotate_left
      · simp only [Act.put, s15q0, s15q1, s15q2, i64_w, i32_w]
        rfl
      refine pure_ (i := 2) (N := some 62) (v := ?_) (a' := ?_) b15z40 rfl rfl (any_of HT_.out (by kernel_rfl)) (fun _ _ _ h => h) (Or.inl ⟨by rfl, ?_⟩) ?_ ?_
      rotate_left
      · intro w'
        go_simp
        with_reducible rfl
      rotate_left
      · simp only [Act.put, s15q0, s15q1, s15q2, i64_w, i32_w]
        rfl
      refine pure_ (i := 3) (N := some 63) (v := ?_) (a' := ?_) b15z41 rfl rfl (any_of HT_.out (by kernel_rfl)) (fun _ _ _ h => h) (Or.inl ⟨by rfl, ?_⟩) ?_ ?_
      rotate_left
      · intro w'
        go_simp
        with_reducible rfl
      rotate_left
      · simp only [Act.put, s15q0, s15q1, s15q2, i64_w, i32_w]
        rfl
      refine pure_ (i := 4) (N := some 64) (v := ?_) (a' := ?_) b15z42 rfl rfl (any_of HT_.out (by kernel_rfl)) (fun _ _ _ h => h) (Or.inl ⟨by rfl, ?_⟩) ?_ ?_
      rotate_left
      · intro w'
        go_simp
        with_reducible rfl
      rotate_left
      · simp only [Act.put, s15q0, s15q1, s15q2, i64_w, i32_w]
        rfl
      refine pure_ (i := 5) (N := some 65) (v := ?_) (a' := ?_) b15z43 rfl rfl (any_of HT_.out (by kernel_rfl)) (fun _ _ _ h => h) (Or.inl ⟨by rfl, ?_⟩) ?_ ?_
      rotate_left
      · intro w'
        go_simp
        with_reducible rfl
      rotate_left
      · simp only [Act.put, s15q0, s15q1, s15q2, i64_w, i32_w]
        rfl
      refine pure_ (i := 6) (N := some 66) (v := ?_) (a' := ?_) b15z44 rfl rfl (any_of HT_.out (by kernel_rfl)) (fun _ _ _ h => h) (Or.inl ⟨by rfl, ?_⟩) ?_ ?_
      rotate_left
      · intro w'
        go_simp
        with_reducible rfl
      rotate_left
      · simp only [Act.put, s15q0, s15q1, s15q2, i64_w, i32_w]
        rfl
      refine pure_ (i := 7) (N := some 67) (v := ?_) (a' := ?_) b15z45 rfl rfl (any_of HT_.out (by kernel_rfl)) (fun _ _ _ h => h) (Or.inl ⟨by rfl, ?_⟩) ?_ ?_
      rotate_left
      · intro w'
        go_simp
        with_reducible rfl
      rotate_left
      · simp only [Act.put, s15q0, s15q1, s15q2, i64_w, i32_w]
        rfl
      refine pure_ (i := 8) (N := some 68) (v := ?_) (a' := ?_) b15z46 rfl rfl (any_of HT_.out (by kernel_rfl)) (fun _ _ _ h => h) (Or.inl ⟨by rfl, ?_⟩) ?_ ?_
      rotate_left
      · intro w'
        go_simp
        with_reducible rfl
      rotate_left
      · simp only [Act.put, s15q0, s15q1, s15q2, i64_w, i32_w]
        rfl
      refine pure_ (i := 9) (N := some 69) (v := ?_) (a' := ?_) b15z47 rfl rfl (any_of HT_.out (by kernel_rfl)) (fun _ _ _ h => h) (Or.inl ⟨by rfl, ?_⟩) ?_ ?_
      rotate_left
      · intro w'
        go_simp
        with_reducible rfl
      rotate_left
      · simp only [Act.put, s15q0, s15q1, s15q2, i64_w, i32_w]
        rfl
      refine pure_ (i := 10) (N := some 70) (v := undef) (a' := ?_) b15z48 rfl rfl (any_of HT_.out (by kernel_rfl)) (fun _ _ _ h => h) (Or.inr ⟨by rfl, rfl⟩) ?_ ?_
      rotate_left
      · simp only [Act.put, s15q0, s15q1, s15q2, i64_w, i32_w]
        rfl
      refine pure_ (i := 11) (N := some 71) (v := undef) (a' := ?_) b15z49 rfl rfl (any_of HT_.out (by kernel_rfl)) (fun _ _ _ h => h) (Or.inr ⟨by rfl, rfl⟩) ?_ ?_
      rotate_left
      · simp only [Act.put, s15q0, s15q1, s15q2, i64_w, i32_w]
        rfl
      refine pure_ (i := 12) (N := some 72) (v := undef) (a' := ?_) b15z50 rfl rfl (any_of HT_.out (by kernel_rfl)) (fun _ _ _ h => h) (Or.inr ⟨by rfl, rfl⟩) ?_ ?_
      rotate_left
      · simp only [Act.put, s15q0, s15q1, s15q2, i64_w, i32_w]
        rfl
      refine pure_ (i := 13) (N := some 73) (v := undef) (a' := ?_) b15z51 rfl rfl (any_of HT_.out (by kernel_rfl)) (fun _ _ _ h => h) (Or.inr ⟨by rfl, rfl⟩) ?_ ?_
      rotate_left
      · simp only [Act.put, s15q0, s15q1, s15q2, i64_w, i32_w]
        rfl
      refine pure_ (i := 14) (N := some 74) (v := undef) (a' := ?_) b15z52 rfl rfl (any_of HT_.out (by kernel_rfl)) (fun _ _ _ h => h) (Or.inr ⟨by rfl, rfl⟩) ?_ ?_
      rotate_left
      · simp only [Act.put, s15q0, s15q1, s15q2, i64_w, i32_w]
        rfl
      refine pure_ (i := 15) (N := some 75) (v := undef) (a' := ?_) b15z53 rfl rfl (any_of HT_.out (by kernel_rfl)) (fun _ _ _ h => h) (Or.inr ⟨by rfl, rfl⟩) ?_ ?_
      rotate_left
      · simp only [Act.put, s15q0, s15q1, s15q2, i64_w, i32_w]
        rfl
      refine pure_ (i := 16) (N := some 76) (v := undef) (a' := ?_) b15z54 rfl rfl (any_of HT_.out (by kernel_rfl)) (fun _ _ _ h => h) (Or.inr ⟨by rfl, rfl⟩) ?_ ?_
      rotate_left
      · simp only [Act.put, s15q0, s15q1, s15q2, i64_w, i32_w]
        rfl
      refine pure_ (i := 17) (N := some 77) (v := undef) (a' := ?_) b15z55 rfl rfl (any_of HT_.out (by kernel_rfl)) (fun _ _ _ h => h) (Or.inr ⟨by rfl, rfl⟩) ?_ ?_
      rotate_left
      · simp only [Act.put, s15q0, s15q1, s15q2, i64_w, i32_w]
        rfl
      refine pure_ (i := 18) (N := some 78) (v := undef) (a' := ?_) b15z56 rfl rfl (any_of HT_.out (by kernel_rfl)) (fun _ _ _ h => h) (Or.inr ⟨by rfl, rfl⟩) ?_ ?_
      rotate_left
      · simp only [Act.put, s15q0, s15q1, s15q2, i64_w, i32_w]
        rfl
      refine pure_ (i := 19) (N := some 79) (v := undef) (a' := ?_) b15z57 rfl rfl (any_of HT_.out (by kernel_rfl)) (fun _ _ _ h => h) (Or.inr ⟨by rfl, rfl⟩) ?_ ?_
      rotate_left
      · simp only [Act.put, s15q0, s15q1, s15q2, i64_w, i32_w]
        rfl
      refine pure_ (i := 20) (N := some 80) (v := undef) (a' := ?_) b15z58 rfl rfl (any_of HT_.out (by kernel_rfl)) (fun _ _ _ h => h) (Or.inr ⟨by rfl, rfl⟩) ?_ ?_
      rotate_left
      · simp only [Act.put, s15q0, s15q1, s15q2, i64_w, i32_w]
        rfl
      refine pure_ (i := 21) (N := some 81) (v := undef) (a' := ?_) b15z59 rfl rfl (any_of HT_.out (by kernel_rfl)) (fun _ _ _ h => h) (Or.inr ⟨by rfl, rfl⟩) ?_ ?_
      rotate_left
      · simp only [Act.put, s15q0, s15q1, s15q2, i64_w, i32_w]
        rfl
      refine pure_ (i := 22) (N := some 82) (v := undef) (a' := ?_) b15z60 rfl rfl (any_of HT_.out (by kernel_rfl)) (fun _ _ _ h => h) (Or.inr ⟨by rfl, rfl⟩) ?_ ?_
      rotate_left
      · simp only [Act.put, s15q0, s15q1, s15q2, i64_w, i32_w]
        rfl
      refine pure_ (i := 23) (N := some 83) (v := undef) (a' := ?_) b15z61 rfl rfl (any_of HT_.out (by kernel_rfl)) (fun _ _ _ h => h) (Or.inr ⟨by rfl, rfl⟩) ?_ ?_
      rotate_left
      · simp only [Act.put, s15q0, s15q1, s15q2, i64_w, i32_w]
        rfl
      refine pure_ (i := 24) (N := some 84) (v := undef) (a' := ?_) b15z62 rfl rfl (any_of HT_.out (by kernel_rfl)) (fun _ _ _ h => h) (Or.inr ⟨by rfl, rfl⟩) ?_ ?_
      rotate_left
      · simp only [Act.put, s15q0, s15q1, s15q2, i64_w, i32_w]
        rfl
      refine pure_ (i := 25) (N := some 85) (v := undef) (a' := ?_) b15z63 rfl rfl (any_of HT_.out (by kernel_rfl)) (fun _ _ _ h => h) (Or.inr ⟨by rfl, rfl⟩) ?_ ?_
      rotate_left
      · simp only [Act.put, s15q0, s15q1, s15q2, i64_w, i32_w]
        rfl
      refine pure_ (i := 26) (N := some 86) (v := undef) (a' := ?_) b15z64 rfl rfl (any_of HT_.out (by kernel_rfl)) (fun _ _ _ h => h) (Or.inr ⟨by rfl, rfl⟩) ?_ ?_
      rotate_left
      · simp only [Act.put, s15q0, s15q1, s15q2, i64_w, i32_w]
        rfl
      refine pure_ (i := 27) (N := some 87) (v := ?_) (a' := ?_) b15z65 rfl rfl (any_of HT_.out (by kernel_rfl)) (fun _ _ _ h => h) (Or.inl ⟨by rfl, ?_⟩) ?_ ?_
      rotate_left
      · intro w'
        go_simp
        with_reducible rfl
      rotate_left
      · simp only [Act.put, s15q0, s15q1, s15q2, i64_w, i32_w]
        rfl
      refine pure_ (i := 28) (N := some 88) (v := ?_) (a' := ?_) b15z66 rfl rfl (any_of HT_.out (by kernel_rfl)) (fun _ _ _ h => h) (Or.inl ⟨by rfl, ?_⟩) ?_ ?_
      rotate_left
      · intro w'
        go_simp
        with_reducible rfl
      rotate_left
      · simp only [Act.put, s15q0, s15q1, s15q2, i64_w, i32_w]
        rfl
      refine done_ (done_of HT_.out (by kernel_rfl)) ?_
      try go_wp2_with (fail)
      go_meet
      case rel => exact ⟨_, (false), (by first | rfl | (simp; done) | (simp [*]; done)), H', ⟨by have := HK1.out; have := HJ26.out; have := HK3.out; have := HJ35.out; first | omega | exact Nat.le_refl _⟩, ⟨by (with_reducible repeat (first | apply Kd.S_alloc | apply Kd.S_drewN | apply Kd.S_drew)); exact HO_8.out⟩, ⟨by (with_reducible repeat (first | apply Kd.S_alloc | apply Kd.S_drewN | apply Kd.S_drew)); exact HO_141000.out⟩, ⟨by (with_reducible repeat (first | apply Kd.R_alloc | apply Kd.R_drewN | apply Kd.R_drew)); exact HO_145001.out⟩, ⟨by (with_reducible repeat (first | apply Kd.R_alloc | apply Kd.R_drewN | apply Kd.R_drew)); exact HO_145002.out⟩, ⟨by (with_reducible repeat (first | refine blk_drewN ?_ _ | refine blk_drew ?_ | refine blk_alloc ?_ _)); exact BK135.out⟩, ⟨by (with_reducible repeat (first | refine blk_drewN ?_ _ | refine blk_drew ?_ | refine blk_alloc ?_ _)); exact BK136.out⟩, ⟨by (with_reducible repeat (first | refine blk_drewN ?_ _ | refine blk_drew ?_ | refine blk_alloc ?_ _)); exact BK139.out⟩, ⟨by (with_reducible repeat (first | refine blk_drewN ?_ _ | refine blk_drew ?_ | refine blk_alloc ?_ _)); exact BK140.out⟩, ⟨by (with_reducible repeat (first | refine blk_drewN ?_ _ | refine blk_drew ?_ | refine blk_alloc ?_ _)); exact BK144.out⟩, ⟨by repeat (first | (with_reducible first | exact HB.out | apply below_alloc | apply pw_below_drewN | apply below_drew1 | refine below_set ?_ GE135.out | refine below_set ?_ GE136.out | refine below_set ?_ GE139.out | refine below_set ?_ GE140.out | refine below_set ?_ GE144.out) | exact HB.out)⟩⟩
     clear HC54
     try clear c1
     try clear p1
     try clear q1
     try clear hx1
     try clear p2
     try clear c5
     try clear c6
     try clear p6
     try clear c14
     try clear p14
     try clear q14
     try clear hx14
     try clear p15
     try clear q15
     try clear hx15
     try clear c55
     try clear c55b0
     try clear c55b1
     try clear c57
     try clear c57b0
     try clear c59
     try clear c59b0
     try clear c60
     try clear c60b0
     try clear c61
     try clear c61b0
     try clear c62
     try clear c62b0
     try clear c63
     try clear c63b0
     try clear c64
     try clear c64b0
     try clear p64
     try clear c66
     try clear c66b0
     try clear c67
     try clear c67b0
     try clear hx147_0
     try clear hx148_0
     try clear hx149_0
     try clear hx150_0
     try clear p147
     try clear p148
     try clear p149
     try clear p150
     try clear q147
     try clear q148
     try clear q149
     try clear q150
     obtain ⟨kq, x88_53, rfl, HA, HJ53, HO_8, HO_141000, HO_145001, HO_145002, BK135, BK136, BK139, BK140, BK144, HB⟩ := hcut
     cases kq with
     | zero => exact absurd HA.out (by simp [diff_Script.j4])
     | succ kj53 =>
     have H := HA.out
     clear HA
     simp only [diff_Script.j4] at H
     by_cases c71 : x88_53 = true
     · subst c71
       have H1 : (if 0 ≤ x9_3 then (if x9_3 < (l0.length : Int) then (if x145001_3.length < 8796093022208 then (diff_Script.l1 kj53 l0 l1 t141 (wrap64 (x9_3 + 1)) x10_3 x141000_1 x9_1 (x145001_3 ++ [rdOf ByteArray.empty l0 x9_3]) x145002_3) else (none)) else (none)) else (none)) = some (r1, r2, r3) := by rw [if_pos rfl] at H; exact H
       clear H
       have H := H1
       clear H1
       by_cases c72 : 0 ≤ x9_3
       · rw [if_pos c72] at H
         have c72b0 : decide (0 ≤ x9_3) = true := decide_eq_true c72
         clear c72
         by_cases c73 : x9_3 < (l0.length : Int)
         · rw [if_pos c73] at H
           have c73b0 : decide (x9_3 < (l0.length : Int)) = true := decide_eq_true c73
           clear c73
           by_cases c74 : x145001_3.length < 8796093022208
           · rw [if_pos c74] at H
             have LMc74 := Aside0.mk c74
             clear c74
             obtain ⟨y152, hy152⟩ : ∃ y_ : List ByteArray, y_ = (x145001_3 ++ [rdOf ByteArray.empty l0 x9_3]) := ⟨_, rfl⟩
             replace H : (diff_Script.l1 kj53 l0 l1 t141 (wrap64 (x9_3 + 1)) x10_3 x141000_1 x9_1 y152 x145002_3) = some (r1, r2, r3) := by first | (rw [hy152]; with_reducible exact H) | (have H2_ := (Option.bind_some _ _).symm.trans H; rw [hy152]; with_reducible exact H2_) | (have H2_ := (Option.bind_some _ _).symm.trans H; with_reducible exact H2_) | with_reducible exact H | (rw [hy152]; exact H) | exact H
             have Ny152 := Aside0.mk hy152
             clear hy152
             have H' := Aside0.mk H
             clear H
             try go_wp2_with (fail)
             have n0_ := Aside0.mk (Kd.S_drew HO_8.out)
             have n1_ := Aside0.mk (Kd.S_drew HO_141000.out)
             have n2_ := Aside0.mk (Kd.R_drew HO_145001.out)
             have n3_ := Aside0.mk (Kd.R_drew HO_145002.out)
             have n4_ := Aside0.mk (blk_drew BK135.out)
             have n5_ := Aside0.mk (blk_drew BK136.out)
             have n6_ := Aside0.mk (blk_drew BK139.out)
             have n7_ := Aside0.mk (blk_drew BK140.out)
             have n8_ := Aside0.mk (blk_drew BK144.out)
             have n9_ := Aside0.mk (below_drew1 HB.out)
             clear HO_8
             clear HO_141000
             clear HO_145001
             clear HO_145002
             clear BK135
             clear BK136
             clear BK139
             clear BK140
             clear BK144
             clear HB
             have HO_8 := n0_
             have HO_141000 := n1_
             have HO_145001 := n2_
             have HO_145002 := n3_
             have BK135 := n4_
             have BK136 := n5_
             have BK139 := n6_
             have BK140 := n7_
             have BK144 := n8_
             have HB := n9_
             clear n0_ n1_ n2_ n3_ n4_ n5_ n6_ n7_ n8_ n9_
             have p151 : 0 ≤ (x9_3 : Int) := of_decide_eq_true (by first | (with_reducible assumption) | assumption)
             have q151 : x9_3 < (l0.length : Int) := of_decide_eq_true (by first | (with_reducible assumption) | assumption)
             obtain ⟨ad151, e151, hx151_0⟩ := Kd.at_string HR0.out x9_3 p151 q151
             have hw151_0 := hx151_0
             cases e151
             replace hx151_0 := (HB.out.cell (World.block_lt_of_cell? w _ hx151_0)).trans hx151_0
             replace p151 := eq_true p151
             replace q151 := eq_true q151
             refine start_ (n := 10) (S := fun w' => w'.cell? ⟨gb144, 0, none⟩ = some (.int .i64 x9_1) ∧ w'.cell? ⟨gb144, 1, none⟩ = some (u145001) ∧ w'.cell? ⟨gb144, 2, none⟩ = some (u145002) ∧ w'.cell? (ad151.add (x9_3).toNat) = some (.string (rdOf ByteArray.empty l0 x9_3))) (ds := [9]) #[false, false, false, false, false, false, false, false, false, false] (by kernel_rfl) rfl rfl ⟨(blk_cell BK144.out 0).trans rfl, (blk_cell BK144.out 1).trans rfl, (blk_cell BK144.out 2).trans rfl, ((HB.out.cell (World.block_lt_of_cell? w _ hw151_0)).trans hw151_0)⟩ (fun hHeld => ?_); refine with_tabW diff_Script_i22.tab6 diff_Script_i22.bits6 (fun HT_ HW_ => ?_)
             generalize wc.drew = w75 at HO_8 HO_141000 HO_145001 HO_145002 BK135 BK136 BK139 BK140 BK144 HB hx151_0 hHeld ⊢
             refine pure_ (i := 0) (N := some 89) (v := ?_) (a' := ?_) #[true, false, false, false, false, false, false, false, false, false] rfl rfl (any_of HT_.out (by kernel_rfl)) (fun _ _ _ h => h) (Or.inl ⟨by rfl, ?_⟩) ?_ ?_
             rotate_left
             · intro w'
               go_simp
               with_reducible rfl
             rotate_left
             · simp only [Act.put, s15q0, s15q1, s15q2, i64_w, i32_w]
               rfl
             refine pure_ (i := 2) (N := some 91) (v := ?_) (a' := ?_) #[true, false, true, false, false, false, false, false, false, false] rfl rfl (any_of HT_.out (by kernel_rfl)) (fun _ _ _ h => h) (Or.inl ⟨by rfl, ?_⟩) ?_ ?_
             rotate_left
             · intro w'
               go_simp
               with_reducible rfl
             rotate_left
             · simp only [Act.put, s15q0, s15q1, s15q2, i64_w, i32_w]
               rfl
             refine pure_ (i := 3) (N := some 92) (v := ?_) (a' := ?_) #[true, false, true, true, false, false, false, false, false, false] rfl rfl (any_of HT_.out (by kernel_rfl)) (fun _ _ _ h => h) (Or.inl ⟨by rfl, ?_⟩) ?_ ?_
             rotate_left
             · intro w'
               go_simp
               with_reducible rfl
             rotate_left
             · simp only [Act.put, s15q0, s15q1, s15q2, i64_w, i32_w]
               rfl
             refine pure_ (i := 4) (N := some 93) (v := ?_) (a' := ?_) #[true, false, true, true, true, false, false, false, false, false] rfl rfl (any_of HT_.out (by kernel_rfl)) (fun _ _ _ h => h) (Or.inl ⟨by rfl, ?_⟩) ?_ ?_
             rotate_left
             · intro w'
               go_simp
               with_reducible rfl
             rotate_left
             · simp only [Act.put, s15q0, s15q1, s15q2, i64_w, i32_w]
               rfl
             refine take_ (i := 1) (N := some 90) (v := ?_) (a' := ?_) #[true, true, true, true, true, false, false, false, false, false] rfl rfl (take_ofW HT_.out HW_.out (by kernel_rfl)) (fun _ _ _ h => h) (Or.inl ⟨by rfl, ?_⟩) hHeld ?_ ?_
             rotate_left
             · rintro w' ⟨s0, s1, s2, s3⟩
               go_simp
               with_reducible rfl
             rotate_left
             · simp only [Act.put, s15q0, s15q1, s15q2, i64_w, i32_w]
               rfl
             refine take_ (i := 5) (N := some 94) (v := ?_) (a' := ?_) #[true, true, true, true, true, true, false, false, false, false] rfl rfl (take_ofW HT_.out HW_.out (by kernel_rfl)) (fun _ _ _ h => h) (Or.inl ⟨by rfl, ?_⟩) hHeld ?_ ?_
             rotate_left
             · rintro w' ⟨s0, s1, s2, s3⟩
               go_simp
               with_reducible rfl
             rotate_left
             · simp only [Act.put, s15q0, s15q1, s15q2, i64_w, i32_w]
               rfl
             refine one_ (i := 6) (N := some 95) #[true, true, true, true, true, true, true, false, false, false] rfl rfl (one_of HT_.out (by kernel_rfl)) (by decide) (fun K hK => ?_)
             refine value_ (w1 := ?_) (v := ?_) (by rfl) rfl ?_ ?_
             rotate_left 2
             · go_simp
               constructor
               · rfl
               rfl
             refine hK.out _ _ ⟨(blk_cell (blk_alloc BK144.out _) 0).trans rfl, (blk_cell (blk_alloc BK144.out _) 1).trans rfl, (blk_cell (blk_alloc BK144.out _) 2).trans rfl, (World.cell?_alloc_lt _ _ _ (World.block_lt_of_cell? _ _ (((HB.out.cell (World.block_lt_of_cell? w _ hw151_0)).trans hw151_0)))).trans (((HB.out.cell (World.block_lt_of_cell? w _ hw151_0)).trans hw151_0))⟩ (fun hHeld => ?_)
             clear hK K
             refine norm_ (a' := ?_) ?_ ?_
             rotate_left
             · show Act.put _ (some 95) _ = _
               simp only [Act.put, s15q0, s15q1, s15q2, i64_w, i32_w]
               rfl
             refine one_ (i := 7) (N := some 96) #[true, true, true, true, true, true, true, true, false, false] rfl rfl (one_of HT_.out (by kernel_rfl)) (by decide) (fun K hK => ?_)
             refine Kd.R_append_step Kd.string (w0 := w) w.heap.size (by rfl) (.tmp 90) (.tmp 95) 31 9 (.string ⟨#[]⟩) 16 rfl Try.underlying31 info9 rfl (by decide) (by omega) u145001 x145001_3 (rdOf ByteArray.empty l0 x9_3) [.string (rdOf ByteArray.empty l0 x9_3)] (fun k_ => some k_ ≠ (u145002 : Value).ownBlock) (fun _ => False) rfl rfl ?aP (fun _ hk => hk.elim) ?aF ?aO ?aB ?aS ?aL ?_
             (case aP => exact rfl)
             (case aB => exact (hbw HB.out))
             (case aF => exact (fun k_ hk => Kd.fresh' (Kd.R_lt (kdR HO_145002.out)) k_ hk))
             (case aO => exact (kdR HO_145001.out))
             (case aS => exact (below_size (hbw HB.out)))
             (case aL => have := LMc74.out; omega)
             intro v153 w76 ho hb hg hat
             rw [← Ny152.out] at ho
             have n0_ := Aside0.mk (Kd.S_over' (kdS HO_8.out) (Kd.R_typed (kdR HO_145001.out)) (by decide) hg)
             have n1_ := Aside0.mk (Kd.S_after (ok := (fun k_ => some k_ ≠ (u145002 : Value).ownBlock ∧ k_ ≠ gb144)) (by (with_reducible repeat (first | apply Kd.S_alloc | apply Kd.S_drewN | apply Kd.S_drew)); exact Kd.S_mono HO_141000.out (fun _ hk => ⟨⟨hk.2.1, hk.2.2⟩, hk.1⟩)) hg hat)
             have n2_ := Aside0.mk (Kd.R_after (ok := (fun _ => True)) (by (with_reducible repeat (first | apply Kd.R_alloc | apply Kd.R_drewN | apply Kd.R_drew)); exact Kd.R_mono HO_145002.out (fun _ hk => ⟨trivial, hk⟩)) hg hat)
             have n3_ := Aside0.mk (blk_grown (g := gb135) (o := .cells #[.slice none 0 0] 38 (0, 0)) (bkw BK135.out) hg (Kd.R_ne HO_145001.out BK135.out (by decide)))
             have n4_ := Aside0.mk (blk_grown (g := gb136) (o := .cells #[.int .i64 0, .int .i64 0] 25 (0, 0)) (bkw BK136.out) hg (Kd.R_ne HO_145001.out BK136.out (by decide)))
             have n5_ := Aside0.mk (blk_grown (g := gb139) (o := .cells #[.int .i64 t137, .int .i64 t138] 25 (0, 0)) (bkw BK139.out) hg (Kd.R_ne HO_145001.out BK139.out (by decide)))
             have n6_ := Aside0.mk (blk_grown (g := gb140) (o := .cells #[u141000] 38 (0, 0)) (bkw BK140.out) hg (Kd.R_ne HO_145001.out BK140.out (by decide)))
             have n7_ := Aside0.mk (blk_grown (g := gb144) (o := .cells #[.int .i64 x9_1, u145001, u145002] 42 (0, 0)) (bkw BK144.out) hg (Kd.R_ne HO_145001.out BK144.out (by decide)))
             have n8_ := Aside0.mk (hb)
             have n9_ := Aside0.mk (ho)
             clear HO_8
             clear HO_141000
             clear HO_145002
             clear BK135
             clear BK136
             clear BK139
             clear BK140
             clear BK144
             clear HB
             clear HO_145001
             have HO_8 := n0_
             have HO_141000 := n1_
             have HO_145002 := n2_
             have BK135 := n3_
             have BK136 := n4_
             have BK139 := n5_
             have BK140 := n6_
             have BK144 := n7_
             have HB := n8_
             have HO154 := n9_
             clear n0_ n1_ n2_ n3_ n4_ n5_ n6_ n7_ n8_ n9_
             clear ho hb hg hat
             obtain ⟨Ao77, co77, eo77⟩ := Kd.R_slice HO154.out
             (first | subst eo77 | (injection eo77 with f1_ f2_ f3_; have f4_ := f1_.symm; have f5_ := f3_.symm; clear f1_ f2_ f3_; subst f4_; subst f5_))
             refine hK.out _ _ ⟨(blk_cell BK144.out 0).trans rfl, (blk_cell BK144.out 1).trans rfl, (blk_cell BK144.out 2).trans rfl, ((HB.out.cell (World.block_lt_of_cell? w _ hw151_0)).trans hw151_0)⟩ (fun hHeld => ?_)
             clear hK K
             refine norm_ (a' := ?_) ?_ ?_
             rotate_left
             · show Act.put _ (some 96) _ = _
               simp only [Act.put, s15q0, s15q1, s15q2, i64_w, i32_w]
               rfl
             refine pure_ (i := 8) (N := some 97) (v := ?_) (a' := ?_) #[true, true, true, true, true, true, true, true, true, false] rfl rfl (any_of HT_.out (by kernel_rfl)) (fun _ _ _ h => h) (Or.inl ⟨by rfl, ?_⟩) ?_ ?_
             rotate_left
             · intro w'
               go_simp
               with_reducible rfl
             rotate_left
             · simp only [Act.put, s15q0, s15q1, s15q2, i64_w, i32_w]
               rfl
             refine last_ (i := 9) (N := none) #[true, true, true, true, true, true, true, true, true, true] rfl rfl (one_of HT_.out (by kernel_rfl)) (by decide) (fun K hK => ?_)
             have hs78 : w76.cell? ⟨gb144, 1, none⟩ = some (u145001) := (blk_cell BK144.out 1).trans rfl
             have hfs78 := blk_frozen BK144.out 1
             have hns78_0 := NB135_144.out
             have hns78_1 := NB136_144.out
             have hns78_2 := NB139_144.out
             have hns78_3 := NB140_144.out
             have hms78_0 := NB144_135.out
             have hms78_1 := NB144_136.out
             have hms78_2 := NB144_139.out
             have hms78_3 := NB144_140.out
             refine skip_ (w1 := ?_) (by rfl) rfl ?_ ?_
             rotate_left
             · go_simp
               rfl
             refine hK.out _ _ ?_
             clear hK K
             refine done_ (done_of HT_.out (by kernel_rfl)) ?_
             try go_wp2_with (fail)
             go_roundg kj53
             case measure => have := HK1.out; have := HJ26.out; have := HK3.out; have := HJ35.out; have := HJ53.out; omega
             case rel => exact ⟨(wrap64 (x9_3 + 1)), (x10_3), (y152), (x145002_3), (.slice Ao77 y152.length co77), (u145002), (by first | rfl | (simp; done) | (simp [*]; done)), (by first | rfl | (simp; done) | (simp [*]; done)), H', ⟨by have := HK1.out; have := HJ26.out; have := HK3.out; have := HJ35.out; have := HJ53.out; omega⟩, ⟨by (with_reducible repeat (first | apply Kd.S_alloc | apply Kd.S_drewN | apply Kd.S_drew)); exact Kd.S_mono (Kd.S_far (p := ⟨gb144, 1, none⟩) (Kd.S_types HO_8.out BK144.out (by decide)) (fun _ hk => hk.2) (.slice Ao77 y152.length co77)) (fun _ hk => trivial)⟩, ⟨by (with_reducible repeat (first | apply Kd.S_alloc | apply Kd.S_drewN | apply Kd.S_drew)); exact Kd.S_mono (Kd.S_far (p := ⟨gb144, 1, none⟩) (Kd.S_mono HO_141000.out (fun k_ hk => (⟨hk, hk.1.2⟩ : _ ∧ k_ ≠ gb144))) (fun _ hk => hk.2) (.slice Ao77 y152.length co77)) (fun _ hk => ⟨hk.1.2, ⟨hk.1.1.1, hk.1.1.2⟩⟩)⟩, ⟨by (with_reducible repeat (first | apply Kd.R_alloc | apply Kd.R_drewN | apply Kd.R_drew)); exact Kd.R_mono (Kd.R_far (p := ⟨gb144, 1, none⟩) (Kd.R_types HO154.out BK144.out (by decide)) (fun _ hk => hk.2) (.slice Ao77 y152.length co77)) (fun _ hk => hk.1)⟩, ⟨by (with_reducible repeat (first | apply Kd.R_alloc | apply Kd.R_drewN | apply Kd.R_drew)); exact Kd.R_mono (Kd.R_far (p := ⟨gb144, 1, none⟩) (Kd.R_types HO_145002.out BK144.out (by decide)) (fun _ hk => hk.2) (.slice Ao77 y152.length co77)) (fun _ hk => hk.1.2)⟩, ⟨by (with_reducible repeat (first | refine blk_drewN ?_ _ | refine blk_drew ?_ | refine blk_alloc ?_ _)); refine blk_far ?_ NB135_144.out _; (with_reducible repeat (first | refine blk_drewN ?_ _ | refine blk_drew ?_ | refine blk_alloc ?_ _)); exact BK135.out⟩, ⟨by (with_reducible repeat (first | refine blk_drewN ?_ _ | refine blk_drew ?_ | refine blk_alloc ?_ _)); refine blk_far ?_ NB136_144.out _; (with_reducible repeat (first | refine blk_drewN ?_ _ | refine blk_drew ?_ | refine blk_alloc ?_ _)); exact BK136.out⟩, ⟨by (with_reducible repeat (first | refine blk_drewN ?_ _ | refine blk_drew ?_ | refine blk_alloc ?_ _)); refine blk_far ?_ NB139_144.out _; (with_reducible repeat (first | refine blk_drewN ?_ _ | refine blk_drew ?_ | refine blk_alloc ?_ _)); exact BK139.out⟩, ⟨by (with_reducible repeat (first | refine blk_drewN ?_ _ | refine blk_drew ?_ | refine blk_alloc ?_ _)); refine blk_far ?_ NB140_144.out _; (with_reducible repeat (first | refine blk_drewN ?_ _ | refine blk_drew ?_ | refine blk_alloc ?_ _)); exact BK140.out⟩, ⟨by (with_reducible repeat (first | refine blk_drewN ?_ _ | refine blk_drew ?_ | refine blk_alloc ?_ _)); refine blk_put (cs := #[.int .i64 x9_1, u145001, u145002]) ?_ 1 _ rfl; (with_reducible repeat (first | refine blk_drewN ?_ _ | refine blk_drew ?_ | refine blk_alloc ?_ _)); exact BK144.out⟩, ⟨by repeat (first | (with_reducible first | exact HB.out | apply below_alloc | apply pw_below_drewN | apply below_drew1 | refine below_set ?_ GE135.out | refine below_set ?_ GE136.out | refine below_set ?_ GE139.out | refine below_set ?_ GE140.out | refine below_set ?_ GE144.out) | exact HB.out)⟩⟩
           rw [if_neg c74] at H
           exact absurd H (by simp)
         rw [if_neg c73] at H
         exact absurd H (by simp)
       rw [if_neg c72] at H
       exact absurd H (by simp)
     replace c71 := Bool.eq_false_iff.mpr c71
     subst c71
     have H1 : (if 0 ≤ x10_3 then (if x10_3 < (l1.length : Int) then (if x145002_3.length < 8796093022208 then (diff_Script.l1 kj53 l0 l1 t141 x9_3 (wrap64 (x10_3 + 1)) x141000_1 x9_1 x145001_3 (x145002_3 ++ [rdOf ByteArray.empty l1 x10_3])) else (none)) else (none)) else (none)) = some (r1, r2, r3) := by rw [if_neg (show ¬ (false = true) by decide)] at H; exact H
     clear H
     have H := H1
     clear H1
     by_cases c79 : 0 ≤ x10_3
     · rw [if_pos c79] at H
       have c79b0 : decide (0 ≤ x10_3) = true := decide_eq_true c79
       clear c79
       by_cases c80 : x10_3 < (l1.length : Int)
       · rw [if_pos c80] at H
         have c80b0 : decide (x10_3 < (l1.length : Int)) = true := decide_eq_true c80
         clear c80
         by_cases c81 : x145002_3.length < 8796093022208
         · rw [if_pos c81] at H
           have LMc81 := Aside0.mk c81
           clear c81
           obtain ⟨y156, hy156⟩ : ∃ y_ : List ByteArray, y_ = (x145002_3 ++ [rdOf ByteArray.empty l1 x10_3]) := ⟨_, rfl⟩
           replace H : (diff_Script.l1 kj53 l0 l1 t141 x9_3 (wrap64 (x10_3 + 1)) x141000_1 x9_1 x145001_3 y156) = some (r1, r2, r3) := by first | (rw [hy156]; with_reducible exact H) | (have H2_ := (Option.bind_some _ _).symm.trans H; rw [hy156]; with_reducible exact H2_) | (have H2_ := (Option.bind_some _ _).symm.trans H; with_reducible exact H2_) | with_reducible exact H | (rw [hy156]; exact H) | exact H
           have Ny156 := Aside0.mk hy156
           clear hy156
           have H' := Aside0.mk H
           clear H
           try go_wp2_with (fail)
           have n0_ := Aside0.mk (Kd.S_drew HO_8.out)
           have n1_ := Aside0.mk (Kd.S_drew HO_141000.out)
           have n2_ := Aside0.mk (Kd.R_drew HO_145001.out)
           have n3_ := Aside0.mk (Kd.R_drew HO_145002.out)
           have n4_ := Aside0.mk (blk_drew BK135.out)
           have n5_ := Aside0.mk (blk_drew BK136.out)
           have n6_ := Aside0.mk (blk_drew BK139.out)
           have n7_ := Aside0.mk (blk_drew BK140.out)
           have n8_ := Aside0.mk (blk_drew BK144.out)
           have n9_ := Aside0.mk (below_drew1 HB.out)
           clear HO_8
           clear HO_141000
           clear HO_145001
           clear HO_145002
           clear BK135
           clear BK136
           clear BK139
           clear BK140
           clear BK144
           clear HB
           have HO_8 := n0_
           have HO_141000 := n1_
           have HO_145001 := n2_
           have HO_145002 := n3_
           have BK135 := n4_
           have BK136 := n5_
           have BK139 := n6_
           have BK140 := n7_
           have BK144 := n8_
           have HB := n9_
           clear n0_ n1_ n2_ n3_ n4_ n5_ n6_ n7_ n8_ n9_
           have p155 : 0 ≤ (x10_3 : Int) := of_decide_eq_true (by first | (with_reducible assumption) | assumption)
           have q155 : x10_3 < (l1.length : Int) := of_decide_eq_true (by first | (with_reducible assumption) | assumption)
           obtain ⟨ad155, e155, hx155_0⟩ := Kd.at_string HR1.out x10_3 p155 q155
           have hw155_0 := hx155_0
           cases e155
           replace hx155_0 := (HB.out.cell (World.block_lt_of_cell? w _ hx155_0)).trans hx155_0
           replace p155 := eq_true p155
           replace q155 := eq_true q155
           refine start_ (n := 10) (S := fun w' => w'.cell? ⟨gb144, 0, none⟩ = some (.int .i64 x9_1) ∧ w'.cell? ⟨gb144, 1, none⟩ = some (u145001) ∧ w'.cell? ⟨gb144, 2, none⟩ = some (u145002) ∧ w'.cell? (ad155.add (x10_3).toNat) = some (.string (rdOf ByteArray.empty l1 x10_3))) (ds := [9]) #[false, false, false, false, false, false, false, false, false, false] (by kernel_rfl) rfl rfl ⟨(blk_cell BK144.out 0).trans rfl, (blk_cell BK144.out 1).trans rfl, (blk_cell BK144.out 2).trans rfl, ((HB.out.cell (World.block_lt_of_cell? w _ hw155_0)).trans hw155_0)⟩ (fun hHeld => ?_); refine with_tabW diff_Script_i22.tab8 diff_Script_i22.bits8 (fun HT_ HW_ => ?_)
           generalize wc.drew = w82 at HO_8 HO_141000 HO_145001 HO_145002 BK135 BK136 BK139 BK140 BK144 HB hx155_0 hHeld ⊢
           refine pure_ (i := 0) (N := some 100) (v := ?_) (a' := ?_) #[true, false, false, false, false, false, false, false, false, false] rfl rfl (any_of HT_.out (by kernel_rfl)) (fun _ _ _ h => h) (Or.inl ⟨by rfl, ?_⟩) ?_ ?_
           rotate_left
           · intro w'
             go_simp
             with_reducible rfl
           rotate_left
           · simp only [Act.put, s15q0, s15q1, s15q2, i64_w, i32_w]
             rfl
           refine pure_ (i := 2) (N := some 102) (v := ?_) (a' := ?_) #[true, false, true, false, false, false, false, false, false, false] rfl rfl (any_of HT_.out (by kernel_rfl)) (fun _ _ _ h => h) (Or.inl ⟨by rfl, ?_⟩) ?_ ?_
           rotate_left
           · intro w'
             go_simp
             with_reducible rfl
           rotate_left
           · simp only [Act.put, s15q0, s15q1, s15q2, i64_w, i32_w]
             rfl
           refine pure_ (i := 3) (N := some 103) (v := ?_) (a' := ?_) #[true, false, true, true, false, false, false, false, false, false] rfl rfl (any_of HT_.out (by kernel_rfl)) (fun _ _ _ h => h) (Or.inl ⟨by rfl, ?_⟩) ?_ ?_
           rotate_left
           · intro w'
             go_simp
             with_reducible rfl
           rotate_left
           · simp only [Act.put, s15q0, s15q1, s15q2, i64_w, i32_w]
             rfl
           refine pure_ (i := 4) (N := some 104) (v := ?_) (a' := ?_) #[true, false, true, true, true, false, false, false, false, false] rfl rfl (any_of HT_.out (by kernel_rfl)) (fun _ _ _ h => h) (Or.inl ⟨by rfl, ?_⟩) ?_ ?_
           rotate_left
           · intro w'
             go_simp
             with_reducible rfl
           rotate_left
           · simp only [Act.put, s15q0, s15q1, s15q2, i64_w, i32_w]
             rfl
           refine take_ (i := 1) (N := some 101) (v := ?_) (a' := ?_) #[true, true, true, true, true, false, false, false, false, false] rfl rfl (take_ofW HT_.out HW_.out (by kernel_rfl)) (fun _ _ _ h => h) (Or.inl ⟨by rfl, ?_⟩) hHeld ?_ ?_
           rotate_left
           · rintro w' ⟨s0, s1, s2, s3⟩
             go_simp
             with_reducible rfl
           rotate_left
           · simp only [Act.put, s15q0, s15q1, s15q2, i64_w, i32_w]
             rfl
           refine take_ (i := 5) (N := some 105) (v := ?_) (a' := ?_) #[true, true, true, true, true, true, false, false, false, false] rfl rfl (take_ofW HT_.out HW_.out (by kernel_rfl)) (fun _ _ _ h => h) (Or.inl ⟨by rfl, ?_⟩) hHeld ?_ ?_
           rotate_left
           · rintro w' ⟨s0, s1, s2, s3⟩
             go_simp
             with_reducible rfl
           rotate_left
           · simp only [Act.put, s15q0, s15q1, s15q2, i64_w, i32_w]
             rfl
           refine one_ (i := 6) (N := some 106) #[true, true, true, true, true, true, true, false, false, false] rfl rfl (one_of HT_.out (by kernel_rfl)) (by decide) (fun K hK => ?_)
           refine value_ (w1 := ?_) (v := ?_) (by rfl) rfl ?_ ?_
           rotate_left 2
           · go_simp
             constructor
             · rfl
             rfl
           refine hK.out _ _ ⟨(blk_cell (blk_alloc BK144.out _) 0).trans rfl, (blk_cell (blk_alloc BK144.out _) 1).trans rfl, (blk_cell (blk_alloc BK144.out _) 2).trans rfl, (World.cell?_alloc_lt _ _ _ (World.block_lt_of_cell? _ _ (((HB.out.cell (World.block_lt_of_cell? w _ hw155_0)).trans hw155_0)))).trans (((HB.out.cell (World.block_lt_of_cell? w _ hw155_0)).trans hw155_0))⟩ (fun hHeld => ?_)
           clear hK K
           refine norm_ (a' := ?_) ?_ ?_
           rotate_left
           · show Act.put _ (some 106) _ = _
             simp only [Act.put, s15q0, s15q1, s15q2, i64_w, i32_w]
             rfl
           refine one_ (i := 7) (N := some 107) #[true, true, true, true, true, true, true, true, false, false] rfl rfl (one_of HT_.out (by kernel_rfl)) (by decide) (fun K hK => ?_)
           refine Kd.R_append_step Kd.string (w0 := w) w.heap.size (by rfl) (.tmp 101) (.tmp 106) 31 9 (.string ⟨#[]⟩) 16 rfl Try.underlying31 info9 rfl (by decide) (by omega) u145002 x145002_3 (rdOf ByteArray.empty l1 x10_3) [.string (rdOf ByteArray.empty l1 x10_3)] (fun k_ => some k_ ≠ (u145001 : Value).ownBlock) (fun _ => False) rfl rfl ?aP (fun _ hk => hk.elim) ?aF ?aO ?aB ?aS ?aL ?_
           (case aP => exact rfl)
           (case aB => exact (hbw HB.out))
           (case aF => exact (fun k_ hk => Kd.fresh' (Kd.R_lt (kdR HO_145001.out)) k_ hk))
           (case aO => exact (kdR HO_145002.out))
           (case aS => exact (below_size (hbw HB.out)))
           (case aL => have := LMc81.out; omega)
           intro v157 w83 ho hb hg hat
           rw [← Ny156.out] at ho
           have n0_ := Aside0.mk (Kd.S_over' (kdS HO_8.out) (Kd.R_typed (kdR HO_145002.out)) (by decide) hg)
           have n1_ := Aside0.mk (Kd.S_after (ok := (fun k_ => some k_ ≠ (u145001 : Value).ownBlock ∧ k_ ≠ gb144)) (by (with_reducible repeat (first | apply Kd.S_alloc | apply Kd.S_drewN | apply Kd.S_drew)); exact Kd.S_mono HO_141000.out (fun _ hk => ⟨⟨hk.1, hk.2.2⟩, hk.2.1⟩)) hg hat)
           have n2_ := Aside0.mk (Kd.R_after (ok := (fun _ => True)) (by (with_reducible repeat (first | apply Kd.R_alloc | apply Kd.R_drewN | apply Kd.R_drew)); exact Kd.R_mono HO_145001.out (fun _ hk => ⟨trivial, hk⟩)) hg hat)
           have n3_ := Aside0.mk (blk_grown (g := gb135) (o := .cells #[.slice none 0 0] 38 (0, 0)) (bkw BK135.out) hg (Kd.R_ne HO_145002.out BK135.out (by decide)))
           have n4_ := Aside0.mk (blk_grown (g := gb136) (o := .cells #[.int .i64 0, .int .i64 0] 25 (0, 0)) (bkw BK136.out) hg (Kd.R_ne HO_145002.out BK136.out (by decide)))
           have n5_ := Aside0.mk (blk_grown (g := gb139) (o := .cells #[.int .i64 t137, .int .i64 t138] 25 (0, 0)) (bkw BK139.out) hg (Kd.R_ne HO_145002.out BK139.out (by decide)))
           have n6_ := Aside0.mk (blk_grown (g := gb140) (o := .cells #[u141000] 38 (0, 0)) (bkw BK140.out) hg (Kd.R_ne HO_145002.out BK140.out (by decide)))
           have n7_ := Aside0.mk (blk_grown (g := gb144) (o := .cells #[.int .i64 x9_1, u145001, u145002] 42 (0, 0)) (bkw BK144.out) hg (Kd.R_ne HO_145002.out BK144.out (by decide)))
           have n8_ := Aside0.mk (hb)
           have n9_ := Aside0.mk (ho)
           clear HO_8
           clear HO_141000
           clear HO_145001
           clear BK135
           clear BK136
           clear BK139
           clear BK140
           clear BK144
           clear HB
           clear HO_145002
           have HO_8 := n0_
           have HO_141000 := n1_
           have HO_145001 := n2_
           have BK135 := n3_
           have BK136 := n4_
           have BK139 := n5_
           have BK140 := n6_
           have BK144 := n7_
           have HB := n8_
           have HO158 := n9_
           clear n0_ n1_ n2_ n3_ n4_ n5_ n6_ n7_ n8_ n9_
           clear ho hb hg hat
           obtain ⟨Ao84, co84, eo84⟩ := Kd.R_slice HO158.out
           (first | subst eo84 | (injection eo84 with f1_ f2_ f3_; have f4_ := f1_.symm; have f5_ := f3_.symm; clear f1_ f2_ f3_; subst f4_; subst f5_))
           refine hK.out _ _ ⟨(blk_cell BK144.out 0).trans rfl, (blk_cell BK144.out 1).trans rfl, (blk_cell BK144.out 2).trans rfl, ((HB.out.cell (World.block_lt_of_cell? w _ hw155_0)).trans hw155_0)⟩ (fun hHeld => ?_)
           clear hK K
           refine norm_ (a' := ?_) ?_ ?_
           rotate_left
           · show Act.put _ (some 107) _ = _
             simp only [Act.put, s15q0, s15q1, s15q2, i64_w, i32_w]
             rfl
           refine pure_ (i := 8) (N := some 108) (v := ?_) (a' := ?_) #[true, true, true, true, true, true, true, true, true, false] rfl rfl (any_of HT_.out (by kernel_rfl)) (fun _ _ _ h => h) (Or.inl ⟨by rfl, ?_⟩) ?_ ?_
           rotate_left
           · intro w'
             go_simp
             with_reducible rfl
           rotate_left
           · simp only [Act.put, s15q0, s15q1, s15q2, i64_w, i32_w]
             rfl
           refine last_ (i := 9) (N := none) #[true, true, true, true, true, true, true, true, true, true] rfl rfl (one_of HT_.out (by kernel_rfl)) (by decide) (fun K hK => ?_)
           have hs85 : w83.cell? ⟨gb144, 2, none⟩ = some (u145002) := (blk_cell BK144.out 2).trans rfl
           have hfs85 := blk_frozen BK144.out 2
           have hns85_0 := NB135_144.out
           have hns85_1 := NB136_144.out
           have hns85_2 := NB139_144.out
           have hns85_3 := NB140_144.out
           have hms85_0 := NB144_135.out
           have hms85_1 := NB144_136.out
           have hms85_2 := NB144_139.out
           have hms85_3 := NB144_140.out
           refine skip_ (w1 := ?_) (by rfl) rfl ?_ ?_
           rotate_left
           · go_simp
             rfl
           refine hK.out _ _ ?_
           clear hK K
           refine done_ (done_of HT_.out (by kernel_rfl)) ?_
           try go_wp2_with (fail)
           go_roundg kj53
           case measure => have := HK1.out; have := HJ26.out; have := HK3.out; have := HJ35.out; have := HJ53.out; omega
           case rel => exact ⟨(x9_3), (wrap64 (x10_3 + 1)), (x145001_3), (y156), (u145001), (.slice Ao84 y156.length co84), (by first | rfl | (simp; done) | (simp [*]; done)), (by first | rfl | (simp; done) | (simp [*]; done)), H', ⟨by have := HK1.out; have := HJ26.out; have := HK3.out; have := HJ35.out; have := HJ53.out; omega⟩, ⟨by (with_reducible repeat (first | apply Kd.S_alloc | apply Kd.S_drewN | apply Kd.S_drew)); exact Kd.S_mono (Kd.S_far (p := ⟨gb144, 2, none⟩) (Kd.S_types HO_8.out BK144.out (by decide)) (fun _ hk => hk.2) (.slice Ao84 y156.length co84)) (fun _ hk => trivial)⟩, ⟨by (with_reducible repeat (first | apply Kd.S_alloc | apply Kd.S_drewN | apply Kd.S_drew)); exact Kd.S_mono (Kd.S_far (p := ⟨gb144, 2, none⟩) (Kd.S_mono HO_141000.out (fun k_ hk => (⟨hk, hk.1.2⟩ : _ ∧ k_ ≠ gb144))) (fun _ hk => hk.2) (.slice Ao84 y156.length co84)) (fun _ hk => ⟨hk.1.1.1, ⟨hk.1.2, hk.1.1.2⟩⟩)⟩, ⟨by (with_reducible repeat (first | apply Kd.R_alloc | apply Kd.R_drewN | apply Kd.R_drew)); exact Kd.R_mono (Kd.R_far (p := ⟨gb144, 2, none⟩) (Kd.R_types HO_145001.out BK144.out (by decide)) (fun _ hk => hk.2) (.slice Ao84 y156.length co84)) (fun _ hk => hk.1.2)⟩, ⟨by (with_reducible repeat (first | apply Kd.R_alloc | apply Kd.R_drewN | apply Kd.R_drew)); exact Kd.R_mono (Kd.R_far (p := ⟨gb144, 2, none⟩) (Kd.R_types HO158.out BK144.out (by decide)) (fun _ hk => hk.2) (.slice Ao84 y156.length co84)) (fun _ hk => hk.1)⟩, ⟨by (with_reducible repeat (first | refine blk_drewN ?_ _ | refine blk_drew ?_ | refine blk_alloc ?_ _)); refine blk_far ?_ NB135_144.out _; (with_reducible repeat (first | refine blk_drewN ?_ _ | refine blk_drew ?_ | refine blk_alloc ?_ _)); exact BK135.out⟩, ⟨by (with_reducible repeat (first | refine blk_drewN ?_ _ | refine blk_drew ?_ | refine blk_alloc ?_ _)); refine blk_far ?_ NB136_144.out _; (with_reducible repeat (first | refine blk_drewN ?_ _ | refine blk_drew ?_ | refine blk_alloc ?_ _)); exact BK136.out⟩, ⟨by (with_reducible repeat (first | refine blk_drewN ?_ _ | refine blk_drew ?_ | refine blk_alloc ?_ _)); refine blk_far ?_ NB139_144.out _; (with_reducible repeat (first | refine blk_drewN ?_ _ | refine blk_drew ?_ | refine blk_alloc ?_ _)); exact BK139.out⟩, ⟨by (with_reducible repeat (first | refine blk_drewN ?_ _ | refine blk_drew ?_ | refine blk_alloc ?_ _)); refine blk_far ?_ NB140_144.out _; (with_reducible repeat (first | refine blk_drewN ?_ _ | refine blk_drew ?_ | refine blk_alloc ?_ _)); exact BK140.out⟩, ⟨by (with_reducible repeat (first | refine blk_drewN ?_ _ | refine blk_drew ?_ | refine blk_alloc ?_ _)); refine blk_put (cs := #[.int .i64 x9_1, u145001, u145002]) ?_ 2 _ rfl; (with_reducible repeat (first | refine blk_drewN ?_ _ | refine blk_drew ?_ | refine blk_alloc ?_ _)); exact BK144.out⟩, ⟨by repeat (first | (with_reducible first | exact HB.out | apply below_alloc | apply pw_below_drewN | apply below_drew1 | refine below_set ?_ GE135.out | refine below_set ?_ GE136.out | refine below_set ?_ GE139.out | refine below_set ?_ GE140.out | refine below_set ?_ GE144.out) | exact HB.out)⟩⟩
         rw [if_neg c81] at H
         exact absurd H (by simp)
       rw [if_neg c80] at H
       exact absurd H (by simp)
     rw [if_neg c79] at H
     exact absurd H (by simp)
   replace c53 := Bool.eq_false_iff.mpr c53
   subst c53
   have H1 : (if (wrap64 ((x145001_3.length : Int) + (x145002_3.length : Int))) > 0 then (if x141000_1.length < 2513169434916 then (diff_Script.l0 kj35 l0 l1 t141 x9_3 x10_3 (x141000_1 ++ [(⟨x9_1, x145001_3, x145002_3⟩ : S42)])) else (none)) else (diff_Script.l0 kj35 l0 l1 t141 (wrap64 (x9_3 + 1)) (wrap64 (x10_3 + 1)) x141000_1)) = some (r1, r2, r3) := by rw [if_neg (show ¬ (false = true) by decide)] at H; exact H
   clear H
   have H := H1
   clear H1
   by_cases c86 : (wrap64 ((x145001_3.length : Int) + (x145002_3.length : Int))) > 0
   · rw [if_pos c86] at H
     have c86b0 : decide (0 < (wrap64 ((x145001_3.length : Int) + (x145002_3.length : Int)))) = true := decide_eq_true c86
     clear c86
     by_cases c87 : x141000_1.length < 2513169434916
     · rw [if_pos c87] at H
       have LMc87 := Aside0.mk c87
       clear c87
       obtain ⟨y160, hy160⟩ : ∃ y_ : List (S42), y_ = (x141000_1 ++ [(⟨x9_1, x145001_3, x145002_3⟩ : S42)]) := ⟨_, rfl⟩
       replace H : (diff_Script.l0 kj35 l0 l1 t141 x9_3 x10_3 y160) = some (r1, r2, r3) := by first | (rw [hy160]; with_reducible exact H) | (have H2_ := (Option.bind_some _ _).symm.trans H; rw [hy160]; with_reducible exact H2_) | (have H2_ := (Option.bind_some _ _).symm.trans H; with_reducible exact H2_) | with_reducible exact H | (rw [hy160]; exact H) | exact H
       have Ny160 := Aside0.mk hy160
       clear hy160
       have H' := Aside0.mk H
       clear H
       have hnb88 := NB144_135.out
       have hnc88 := NB135_144.out
       have hnb89 := NB144_136.out
       have hnc89 := NB136_144.out
       have hnb90 := NB144_139.out
       have hnc90 := NB139_144.out
       have hnb91 := NB144_140.out
       have hnc91 := NB140_144.out
       have hcz92_0 : wc.cell? ⟨gb144, 0, none⟩ = some (.int .i64 x9_1) := (blk_cell BK144.out 0).trans rfl
       have hcz92_1 : wc.cell? ⟨gb144, 1, none⟩ = some (u145001) := (blk_cell BK144.out 1).trans rfl
       have hcz92_2 : wc.cell? ⟨gb144, 2, none⟩ = some (u145002) := (blk_cell BK144.out 2).trans rfl
       have hfz92_0 := blk_frozen BK144.out 0
       have hfz92_1 := blk_frozen BK144.out 1
       have hfz92_2 := blk_frozen BK144.out 2
       obtain ⟨Ao93, co93, eo93⟩ := Kd.R_slice HO_145001.out
       subst eo93
       obtain ⟨Ao94, co94, eo94⟩ := Kd.R_slice HO_145002.out
       subst eo94
       try go_wp2_with (fail)
       go_in
       try go_wp2_with (first | ((with_reducible refine gate_dst (N := 2) rfl ?_); refine box_event ?hg (N := 2) ?hd (cs := #[.int .i64 x9_1, .slice Ao93 x145001_3.length co93, .slice Ao94 x145002_3.length co94]) (t := 42) ?hr ?_; (case hd => rfl); (case hg => rfl); (case hr => first | (go_simp; done) | (go_simp; rfl)); intro gb159 hg w95 hbox hb; have n0_ := Aside0.mk (Kd.S_below (kdS HO_8.out) hb); have n1_ := Aside0.mk (Kd.S_below (Kd.S_elderB (kdS HO_141000.out) gb159 (Nat.le_of_eq hg.symm)) hb); have n2_ := Aside0.mk (Kd.R_below (kdR HO_145001.out) hb); have n3_ := Aside0.mk (Kd.R_below (kdR HO_145002.out) hb); have n4_ := Aside0.mk (blk_below (bkw BK135.out) hb); have n5_ := Aside0.mk (blk_below (bkw BK136.out) hb); have n6_ := Aside0.mk (blk_below (bkw BK139.out) hb); have n7_ := Aside0.mk (blk_below (bkw BK140.out) hb); have n8_ := Aside0.mk (blk_below (bkw BK144.out) hb); have n9_ := Aside0.mk (below_step (hbw HB.out) hb); have n10_ := Aside0.mk (hbox); have n11_ := Aside0.mk ((by rw [hg]; exact (below_size (hbw HB.out)) : w.heap.size ≤ gb159)); have n12_ := Aside0.mk ((by rw [hg]; exact (below_size (hbw HB.out)) : w.heap.size ≤ gb159)); have n13_ := Aside0.mk ((bkne (bkw BK135.out) hg : gb135 ≠ gb159)); have n14_ := Aside0.mk ((bknc (bkw BK135.out) hg : gb159 ≠ gb135)); have n15_ := Aside0.mk ((bkne (bkw BK136.out) hg : gb136 ≠ gb159)); have n16_ := Aside0.mk ((bknc (bkw BK136.out) hg : gb159 ≠ gb136)); have n17_ := Aside0.mk ((bkne (bkw BK139.out) hg : gb139 ≠ gb159)); have n18_ := Aside0.mk ((bknc (bkw BK139.out) hg : gb159 ≠ gb139)); have n19_ := Aside0.mk ((bkne (bkw BK140.out) hg : gb140 ≠ gb159)); have n20_ := Aside0.mk ((bknc (bkw BK140.out) hg : gb159 ≠ gb140)); have n21_ := Aside0.mk ((bkne (bkw BK144.out) hg : gb144 ≠ gb159)); have n22_ := Aside0.mk ((bknc (bkw BK144.out) hg : gb159 ≠ gb144)); clear HO_8; clear HO_141000; clear HO_145001; clear HO_145002; clear BK135; clear BK136; clear BK139; clear BK140; clear BK144; clear HB; have HO_8 := n0_; have HO_141000 := n1_; have HO_145001 := n2_; have HO_145002 := n3_; have BK135 := n4_; have BK136 := n5_; have BK139 := n6_; have BK140 := n7_; have BK144 := n8_; have HB := n9_; have BK159 := n10_; have GW159 := n11_; have GE159 := n12_; have NB135_159 := n13_; have NB159_135 := n14_; have NB136_159 := n15_; have NB159_136 := n16_; have NB139_159 := n17_; have NB159_139 := n18_; have NB140_159 := n19_; have NB159_140 := n20_; have NB144_159 := n21_; have NB159_144 := n22_; clear n0_ n1_ n2_ n3_ n4_ n5_ n6_ n7_ n8_ n9_ n10_ n11_ n12_ n13_ n14_ n15_ n16_ n17_ n18_ n19_ n20_ n21_ n22_; clear hb hbox hg; have hnb96 := NB140_135.out; have hnc96 := NB135_140.out; have hnb97 := NB140_136.out; have hnc97 := NB136_140.out; have hnb98 := NB140_139.out; have hnc98 := NB139_140.out; have hnb99 := NB140_159.out; have hnc99 := NB159_140.out; have hcz100_0 : w95.cell? ⟨gb140, 0, none⟩ = some (u141000) := (blk_cell BK140.out 0).trans rfl; have hfz100_0 := blk_frozen BK140.out 0; have hnb101 := NB159_135.out; have hnc101 := NB135_159.out; have hnb102 := NB159_136.out; have hnc102 := NB136_159.out; have hnb103 := NB159_139.out; have hnc103 := NB139_159.out; have hnb104 := NB159_144.out; have hnc104 := NB144_159.out; have hcz105_0 : w95.cell? ⟨gb159, 0, none⟩ = some (.int .i64 x9_1) := (blk_cell BK159.out 0).trans rfl; have hcz105_1 : w95.cell? ⟨gb159, 1, none⟩ = some (.slice Ao93 x145001_3.length co93) := (blk_cell BK159.out 1).trans rfl; have hcz105_2 : w95.cell? ⟨gb159, 2, none⟩ = some (.slice Ao94 x145002_3.length co94) := (blk_cell BK159.out 2).trans rfl; have hfz105_0 := blk_frozen BK159.out 0; have hfz105_1 := blk_frozen BK159.out 1; have hfz105_2 := blk_frozen BK159.out 2) | ((with_reducible refine gate_builtin (b := .append) (xs := #[.tmp 4, .tmp 6]) rfl ?_); at_builtin; refine Kd.S_append k42 (w0 := w) w.heap.size rfl (.tmp 4) (.tmp 6) 36 42 (.agg #[(.int .i64 0), (.slice none 0 0), (.slice none 0 0)]) 56 rfl Try.underlying36 info42 rfl (by decide) (by omega) u141000 x141000_1 (⟨x9_1, x145001_3, x145002_3⟩ : S42) [.int .i64 x9_1, .slice Ao93 x145001_3.length co93, .slice Ao94 x145002_3.length co94] (fun k_ => k_ ≠ gb144 ∧ k_ ≠ gb159) (fun k_ => some k_ = (.slice Ao93 x145001_3.length co93 : Value).ownBlock ∨ some k_ = (.slice Ao94 x145002_3.length co94 : Value).ownBlock) rfl rfl ?aP (fun k_ hk_ => hk_.elim (fun h_ => ((Kd.R_mono (ok' := fun k_ => ((fun k_ => k_ ≠ gb144 ∧ k_ ≠ gb159)) k_ ∧ some k_ ≠ (u141000 : Value).ownBlock) (Kd.R_types (Kd.R_types (Kd.R_apart' (HO_145001.out) (Kd.S_typed HO_141000.out) (by decide)) BK144.out (by decide)) BK159.out (by decide)) (fun k_ hk => ⟨⟨hk.1.2, hk.2⟩, hk.1.1.2⟩))).1 k_ h_.symm) (fun h_ => ((Kd.R_mono (ok' := fun k_ => ((fun k_ => k_ ≠ gb144 ∧ k_ ≠ gb159)) k_ ∧ some k_ ≠ (u141000 : Value).ownBlock) (Kd.R_types (Kd.R_types (Kd.R_apart' (HO_145002.out) (Kd.S_typed HO_141000.out) (by decide)) BK144.out (by decide)) BK159.out (by decide)) (fun k_ hk => ⟨⟨hk.1.2, hk.2⟩, hk.1.1.2⟩))).1 k_ h_.symm)) ?aF ?aO ?aB ?aS ?aL ?_; (case aP => exact k42_mkM _ _ _ (⟨x9_1, x145001_3, x145002_3⟩ : S42) (Kd.R_mono (Kd.R_tight rfl (Kd.R_mono (ok' := fun k_ => ((fun k_ => k_ ≠ gb144 ∧ k_ ≠ gb159)) k_ ∧ some k_ ≠ (u141000 : Value).ownBlock) (Kd.R_types (Kd.R_types (Kd.R_apart' (HO_145001.out) (Kd.S_typed HO_141000.out) (by decide)) BK144.out (by decide)) BK159.out (by decide)) (fun k_ hk => ⟨⟨hk.1.2, hk.2⟩, hk.1.1.2⟩))) (fun _ h_ => Or.inl h_)) (Kd.R_mono (Kd.R_tight rfl (Kd.R_mono (ok' := fun k_ => ((fun k_ => k_ ≠ gb144 ∧ k_ ≠ gb159)) k_ ∧ some k_ ≠ (u141000 : Value).ownBlock) (Kd.R_types (Kd.R_types (Kd.R_apart' (HO_145002.out) (Kd.S_typed HO_141000.out) (by decide)) BK144.out (by decide)) BK159.out (by decide)) (fun k_ hk => ⟨⟨hk.1.2, hk.2⟩, hk.1.1.2⟩))) (fun _ h_ => Or.inr (h_)))); (case aB => exact (hbw HB.out)); (case aF => exact (fun k_ hk => ⟨Kd.freshB (g := gb144) (o := .cells #[.int .i64 x9_1, .slice Ao93 x145001_3.length co93, .slice Ao94 x145002_3.length co94] 42 (0, 0)) (bkw BK144.out) k_ hk, Kd.freshB (g := gb159) (o := .cells #[.int .i64 x9_1, .slice Ao93 x145001_3.length co93, .slice Ao94 x145002_3.length co94] 42 (0, 0)) (bkw BK159.out) k_ hk⟩)); (case aO => exact (by (with_reducible repeat (first | apply Kd.S_alloc | apply Kd.S_drewN | apply Kd.S_drew)); exact Kd.S_mono HO_141000.out (fun k_ hk => ⟨⟨hk.1.2.2, hk.2⟩, fun e_ => e_.elim (fun h_ => hk.1.1 h_) (fun h_ => hk.1.2.1 h_)⟩))); (case aS => exact (below_size (hbw HB.out))); (case aL => have := LMc87.out; omega); intro v161 w106 ho hb hg hat; rw [← Ny160.out] at ho; have n0_ := Aside0.mk (Kd.S_over' (kdS HO_8.out) (Kd.S_typed (kdS HO_141000.out)) (by decide) hg); have n1_ := Aside0.mk (blk_grown (g := gb135) (o := .cells #[.slice none 0 0] 38 (0, 0)) (bkw BK135.out) hg (Kd.S_ne HO_141000.out BK135.out (by decide))); have n2_ := Aside0.mk (blk_grown (g := gb136) (o := .cells #[.int .i64 0, .int .i64 0] 25 (0, 0)) (bkw BK136.out) hg (Kd.S_ne HO_141000.out BK136.out (by decide))); have n3_ := Aside0.mk (blk_grown (g := gb139) (o := .cells #[.int .i64 t137, .int .i64 t138] 25 (0, 0)) (bkw BK139.out) hg (Kd.S_ne HO_141000.out BK139.out (by decide))); have n4_ := Aside0.mk (blk_grown (g := gb140) (o := .cells #[u141000] 38 (0, 0)) (bkw BK140.out) hg (Kd.S_ne HO_141000.out BK140.out (by decide))); have n5_ := Aside0.mk (blk_grown (g := gb144) (o := .cells #[.int .i64 x9_1, .slice Ao93 x145001_3.length co93, .slice Ao94 x145002_3.length co94] 42 (0, 0)) (bkw BK144.out) hg (Kd.S_away HO_141000.out (fun _ hk => hk.1.2.2))); have n6_ := Aside0.mk (blk_grown (g := gb159) (o := .cells #[.int .i64 x9_1, .slice Ao93 x145001_3.length co93, .slice Ao94 x145002_3.length co94] 42 (0, 0)) (bkw BK159.out) hg (Kd.S_away HO_141000.out (fun _ hk => hk.2))); have n7_ := Aside0.mk (hb); have n8_ := Aside0.mk (ho); clear HO_8; clear BK135; clear BK136; clear BK139; clear BK140; clear BK144; clear BK159; clear HB; clear HO_141000; clear HO_145001; clear HO_145002; have HO_8 := n0_; have BK135 := n1_; have BK136 := n2_; have BK139 := n3_; have BK140 := n4_; have BK144 := n5_; have BK159 := n6_; have HB := n7_; have HO162 := n8_; clear n0_ n1_ n2_ n3_ n4_ n5_ n6_ n7_ n8_; clear ho hb hg hat; obtain ⟨Ao107, co107, eo107⟩ := Kd.S_slice HO162.out; subst eo107; have hcz108_0 : w106.cell? ⟨gb140, 0, none⟩ = some (u141000) := (blk_cell BK140.out 0).trans rfl; have hfz108_0 := blk_frozen BK140.out 0))
       first | go_end0 | ((try simp only [Exit.inBlock, Exit.then]); refine bodyPost_ret (results_none rfl _ _ _) rfl ?_)
       simp only []
       try go_wp2_with (fail)
       go_roundg kj35
       case measure => have := HK1.out; have := HJ26.out; have := HK3.out; have := HJ35.out; omega
       case rel => exact ⟨(x9_3), (x10_3), (y160), (.slice Ao107 y160.length co107), (by first | rfl | (simp; done) | (simp [*]; done)), (by first | rfl | (simp; done) | (simp [*]; done)), H', ⟨by have := HK1.out; have := HJ26.out; have := HK3.out; have := HJ35.out; omega⟩, ⟨by (with_reducible repeat (first | apply Kd.S_alloc | apply Kd.S_drewN | apply Kd.S_drew)); exact Kd.S_mono (Kd.S_far (p := ⟨gb140, 0, none⟩) (Kd.S_types HO_8.out BK140.out (by decide)) (fun _ hk => hk.2) (.slice Ao107 y160.length co107)) (fun _ hk => trivial)⟩, ⟨by (with_reducible repeat (first | apply Kd.S_alloc | apply Kd.S_drewN | apply Kd.S_drew)); exact Kd.S_mono (Kd.S_far (p := ⟨gb140, 0, none⟩) (Kd.S_types HO162.out BK140.out (by decide)) (fun _ hk => hk.2) (.slice Ao107 y160.length co107)) (fun _ hk => trivial)⟩, ⟨by (with_reducible repeat (first | refine blk_drewN ?_ _ | refine blk_drew ?_ | refine blk_alloc ?_ _)); refine blk_far ?_ NB135_140.out _; (with_reducible repeat (first | refine blk_drewN ?_ _ | refine blk_drew ?_ | refine blk_alloc ?_ _)); exact BK135.out⟩, ⟨by (with_reducible repeat (first | refine blk_drewN ?_ _ | refine blk_drew ?_ | refine blk_alloc ?_ _)); refine blk_far ?_ NB136_140.out _; (with_reducible repeat (first | refine blk_drewN ?_ _ | refine blk_drew ?_ | refine blk_alloc ?_ _)); exact BK136.out⟩, ⟨by (with_reducible repeat (first | refine blk_drewN ?_ _ | refine blk_drew ?_ | refine blk_alloc ?_ _)); refine blk_far ?_ NB139_140.out _; (with_reducible repeat (first | refine blk_drewN ?_ _ | refine blk_drew ?_ | refine blk_alloc ?_ _)); exact BK139.out⟩, ⟨by (with_reducible repeat (first | refine blk_drewN ?_ _ | refine blk_drew ?_ | refine blk_alloc ?_ _)); refine blk_put (cs := #[u141000]) ?_ 0 _ rfl; (with_reducible repeat (first | refine blk_drewN ?_ _ | refine blk_drew ?_ | refine blk_alloc ?_ _)); exact BK140.out⟩, ⟨by repeat (first | (with_reducible first | exact HB.out | apply below_alloc | apply pw_below_drewN | apply below_drew1 | refine below_set ?_ GE135.out | refine below_set ?_ GE136.out | refine below_set ?_ GE139.out | refine below_set ?_ GE140.out | refine below_set ?_ GE144.out | refine below_set ?_ GE159.out) | exact HB.out)⟩⟩
     rw [if_neg c87] at H
     exact absurd H (by simp)
   rw [if_neg c86] at H
   have c86b0 : decide (0 < (wrap64 ((x145001_3.length : Int) + (x145002_3.length : Int)))) = false := decide_eq_false c86
   clear c86
   have H' := Aside0.mk H
   clear H
   have hnb109 := NB144_135.out
   have hnc109 := NB135_144.out
   have hnb110 := NB144_136.out
   have hnc110 := NB136_144.out
   have hnb111 := NB144_139.out
   have hnc111 := NB139_144.out
   have hnb112 := NB144_140.out
   have hnc112 := NB140_144.out
   have hcz113_0 : wc.cell? ⟨gb144, 0, none⟩ = some (.int .i64 x9_1) := (blk_cell BK144.out 0).trans rfl
   have hcz113_1 : wc.cell? ⟨gb144, 1, none⟩ = some (u145001) := (blk_cell BK144.out 1).trans rfl
   have hcz113_2 : wc.cell? ⟨gb144, 2, none⟩ = some (u145002) := (blk_cell BK144.out 2).trans rfl
   have hfz113_0 := blk_frozen BK144.out 0
   have hfz113_1 := blk_frozen BK144.out 1
   have hfz113_2 := blk_frozen BK144.out 2
   obtain ⟨Ao114, co114, eo114⟩ := Kd.R_slice HO_145001.out
   subst eo114
   obtain ⟨Ao115, co115, eo115⟩ := Kd.R_slice HO_145002.out
   subst eo115
   try go_wp2_with (fail)
   go_in
   try go_wp2_with (fail)
   first | go_end0 | ((try simp only [Exit.inBlock, Exit.then]); refine bodyPost_ret (results_none rfl _ _ _) rfl ?_)
   simp only []
   try go_wp2_with (fail)
   go_roundg kj35
   case measure => have := HK1.out; have := HJ26.out; have := HK3.out; have := HJ35.out; omega
   case rel => exact ⟨(wrap64 (x9_3 + 1)), (wrap64 (x10_3 + 1)), (x141000_1), (u141000), (by first | rfl | (simp; done) | (simp [*]; done)), (by first | rfl | (simp; done) | (simp [*]; done)), H', ⟨by have := HK1.out; have := HJ26.out; have := HK3.out; have := HJ35.out; omega⟩, ⟨by (with_reducible repeat (first | apply Kd.S_alloc | apply Kd.S_drewN | apply Kd.S_drew)); exact HO_8.out⟩, ⟨by (with_reducible repeat (first | apply Kd.S_alloc | apply Kd.S_drewN | apply Kd.S_drew)); exact Kd.S_mono HO_141000.out (fun _ hk => trivial)⟩, ⟨by (with_reducible repeat (first | refine blk_drewN ?_ _ | refine blk_drew ?_ | refine blk_alloc ?_ _)); exact BK135.out⟩, ⟨by (with_reducible repeat (first | refine blk_drewN ?_ _ | refine blk_drew ?_ | refine blk_alloc ?_ _)); exact BK136.out⟩, ⟨by (with_reducible repeat (first | refine blk_drewN ?_ _ | refine blk_drew ?_ | refine blk_alloc ?_ _)); exact BK139.out⟩, ⟨by (with_reducible repeat (first | refine blk_drewN ?_ _ | refine blk_drew ?_ | refine blk_alloc ?_ _)); exact BK140.out⟩, ⟨by repeat (first | (with_reducible first | exact HB.out | apply below_alloc | apply pw_below_drewN | apply below_drew1 | refine below_set ?_ GE135.out | refine below_set ?_ GE136.out | refine below_set ?_ GE139.out | refine below_set ?_ GE140.out | refine below_set ?_ GE144.out) | exact HB.out)⟩⟩
 replace c29 := Bool.eq_false_iff.mpr c29
 subst c29
 have H1 : (some (x141000_1, 0, 0)) = some (r1, r2, r3) := by rw [if_neg (show ¬ (false = true) by decide)] at H; exact H
 clear H
 have H := H1
 clear H1
 simp only [Option.some.injEq, Prod.mk.injEq] at H
 obtain ⟨rfl, rfl, rfl⟩ := H
 try go_wp2_with (fail)
 first | go_end0 | ((try simp only [Exit.inBlock, Exit.then]); refine bodyPost_ret (results_none rfl _ _ _) rfl ?_)
 simp only []
 have hnb116 := NB140_135.out
 have hnc116 := NB135_140.out
 have hnb117 := NB140_136.out
 have hnc117 := NB136_140.out
 have hnb118 := NB140_139.out
 have hnc118 := NB139_140.out
 have hcz119_0 : wc.cell? ⟨gb140, 0, none⟩ = some (u141000) := (blk_cell BK140.out 0).trans rfl
 have hfz119_0 := blk_frozen BK140.out 0
 obtain ⟨Ao120, co120, eo120⟩ := Kd.S_slice HO_141000.out
 subst eo120
 have hnb121 := NB135_136.out
 have hnc121 := NB136_135.out
 have hnb122 := NB135_139.out
 have hnc122 := NB139_135.out
 have hcz123_0 : wc.cell? ⟨gb135, 0, none⟩ = some (.slice none 0 0) := (blk_cell BK135.out 0).trans rfl
 have hfz123_0 := blk_frozen BK135.out 0
 have hnb124 := NB136_139.out
 have hnc124 := NB139_136.out
 have hcz125_0 : wc.cell? ⟨gb136, 0, none⟩ = some (.int .i64 0) := (blk_cell BK136.out 0).trans rfl
 have hcz125_1 : wc.cell? ⟨gb136, 1, none⟩ = some (.int .i64 0) := (blk_cell BK136.out 1).trans rfl
 have hfz125_0 := blk_frozen BK136.out 0
 have hfz125_1 := blk_frozen BK136.out 1
 try go_wp2_with (fail)
 refine bodyPost_ret (results_cc rfl _ _ gb135 gb136 38 25 #[.slice Ao120 x141000_1.length co120] #[.int .i64 0, .int .i64 0] (0, 0) (0, 0) _ _ rfl (by (with_reducible repeat (first | refine blk_drewN ?_ _ | refine blk_drew ?_ | refine blk_alloc ?_ _)); refine blk_far ?_ NB135_136.out _; (with_reducible repeat (first | refine blk_drewN ?_ _ | refine blk_drew ?_ | refine blk_alloc ?_ _)); refine blk_far ?_ NB135_136.out _; (with_reducible repeat (first | refine blk_drewN ?_ _ | refine blk_drew ?_ | refine blk_alloc ?_ _)); refine blk_put (cs := #[.slice none 0 0]) ?_ 0 _ rfl; (with_reducible repeat (first | refine blk_drewN ?_ _ | refine blk_drew ?_ | refine blk_alloc ?_ _)); exact BK135.out) Try.underlying38 rfl (by kernel_rfl) rfl (by (with_reducible repeat (first | refine blk_drewN ?_ _ | refine blk_drew ?_ | refine blk_alloc ?_ _)); refine blk_put (cs := #[.int .i64 0, .int .i64 0]) ?_ 1 _ rfl; (with_reducible repeat (first | refine blk_drewN ?_ _ | refine blk_drew ?_ | refine blk_alloc ?_ _)); refine blk_put (cs := #[.int .i64 0, .int .i64 0]) ?_ 0 _ rfl; (with_reducible repeat (first | refine blk_drewN ?_ _ | refine blk_drew ?_ | refine blk_alloc ?_ _)); refine blk_far ?_ NB136_135.out _; (with_reducible repeat (first | refine blk_drewN ?_ _ | refine blk_drew ?_ | refine blk_alloc ?_ _)); exact BK136.out) Try.underlying25 rfl (by kernel_rfl)) rfl ?_
 exact ⟨_, by first | rfl | (simp [errW_none, errW_some] <;> rfl) | (simp [*, errW_none, errW_some] <;> rfl), by (with_reducible repeat (first | apply Kd.S_alloc | apply Kd.S_drewN | apply Kd.S_drew)); exact Kd.S_mono (Kd.S_far (p := ⟨gb136, 1, none⟩) (Kd.S_far (p := ⟨gb136, 0, none⟩) (Kd.S_far (p := ⟨gb135, 0, none⟩) (Kd.S_types (Kd.S_types HO_141000.out BK135.out (by decide)) BK136.out (by decide)) (fun _ hk => hk.1.2) (.slice Ao120 x141000_1.length co120)) (fun _ hk => hk.2) (.int .i64 0)) (fun _ hk => hk.2) (.int .i64 0)) (fun _ hk => trivial), by repeat (first | (with_reducible first | exact HB.out | apply below_alloc | apply pw_below_drewN | apply below_drew1 | refine below_set ?_ GE135.out | refine below_set ?_ GE136.out | refine below_set ?_ GE139.out | refine below_set ?_ GE140.out) | exact HB.out)⟩
end Go.Proofs.Ytidnkaopndmigaa.P
