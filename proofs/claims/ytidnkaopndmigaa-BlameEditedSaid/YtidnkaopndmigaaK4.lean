/- Texts of ours, put together: GD, V24, Ty, SB, GP0, GP1, GP2, GP3. -/
import Derived.Test.YtidnkaopndmigaaK3
import Derived.Test.YtidnkaopndmigaaShelf
import Derived.Test.YtidnkaopndmigaaProg
import Derived.KernelRfl
section
set_option linter.unusedSimpArgs false
set_option linter.unusedVariables false
/- What the functions compute, as plain Lean functions: printed by a program of ours. -/
namespace Go.Proofs.Ytidnkaopndmigaa.F
open Go Go.Proofs.Ytidnkaopndmigaa.V
set_option maxRecDepth 100000
set_option linter.unusedVariables false

def lcs : List ByteArray → List ByteArray → Nat
  | [], _ => 0
  | _ :: _, [] => 0
  | a :: x, b :: y => if a = b then lcs x y + 1 else max (lcs x (b :: y)) (lcs (a :: x) y)
termination_by x y => x.length + y.length
/-- A table out of a function. -/
def tab (n m : Nat) (f : Nat → Nat → Int) : List (List Int) := (List.range (n + 1)).map fun i => (List.range (m + 1)).map fun j => f i j
noncomputable def diff_measure_30 (a : List ByteArray × List ByteArray × Unit) : Option (List (List Int) × Unit) := if a.1.length ≤ 500 ∧ a.2.1.length ≤ 500 then some (tab a.1.length a.2.1.length (fun i j => (lcs (a.1.drop i) (a.2.1.drop j) : Int)), ()) else none
noncomputable def strings_ContainsRune_32 (a : ByteArray × Int × Unit) : Option (Bool × Unit) := if 0 ≤ a.2.1 ∧ a.2.1 < 128 then some (decide (0 ≤ Go.Lib.indexByte a.1.data.toList a.2.1.toNat.toUInt8), ()) else none
/- unicode/utf8.ValidRune -/
noncomputable def utf8_ValidRune_35 (a : (Int) × Unit) : Option ((Bool) × Unit) :=
  let x0 := a.1
  let j0 : (Bool) × Unit → _ := fun s0 =>
    let x1 := s0.1
    if x1 = true then
     some (true, ())
    else
     let j0 : (Bool) × Unit → _ := fun s0 =>
       let x2 := s0.1
       if x2 = true then
        some (true, ())
       else
        some (false, ())
     let x2 : Bool := decide ((57343 : Int) < x0)
     if x2 = true then
      let x3 : Bool := decide ((x0 : Int) ≤ 1114111)
      j0 (x3, ())
     else
      j0 (false, ())
  let x1 : Bool := decide ((0 : Int) ≤ x0)
  if x1 = true then
   let x2 : Bool := decide ((x0 : Int) < 55296)
   j0 (x2, ())
  else
   j0 (false, ())

/- internal/bytealg.Cutover -/
noncomputable def bytealg_Cutover_36 (a : (Int) × Unit) : Option ((Int) × Unit) :=
  let x0 := a.1
  let x1 : Int := IntKind.wrap .i64 (x0 + 16)
  if (8 : Int) ≠ 0 then
   let x2 : Int := IntKind.wrap .i64 (Int.tdiv x1 8)
   some (x2, ())
  else none

/- changeforge/lines.Validate -/
noncomputable def lines_Validate_28 (a : (List (ByteArray)) × Unit) : Option (((Int) × (Int) × Unit) × Unit) :=
  let x0 := a.1
  let x1 : Int := (List.length x0 : Int)
  let x2 : Bool := decide ((x1 : Int) > 120)
  if x2 = true then
   let x3 : (Int) × (Int) × Unit := (2, (-1), ())
   some (x3, ())
  else
   let x3 : Int := (List.length x0 : Int)
   let j0 : Unit → _ := fun s0 =>
     let x4 : (Int) × (Int) × Unit := (0, 0, ())
     some (x4, ())
   loopC (fun (s1 : (Int) × Unit) =>
     let x4 := s1.1
     let x5 : Bool := decide ((x4 : Int) < x3)
     if x5 = true then
      atC x0 x4 fun y6 =>
       let x6 : ByteArray := y6
       let x7 : ByteArray := x6
       let x8 : Int := (ByteArray.size x7 : Int)
       let x9 : Bool := decide ((x8 : Int) > 80)
       if x9 = true then
        let x10 : Int := x4
        let x11 : (Int) × (Int) × Unit := (2, x10, ())
        some (.inr (x11, ()))
       else
        Option.bind (strings_ContainsRune_32 (x7, 10, ())) fun r10 =>
         let x10 := r10.1
         if x10 = true then
          let x11 : Int := x4
          let x12 : (Int) × (Int) × Unit := (5, x11, ())
          some (.inr (x12, ()))
         else
          let x11 : Int := IntKind.wrap .i64 (x4 + 1)
          some (.inl (x11, ()))
     else
      Option.map .inr (j0 (())))
     (0, ())

/- changeforge/lines.Code -/
noncomputable def lines_Code_17 (a : (List (ByteArray)) × Unit) : Option ((Int) × Unit) :=
  let x0 := a.1
  Option.bind (lines_Validate_28 (x0, ())) fun r1 =>
   let x1 := r1.1
   let x2 : Int := x1.1
   some (x2, ())

/- changeforge/lines.Two -/
noncomputable def lines_Two_21 (a : (List (ByteArray)) × (List (ByteArray)) × Unit) : Option (((Int) × (Int) × Unit) × Unit) :=
  let x0 := a.1
  let x1 := a.2.1
  Option.bind (lines_Validate_28 (x0, ())) fun r2 =>
   let x2 := r2.1
   let x3 : Int := x2.1
   let x4 : Int := x2.2.1
   let x5 : (Int) × (Int) × Unit := (x3, x4, ())
   let x6 : (Int) × (Int) × Unit := (0, 0, ())
   let x7 : Bool := (!((x5.1 : Int) == x6.1 && ((x5.2.1 : Int) == x6.2.1 && true)))
   if x7 = true then
    let x8 : (Int) × (Int) × Unit := (x3, x4, ())
    some (x8, ())
   else
    Option.bind (lines_Code_17 (x1, ())) fun r8 =>
     let x8 := r8.1
     let x9 : Bool := ((x8 : Int) != 0)
     if x9 = true then
      let x10 : Int := x8
      let x11 : (Int) × (Int) × Unit := (x10, (-2), ())
      some (x11, ())
     else
      let x10 : (Int) × (Int) × Unit := (0, 0, ())
      some (x10, ())

/- changeforge/diff.Script$2 -/
noncomputable def diff_Script_2_24 (a : ((Int) × (List (ByteArray)) × (List (ByteArray)) × Unit) × (List ((Int) × (List (ByteArray)) × (List (ByteArray)) × Unit)) × Unit) : Option ((List ((Int) × (List (ByteArray)) × (List (ByteArray)) × Unit)) × Unit) :=
  let x0 := a.1
  let x1 := a.2.1
  let x2 : Int := x0.1
  let x3 : List (ByteArray) := x0.2.1
  let x4 : List (ByteArray) := x0.2.2.1
  let x5 : (Int) × (List (ByteArray)) × (List (ByteArray)) × Unit := (x2, x3, x4, ())
  let x6 : List ((Int) × (List (ByteArray)) × (List (ByteArray)) × Unit) := [x5]
  if (List.length x1 + List.length x6) * 56 ≤ 140737488355328 ∧ List.length x1 + List.length x6 ≤ maxLen then
   let x7 : List ((Int) × (List (ByteArray)) × (List (ByteArray)) × Unit) := x1 ++ x6
   some (x7, ())
  else none

/- changeforge/diff.Script$1 -/
noncomputable def diff_Script_1_23 (a : (Int) × Unit) : Option (Unit) :=
  let x0 := a.1
  some (())

/- changeforge/diff.steps -/
noncomputable def diff_steps_22_23_24 (a : (List (ByteArray)) × (List (ByteArray)) × (List ((Int) × (List (ByteArray)) × (List (ByteArray)) × Unit)) × Unit) : Option ((List ((Int) × (List (ByteArray)) × (List (ByteArray)) × Unit)) × Unit) :=
  let x0 := a.1
  let x1 := a.2.1
  let x2 := a.2.2.1
  Option.bind (diff_measure_30 (x0, x1, ())) fun r3 =>
   let x3 := r3.1
   let j0 : (List ((Int) × (List (ByteArray)) × (List (ByteArray)) × Unit)) × Unit → _ := fun s0 =>
     let x4 := s0.1
     some (x4, ())
   loopC (fun (s1 : (Int) × (Int) × (List ((Int) × (List (ByteArray)) × (List (ByteArray)) × Unit)) × Unit) =>
     let x4 := s1.1
     let x5 := s1.2.1
     let x6 := s1.2.2.1
     let j2 : (Int) × (Int) × (Bool) × (List ((Int) × (List (ByteArray)) × (List (ByteArray)) × Unit)) × Unit → _ := fun s2 =>
       let x7 := s2.1
       let x8 := s2.2.1
       let x9 := s2.2.2.1
       let x10 := s2.2.2.2.1
       if x9 = true then
        let j2 : (Int) × (Int) × (List ((Int) × (List (ByteArray)) × (List (ByteArray)) × Unit)) × Unit → _ := fun s2 =>
          let x11 := s2.1
          let x12 := s2.2.1
          let x13 := s2.2.2.1
          some (.inl (x11, x12, x13, ()))
        let x11 : Int := x7
        let j3 : (Int) × (Int) × (List ((Int) × (List (ByteArray)) × (List (ByteArray)) × Unit)) × (Int) × (List (ByteArray)) × (List (ByteArray)) × Unit → _ := fun s3 =>
          let x12 := s3.1
          let x13 := s3.2.1
          let x14 := s3.2.2.1
          let x15 := s3.2.2.2.1
          let x16 := s3.2.2.2.2.1
          let x17 := s3.2.2.2.2.2.1
          let x18 : Int := (List.length x16 : Int)
          let x19 : Int := (List.length x17 : Int)
          let x20 : Int := IntKind.wrap .i64 (x18 + x19)
          let x21 : Bool := decide ((x20 : Int) > 0)
          if x21 = true then
           let x22 : (Int) × (List (ByteArray)) × (List (ByteArray)) × Unit := (x15, x16, x17, ())
           Option.bind (diff_Script_2_24 (x22, x14, ())) fun r23 =>
            let x23 := r23.1
            j2 (x12, x13, x23, ())
          else
           Option.bind (diff_Script_1_23 (x12, ())) fun r22 =>
            let x22 : Int := IntKind.wrap .i64 (x12 + 1)
            let x23 : Int := IntKind.wrap .i64 (x13 + 1)
            j2 (x22, x23, x14, ())
        loopC (fun (s4 : (Int) × (Int) × (List ((Int) × (List (ByteArray)) × (List (ByteArray)) × Unit)) × (Int) × (List (ByteArray)) × (List (ByteArray)) × Unit) =>
          let x12 := s4.1
          let x13 := s4.2.1
          let x14 := s4.2.2.1
          let x15 := s4.2.2.2.1
          let x16 := s4.2.2.2.2.1
          let x17 := s4.2.2.2.2.2.1
          let j5 : (Int) × (Int) × (Bool) × (List ((Int) × (List (ByteArray)) × (List (ByteArray)) × Unit)) × (Int) × (List (ByteArray)) × (List (ByteArray)) × Unit → _ := fun s5 =>
            let x18 := s5.1
            let x19 := s5.2.1
            let x20 := s5.2.2.1
            let x21 := s5.2.2.2.1
            let x22 := s5.2.2.2.2.1
            let x23 := s5.2.2.2.2.2.1
            let x24 := s5.2.2.2.2.2.2.1
            if x20 = true then
             let j5 : (Int) × (Int) × (List ((Int) × (List (ByteArray)) × (List (ByteArray)) × Unit)) × (Int) × (List (ByteArray)) × (List (ByteArray)) × Unit → _ := fun s5 =>
               let x25 := s5.1
               let x26 := s5.2.1
               let x27 := s5.2.2.1
               let x28 := s5.2.2.2.1
               let x29 := s5.2.2.2.2.1
               let x30 := s5.2.2.2.2.2.1
               some (.inl (x25, x26, x27, x28, x29, x30, ()))
             let j6 : (Int) × (Int) × (Bool) × (List ((Int) × (List (ByteArray)) × (List (ByteArray)) × Unit)) × (Int) × (List (ByteArray)) × (List (ByteArray)) × Unit → _ := fun s6 =>
               let x25 := s6.1
               let x26 := s6.2.1
               let x27 := s6.2.2.1
               let x28 := s6.2.2.2.1
               let x29 := s6.2.2.2.2.1
               let x30 := s6.2.2.2.2.2.1
               let x31 := s6.2.2.2.2.2.2.1
               let j6 : (Int) × (Int) × (List ((Int) × (List (ByteArray)) × (List (ByteArray)) × Unit)) × (Int) × (List (ByteArray)) × (List (ByteArray)) × Unit → _ := fun s6 =>
                 let x32 := s6.1
                 let x33 := s6.2.1
                 let x34 := s6.2.2.1
                 let x35 := s6.2.2.2.1
                 let x36 := s6.2.2.2.2.1
                 let x37 := s6.2.2.2.2.2.1
                 j5 (x32, x33, x34, x35, x36, x37, ())
               if x27 = true then
                atC x0 x25 fun y32 =>
                 let x32 : ByteArray := y32
                 let x33 : ByteArray := x32
                 let x34 : List (ByteArray) := [x33]
                 if (List.length x30 + List.length x34) * 16 ≤ 140737488355328 ∧ List.length x30 + List.length x34 ≤ maxLen then
                  let x35 : List (ByteArray) := x30 ++ x34
                  let x36 : Int := IntKind.wrap .i64 (x25 + 1)
                  j6 (x36, x26, x28, x29, x35, x31, ())
                 else none
               else
                atC x1 x26 fun y32 =>
                 let x32 : ByteArray := y32
                 let x33 : ByteArray := x32
                 let x34 : List (ByteArray) := [x33]
                 if (List.length x31 + List.length x34) * 16 ≤ 140737488355328 ∧ List.length x31 + List.length x34 ≤ maxLen then
                  let x35 : List (ByteArray) := x31 ++ x34
                  let x36 : Int := IntKind.wrap .i64 (x26 + 1)
                  j6 (x25, x36, x28, x29, x30, x35, ())
                 else none
             let x25 : Int := (List.length x1 : Int)
             let x26 : Bool := ((x19 : Int) == x25)
             if x26 = true then
              j6 (x18, x19, true, x21, x22, x23, x24, ())
             else
              let x27 : Int := (List.length x0 : Int)
              let x28 : Bool := decide ((x18 : Int) < x27)
              if x28 = true then
               let x29 : Int := IntKind.wrap .i64 (x18 + 1)
               atC x3 x29 fun y30 =>
                let x30 : List (Int) := y30
                let x31 : List (Int) := x30
                atC x31 x19 fun y32 =>
                 let x32 : Int := y32
                 let x33 : Int := x32
                 atC x3 x18 fun y34 =>
                  let x34 : List (Int) := y34
                  let x35 : List (Int) := x34
                  let x36 : Int := IntKind.wrap .i64 (x19 + 1)
                  atC x35 x36 fun y37 =>
                   let x37 : Int := y37
                   let x38 : Int := x37
                   let x39 : Bool := decide ((x33 : Int) ≥ x38)
                   j6 (x18, x19, x39, x21, x22, x23, x24, ())
              else
               j6 (x18, x19, false, x21, x22, x23, x24, ())
            else
             Option.map .inr (j3 (x18, x19, x21, x22, x23, x24, ()))
          let x18 : Int := (List.length x0 : Int)
          let x19 : Bool := decide ((x12 : Int) < x18)
          if x19 = true then
           let x20 : Int := (List.length x0 : Int)
           let x21 : Bool := ((x12 : Int) == x20)
           if x21 = true then
            j5 (x12, x13, true, x14, x15, x16, x17, ())
           else
            let x22 : Int := (List.length x1 : Int)
            let x23 : Bool := ((x13 : Int) == x22)
            if x23 = true then
             j5 (x12, x13, true, x14, x15, x16, x17, ())
            else
             atC x0 x12 fun y24 =>
              let x24 : ByteArray := y24
              let x25 : ByteArray := x24
              atC x1 x13 fun y26 =>
               let x26 : ByteArray := y26
               let x27 : ByteArray := x26
               let x28 : Bool := (!(ByteArray.toList x25 == ByteArray.toList x27))
               j5 (x12, x13, x28, x14, x15, x16, x17, ())
          else
           let x20 : Int := (List.length x1 : Int)
           let x21 : Bool := decide ((x13 : Int) < x20)
           if x21 = true then
            let x22 : Int := (List.length x0 : Int)
            let x23 : Bool := ((x12 : Int) == x22)
            if x23 = true then
             j5 (x12, x13, true, x14, x15, x16, x17, ())
            else
             let x24 : Int := (List.length x1 : Int)
             let x25 : Bool := ((x13 : Int) == x24)
             if x25 = true then
              j5 (x12, x13, true, x14, x15, x16, x17, ())
             else
              atC x0 x12 fun y26 =>
               let x26 : ByteArray := y26
               let x27 : ByteArray := x26
               atC x1 x13 fun y28 =>
                let x28 : ByteArray := y28
                let x29 : ByteArray := x28
                let x30 : Bool := (!(ByteArray.toList x27 == ByteArray.toList x29))
                j5 (x12, x13, x30, x14, x15, x16, x17, ())
           else
            j5 (x12, x13, false, x14, x15, x16, x17, ()))
          (x7, x8, x10, x11, ([] : List (ByteArray)), ([] : List (ByteArray)), ())
       else
        Option.map .inr (j0 (x10, ()))
     let x7 : Int := (List.length x0 : Int)
     let x8 : Bool := decide ((x4 : Int) < x7)
     if x8 = true then
      j2 (x4, x5, true, x6, ())
     else
      let x9 : Int := (List.length x1 : Int)
      let x10 : Bool := decide ((x5 : Int) < x9)
      j2 (x4, x5, x10, x6, ()))
     (0, 0, x2, ())

/- changeforge/diff.Script -/
noncomputable def diff_Script_15 (a : (List (ByteArray)) × (List (ByteArray)) × Unit) : Option (((List ((Int) × (List (ByteArray)) × (List (ByteArray)) × Unit)) × Unit) × ((Int) × (Int) × Unit) × Unit) :=
  let x0 := a.1
  let x1 := a.2.1
  Option.bind (lines_Two_21 (x0, x1, ())) fun r2 =>
   let x2 := r2.1
   let x3 : Int := x2.1
   let x4 : Int := x2.2.1
   let x5 : (Int) × (Int) × Unit := (x3, x4, ())
   let x6 : (Int) × (Int) × Unit := (0, 0, ())
   let x7 : Bool := (!((x5.1 : Int) == x6.1 && ((x5.2.1 : Int) == x6.2.1 && true)))
   if x7 = true then
    let x8 : (List ((Int) × (List (ByteArray)) × (List (ByteArray)) × Unit)) × Unit := (([] : List ((Int) × (List (ByteArray)) × (List (ByteArray)) × Unit)), ())
    let x9 : (Int) × (Int) × Unit := (x3, x4, ())
    some (x8, x9, ())
   else
    Option.bind (diff_steps_22_23_24 (x0, x1, ([] : List ((Int) × (List (ByteArray)) × (List (ByteArray)) × Unit)), ())) fun r8 =>
     let x8 := r8.1
     let x9 : (List ((Int) × (List (ByteArray)) × (List (ByteArray)) × Unit)) × Unit := (x8, ())
     let x10 : (Int) × (Int) × Unit := (0, 0, ())
     some (x9, x10, ())

/- changeforge/textpatch.End -/
noncomputable def textpatch_End_26 (a : ((Int) × (List (ByteArray)) × (List (ByteArray)) × Unit) × Unit) : Option ((Int) × Unit) :=
  let x0 := a.1
  let x1 : Int := x0.1
  let x2 : List (ByteArray) := x0.2.1
  let x3 : List (ByteArray) := x0.2.2.1
  let x4 : Int := (List.length x2 : Int)
  let x5 : Int := IntKind.wrap .i64 (x1 + x4)
  some (x5, ())

/- changeforge/blame.Follow -/
noncomputable def blame_Follow_18 (a : (List (Int)) × ((List ((Int) × (List (ByteArray)) × (List (ByteArray)) × Unit)) × Unit) × (Int) × Unit) : Option ((List (Int)) × Unit) :=
  let x0 := a.1
  let x1 := a.2.1
  let x2 := a.2.2.1
  let x3 : List ((Int) × (List (ByteArray)) × (List (ByteArray)) × Unit) := x1.1
  let x4 : Int := (List.length x3 : Int)
  let j0 : (List (Int)) × (Int) × Unit → _ := fun s0 =>
    let x5 := s0.1
    let x6 := s0.2.1
    if 0 ≤ x6 ∧ x6 ≤ (List.length x0 : Int) ∧ (List.length x0 : Int) ≤ (List.length x0 : Int) then
     let x7 : List (Int) := List.drop (Int.toNat x6) (List.take (Int.toNat (List.length x0 : Int)) x0)
     if (List.length x5 + List.length x7) * 8 ≤ 140737488355328 ∧ List.length x5 + List.length x7 ≤ maxLen then
      let x8 : List (Int) := x5 ++ x7
      some (x8, ())
     else none
    else none
  loopC (fun (s1 : (List (Int)) × (Int) × (Int) × Unit) =>
    let x5 := s1.1
    let x6 := s1.2.1
    let x7 := s1.2.2.1
    let x8 : Bool := decide ((x7 : Int) < x4)
    if x8 = true then
     atC x3 x7 fun y9 =>
      let x9 : (Int) × (List (ByteArray)) × (List (ByteArray)) × Unit := y9
      let x10 : (Int) × (List (ByteArray)) × (List (ByteArray)) × Unit := (x9.1, x9.2.1, x9.2.2.1, ())
      let x11 : Int := x10.1
      let x12 : List (ByteArray) := x10.2.1
      let x13 : List (ByteArray) := x10.2.2.1
      if 0 ≤ x6 ∧ x6 ≤ x11 ∧ x11 ≤ (List.length x0 : Int) then
       let x14 : List (Int) := List.drop (Int.toNat x6) (List.take (Int.toNat x11) x0)
       if (List.length x5 + List.length x14) * 8 ≤ 140737488355328 ∧ List.length x5 + List.length x14 ≤ maxLen then
        let x15 : List (Int) := x5 ++ x14
        let x16 : Int := (List.length x13 : Int)
        let j2 : (List (Int)) × (Int) × (Int) × (List (ByteArray)) × (List (ByteArray)) × Unit → _ := fun s2 =>
          let x17 := s2.1
          let x18 := s2.2.1
          let x19 := s2.2.2.1
          let x20 := s2.2.2.2.1
          let x21 := s2.2.2.2.2.1
          let x22 : (Int) × (List (ByteArray)) × (List (ByteArray)) × Unit := (x19, x20, x21, ())
          Option.bind (textpatch_End_26 (x22, ())) fun r23 =>
           let x23 := r23.1
           let x24 : Int := IntKind.wrap .i64 (x18 + 1)
           some (.inl (x17, x23, x24, ()))
        loopC (fun (s3 : (List (Int)) × (Int) × (Int) × (Int) × (Int) × (List (ByteArray)) × (List (ByteArray)) × Unit) =>
          let x17 := s3.1
          let x18 := s3.2.1
          let x19 := s3.2.2.1
          let x20 := s3.2.2.2.1
          let x21 := s3.2.2.2.2.1
          let x22 := s3.2.2.2.2.2.1
          let x23 := s3.2.2.2.2.2.2.1
          let x24 : Bool := decide ((x20 : Int) < x19)
          if x24 = true then
           let x25 : List (Int) := [x2]
           if (List.length x17 + List.length x25) * 8 ≤ 140737488355328 ∧ List.length x17 + List.length x25 ≤ maxLen then
            let x26 : List (Int) := x17 ++ x25
            let x27 : Int := IntKind.wrap .i64 (x20 + 1)
            some (.inl (x26, x18, x19, x27, x21, x22, x23, ()))
           else none
          else
           Option.map .inr (j2 (x17, x18, x21, x22, x23, ())))
          (x15, x7, x16, 0, x11, x12, x13, ())
       else none
      else none
    else
     Option.map .inr (j0 (x5, x6, ())))
    (([] : List (Int)), 0, 0, ())

/- changeforge/blame.Annotate -/
noncomputable def blame_Annotate_8 (a : (List (List (ByteArray))) × Unit) : Option ((List (Int)) × ((Int) × (Int) × Unit) × Unit) :=
  let x0 := a.1
  let x1 : Int := (List.length x0 : Int)
  let x2 : Bool := decide ((x1 : Int) > 16)
  if x2 = true then
   let x3 : (Int) × (Int) × Unit := (2, (-1), ())
   some (([] : List (Int)), x3, ())
  else
   let x3 : Int := (List.length x0 : Int)
   let j0 : Unit → _ := fun s0 =>
     let x4 : Int := (List.length x0 : Int)
     let j0 : (List (Int)) × Unit → _ := fun s0 =>
       let x5 := s0.1
       let x6 : (Int) × (Int) × Unit := (0, 0, ())
       some (x5, x6, ())
     loopC (fun (s1 : (List (Int)) × (List (ByteArray)) × (Int) × Unit) =>
       let x5 := s1.1
       let x6 := s1.2.1
       let x7 := s1.2.2.1
       let x8 : Bool := decide ((x7 : Int) < x4)
       if x8 = true then
        atC x0 x7 fun y9 =>
         let x9 : List (ByteArray) := y9
         let x10 : List (ByteArray) := x9
         Option.bind (diff_Script_15 (x6, x10, ())) fun r11 =>
          let x11 := r11.1
          let x12 := r11.2.1
          let x13 : List ((Int) × (List (ByteArray)) × (List (ByteArray)) × Unit) := x11.1
          let x14 : Int := x12.1
          let x15 : Int := x12.2.1
          let x16 : (List ((Int) × (List (ByteArray)) × (List (ByteArray)) × Unit)) × Unit := (x13, ())
          Option.bind (blame_Follow_18 (x5, x16, x7, ())) fun r17 =>
           let x17 := r17.1
           let x18 : Int := IntKind.wrap .i64 (x7 + 1)
           some (.inl (x17, x10, x18, ()))
       else
        Option.map .inr (j0 (x5, ())))
       (([] : List (Int)), ([] : List (ByteArray)), 0, ())
   loopC (fun (s1 : (Int) × Unit) =>
     let x4 := s1.1
     let x5 : Bool := decide ((x4 : Int) < x3)
     if x5 = true then
      atC x0 x4 fun y6 =>
       let x6 : List (ByteArray) := y6
       let x7 : List (ByteArray) := x6
       Option.bind (lines_Code_17 (x7, ())) fun r8 =>
        let x8 := r8.1
        let x9 : Bool := ((x8 : Int) != 0)
        if x9 = true then
         let x10 : Int := x8
         let x11 : Int := x4
         let x12 : (Int) × (Int) × Unit := (x10, x11, ())
         some (.inr (([] : List (Int)), x12, ()))
        else
         let x10 : Int := IntKind.wrap .i64 (x4 + 1)
         some (.inl (x10, ()))
     else
      Option.map .inr (j0 (())))
     (0, ())

/- changeforge/changeforgeequal.Ints -/
noncomputable def changeforgeequal_Ints_12 (a : (List (Int)) × (List (Int)) × Unit) : Option ((Bool) × Unit) :=
  let x0 := a.1
  let x1 := a.2.1
  let x2 : Int := (List.length x0 : Int)
  let x3 : Int := (List.length x1 : Int)
  let x4 : Bool := ((x2 : Int) != x3)
  if x4 = true then
   some (false, ())
  else
   let j0 : Unit → _ := fun s0 =>
     some (true, ())
   loopC (fun (s1 : (Int) × Unit) =>
     let x5 := s1.1
     let x6 : Int := (List.length x0 : Int)
     let x7 : Bool := decide ((x5 : Int) < x6)
     if x7 = true then
      atC x0 x5 fun y8 =>
       let x8 : Int := y8
       let x9 : Int := x8
       atC x1 x5 fun y10 =>
        let x10 : Int := y10
        let x11 : Int := x10
        let x12 : Bool := ((x9 : Int) != x11)
        if x12 = true then
         some (.inr (false, ()))
        else
         let x13 : Int := IntKind.wrap .i64 (x5 + 1)
         some (.inl (x13, ()))
     else
      Option.map .inr (j0 (())))
     (0, ())

/- changeforge/changeforgelaw2.added -/
noncomputable def changeforgelaw2_added_10 (a : Unit) : Option ((Bool) × Unit) :=
  let x0 : List (ByteArray) := [(⟨#[97]⟩ : ByteArray)]
  let x1 : List (ByteArray) := [(⟨#[98]⟩ : ByteArray), (⟨#[97]⟩ : ByteArray)]
  let x2 : List (List (ByteArray)) := [x0, x1]
  Option.bind (blame_Annotate_8 (x2, ())) fun r3 =>
   let x3 := r3.1
   let x4 := r3.2.1
   let x5 : Int := x4.1
   let x6 : Int := x4.2.1
   let j0 : (Bool) × Unit → _ := fun s0 =>
     let x7 := s0.1
     some (x7, ())
   let x7 : Bool := ((x5 : Int) == 0)
   if x7 = true then
    let x8 : List (Int) := [1, 0]
    Option.bind (changeforgeequal_Ints_12 (x3, x8, ())) fun r9 =>
     let x9 := r9.1
     j0 (x9, ())
   else
    j0 (false, ())

/- changeforge/changeforgelaw2.BlameUnchanged -/
noncomputable def changeforgelaw2_BlameUnchanged_5 (a : (List (List (ByteArray))) × Unit) : Option ((Bool) × Unit) :=
  let x0 := a.1
  Option.bind (blame_Annotate_8 (x0, ())) fun r1 =>
   let x1 := r1.1
   let x2 := r1.2.1
   let x3 : Int := x2.1
   let x4 : Int := x2.2.1
   let j0 : (Bool) × Unit → _ := fun s0 =>
     let x5 := s0.1
     if x5 = true then
      Option.bind (changeforgelaw2_added_10 (())) fun r6 =>
       let x6 := r6.1
       some (x6, ())
     else
      let x6 : List (List (ByteArray)) := []
      if (List.length x6 + List.length x0) * 24 ≤ 140737488355328 ∧ List.length x6 + List.length x0 ≤ maxLen then
       let x7 : List (List (ByteArray)) := x6 ++ x0
       let x8 : Int := (List.length x0 : Int)
       let x9 : Int := IntKind.wrap .i64 (x8 - 1)
       atC x0 x9 fun y10 =>
        let x10 : List (ByteArray) := y10
        let x11 : List (ByteArray) := x10
        let x12 : List (List (ByteArray)) := [x11]
        if (List.length x7 + List.length x12) * 24 ≤ 140737488355328 ∧ List.length x7 + List.length x12 ≤ maxLen then
         let x13 : List (List (ByteArray)) := x7 ++ x12
         Option.bind (blame_Annotate_8 (x13, ())) fun r14 =>
          let x14 := r14.1
          let x15 := r14.2.1
          let x16 : Int := x15.1
          let x17 : Int := x15.2.1
          let j0 : (Bool) × Unit → _ := fun s0 =>
            let x18 := s0.1
            some (x18, ())
          let x18 : Bool := ((x16 : Int) == 0)
          if x18 = true then
           Option.bind (changeforgeequal_Ints_12 (x1, x14, ())) fun r19 =>
            let x19 := r19.1
            if x19 = true then
             Option.bind (changeforgelaw2_added_10 (())) fun r20 =>
              let x20 := r20.1
              j0 (x20, ())
            else
             j0 (false, ())
          else
           j0 (false, ())
        else none
      else none
   let x5 : Bool := ((x3 : Int) != 0)
   if x5 = true then
    j0 (true, ())
   else
    let x6 : Int := (List.length x0 : Int)
    let x7 : Bool := ((x6 : Int) == 0)
    if x7 = true then
     j0 (true, ())
    else
     let x8 : Int := (List.length x0 : Int)
     let x9 : Bool := decide ((x8 : Int) ≥ 16)
     j0 (x9, ())

/- changeforge/textpatch.hunkCode -/
noncomputable def textpatch_hunkCode_31 (a : ((Int) × (List (ByteArray)) × (List (ByteArray)) × Unit) × (Int) × Unit) : Option ((Int) × Unit) :=
  let x0 := a.1
  let x1 := a.2.1
  let x2 : Int := x0.1
  let x3 : List (ByteArray) := x0.2.1
  let x4 : List (ByteArray) := x0.2.2.1
  let j0 : (Bool) × Unit → _ := fun s0 =>
    let x5 := s0.1
    if x5 = true then
     some (3, ())
    else
     Option.bind (lines_Code_17 (x3, ())) fun r6 =>
      let x6 := r6.1
      let x7 : Bool := ((x6 : Int) != 0)
      if x7 = true then
       Option.bind (lines_Code_17 (x3, ())) fun r8 =>
        let x8 := r8.1
        some (x8, ())
      else
       Option.bind (lines_Code_17 (x4, ())) fun r8 =>
        let x8 := r8.1
        let x9 : Bool := ((x8 : Int) != 0)
        if x9 = true then
         Option.bind (lines_Code_17 (x4, ())) fun r10 =>
          let x10 := r10.1
          some (x10, ())
        else
         let j0 : (Bool) × Unit → _ := fun s0 =>
           let x10 := s0.1
           if x10 = true then
            some (5, ())
           else
            let x11 : (Int) × (List (ByteArray)) × (List (ByteArray)) × Unit := (x2, x3, x4, ())
            Option.bind (textpatch_End_26 (x11, ())) fun r12 =>
             let x12 := r12.1
             let x13 : Bool := decide ((x12 : Int) > 120)
             if x13 = true then
              some (3, ())
             else
              some (0, ())
         let x10 : Int := (List.length x3 : Int)
         let x11 : Bool := ((x10 : Int) == 0)
         if x11 = true then
          let x12 : Int := (List.length x4 : Int)
          let x13 : Bool := ((x12 : Int) == 0)
          if x13 = true then
           j0 (true, ())
          else
           let x14 : Bool := decide ((x2 : Int) < x1)
           j0 (x14, ())
         else
          let x12 : Bool := decide ((x2 : Int) < x1)
          j0 (x12, ())
  let x5 : Bool := decide ((x2 : Int) < 0)
  if x5 = true then
   j0 (true, ())
  else
   let x6 : Bool := decide ((x2 : Int) > 120)
   j0 (x6, ())

/- changeforge/textpatch.Validate -/
noncomputable def textpatch_Validate_25 (a : ((List ((Int) × (List (ByteArray)) × (List (ByteArray)) × Unit)) × Unit) × Unit) : Option (((Int) × (Int) × Unit) × Unit) :=
  let x0 := a.1
  let x1 : List ((Int) × (List (ByteArray)) × (List (ByteArray)) × Unit) := x0.1
  let x2 : Int := (List.length x1 : Int)
  let x3 : Bool := decide ((x2 : Int) > 130)
  if x3 = true then
   let x4 : (Int) × (Int) × Unit := (2, (-1), ())
   some (x4, ())
  else
   let x4 : Int := (List.length x1 : Int)
   let j0 : Unit → _ := fun s0 =>
     let x5 : (Int) × (Int) × Unit := (0, 0, ())
     some (x5, ())
   loopC (fun (s1 : (Int) × (Int) × Unit) =>
     let x5 := s1.1
     let x6 := s1.2.1
     let x7 : Bool := decide ((x6 : Int) < x4)
     if x7 = true then
      atC x1 x6 fun y8 =>
       let x8 : (Int) × (List (ByteArray)) × (List (ByteArray)) × Unit := y8
       let x9 : (Int) × (List (ByteArray)) × (List (ByteArray)) × Unit := (x8.1, x8.2.1, x8.2.2.1, ())
       let x10 : Int := x9.1
       let x11 : List (ByteArray) := x9.2.1
       let x12 : List (ByteArray) := x9.2.2.1
       let x13 : (Int) × (List (ByteArray)) × (List (ByteArray)) × Unit := (x10, x11, x12, ())
       Option.bind (textpatch_hunkCode_31 (x13, x5, ())) fun r14 =>
        let x14 := r14.1
        let x15 : Bool := ((x14 : Int) != 0)
        if x15 = true then
         let x16 : Int := x14
         let x17 : Int := x6
         let x18 : (Int) × (Int) × Unit := (x16, x17, ())
         some (.inr (x18, ()))
        else
         let x16 : (Int) × (List (ByteArray)) × (List (ByteArray)) × Unit := (x10, x11, x12, ())
         Option.bind (textpatch_End_26 (x16, ())) fun r17 =>
          let x17 := r17.1
          let x18 : Int := IntKind.wrap .i64 (x17 + 1)
          let x19 : Int := IntKind.wrap .i64 (x6 + 1)
          some (.inl (x18, x19, ()))
     else
      Option.map .inr (j0 (())))
     (0, 0, ())

/- slices.Equal[[]string,string] -/
noncomputable def slices_Equal___string_string__27 (a : (List (ByteArray)) × (List (ByteArray)) × Unit) : Option ((Bool) × Unit) :=
  let x0 := a.1
  let x1 := a.2.1
  let x2 : Int := (List.length x0 : Int)
  let x3 : Int := (List.length x1 : Int)
  let x4 : Bool := ((x2 : Int) != x3)
  if x4 = true then
   some (false, ())
  else
   let x5 : Int := (List.length x0 : Int)
   let j0 : Unit → _ := fun s0 =>
     some (true, ())
   loopC (fun (s1 : (Int) × Unit) =>
     let x6 := s1.1
     let x7 : Bool := decide ((x6 : Int) < x5)
     if x7 = true then
      atC x0 x6 fun y8 =>
       let x8 : ByteArray := y8
       let x9 : ByteArray := x8
       atC x1 x6 fun y10 =>
        let x10 : ByteArray := y10
        let x11 : ByteArray := x10
        let x12 : Bool := (!(ByteArray.toList x9 == ByteArray.toList x11))
        if x12 = true then
         some (.inr (false, ()))
        else
         let x13 : Int := IntKind.wrap .i64 (x6 + 1)
         some (.inl (x13, ()))
     else
      Option.map .inr (j0 (())))
     (0, ())

/- changeforge/textpatch.Apply -/
noncomputable def textpatch_Apply_16 (a : ((List ((Int) × (List (ByteArray)) × (List (ByteArray)) × Unit)) × Unit) × (List (ByteArray)) × Unit) : Option ((List (ByteArray)) × ((Int) × (Int) × Unit) × Unit) :=
  let x0 := a.1
  let x1 := a.2.1
  let x2 : List ((Int) × (List (ByteArray)) × (List (ByteArray)) × Unit) := x0.1
  let x3 : (List ((Int) × (List (ByteArray)) × (List (ByteArray)) × Unit)) × Unit := (x2, ())
  Option.bind (textpatch_Validate_25 (x3, ())) fun r4 =>
   let x4 := r4.1
   let x5 : Int := x4.1
   let x6 : Int := x4.2.1
   let x7 : (Int) × (Int) × Unit := (x5, x6, ())
   let x8 : (Int) × (Int) × Unit := (0, 0, ())
   let x9 : Bool := (!((x7.1 : Int) == x8.1 && ((x7.2.1 : Int) == x8.2.1 && true)))
   if x9 = true then
    let x10 : (Int) × (Int) × Unit := (x5, x6, ())
    some (([] : List (ByteArray)), x10, ())
   else
    Option.bind (lines_Code_17 (x1, ())) fun r10 =>
     let x10 := r10.1
     let x11 : Bool := ((x10 : Int) != 0)
     if x11 = true then
      let x12 : Int := x10
      let x13 : (Int) × (Int) × Unit := (x12, (-2), ())
      some (([] : List (ByteArray)), x13, ())
     else
      let x12 : Int := (List.length x2 : Int)
      let j0 : (List (ByteArray)) × (Int) × Unit → _ := fun s0 =>
        let x13 := s0.1
        let x14 := s0.2.1
        if 0 ≤ x14 ∧ x14 ≤ (List.length x1 : Int) ∧ (List.length x1 : Int) ≤ (List.length x1 : Int) then
         let x15 : List (ByteArray) := List.drop (Int.toNat x14) (List.take (Int.toNat (List.length x1 : Int)) x1)
         if (List.length x13 + List.length x15) * 16 ≤ 140737488355328 ∧ List.length x13 + List.length x15 ≤ maxLen then
          let x16 : List (ByteArray) := x13 ++ x15
          let x17 : Int := (List.length x16 : Int)
          let x18 : Bool := decide ((x17 : Int) > 120)
          if x18 = true then
           let x19 : (Int) × (Int) × Unit := (10, (-1), ())
           some (([] : List (ByteArray)), x19, ())
          else
           let x19 : (Int) × (Int) × Unit := (0, 0, ())
           some (x16, x19, ())
         else none
        else none
      loopC (fun (s1 : (List (ByteArray)) × (Int) × (Int) × Unit) =>
        let x13 := s1.1
        let x14 := s1.2.1
        let x15 := s1.2.2.1
        let x16 : Bool := decide ((x15 : Int) < x12)
        if x16 = true then
         atC x2 x15 fun y17 =>
          let x17 : (Int) × (List (ByteArray)) × (List (ByteArray)) × Unit := y17
          let x18 : (Int) × (List (ByteArray)) × (List (ByteArray)) × Unit := (x17.1, x17.2.1, x17.2.2.1, ())
          let x19 : Int := x18.1
          let x20 : List (ByteArray) := x18.2.1
          let x21 : List (ByteArray) := x18.2.2.1
          let j2 : (List (ByteArray)) × (Int) × (Int) × (Bool) × (Int) × (List (ByteArray)) × (List (ByteArray)) × Unit → _ := fun s2 =>
            let x22 := s2.1
            let x23 := s2.2.1
            let x24 := s2.2.2.1
            let x25 := s2.2.2.2.1
            let x26 := s2.2.2.2.2.1
            let x27 := s2.2.2.2.2.2.1
            let x28 := s2.2.2.2.2.2.2.1
            if x25 = true then
             let x29 : Int := x24
             let x30 : (Int) × (Int) × Unit := (19, x29, ())
             some (.inr (([] : List (ByteArray)), x30, ()))
            else
             if 0 ≤ x23 ∧ x23 ≤ x26 ∧ x26 ≤ (List.length x1 : Int) then
              let x29 : List (ByteArray) := List.drop (Int.toNat x23) (List.take (Int.toNat x26) x1)
              if (List.length x22 + List.length x29) * 16 ≤ 140737488355328 ∧ List.length x22 + List.length x29 ≤ maxLen then
               let x30 : List (ByteArray) := x22 ++ x29
               if (List.length x30 + List.length x28) * 16 ≤ 140737488355328 ∧ List.length x30 + List.length x28 ≤ maxLen then
                let x31 : List (ByteArray) := x30 ++ x28
                let x32 : (Int) × (List (ByteArray)) × (List (ByteArray)) × Unit := (x26, x27, x28, ())
                Option.bind (textpatch_End_26 (x32, ())) fun r33 =>
                 let x33 := r33.1
                 let x34 : Int := IntKind.wrap .i64 (x24 + 1)
                 some (.inl (x31, x33, x34, ()))
               else none
              else none
             else none
          let x22 : (Int) × (List (ByteArray)) × (List (ByteArray)) × Unit := (x19, x20, x21, ())
          Option.bind (textpatch_End_26 (x22, ())) fun r23 =>
           let x23 := r23.1
           let x24 : Int := (List.length x1 : Int)
           let x25 : Bool := decide ((x23 : Int) > x24)
           if x25 = true then
            j2 (x13, x14, x15, true, x19, x20, x21, ())
           else
            let x26 : (Int) × (List (ByteArray)) × (List (ByteArray)) × Unit := (x19, x20, x21, ())
            Option.bind (textpatch_End_26 (x26, ())) fun r27 =>
             let x27 := r27.1
             if 0 ≤ x19 ∧ x19 ≤ x27 ∧ x27 ≤ (List.length x1 : Int) then
              let x28 : List (ByteArray) := List.drop (Int.toNat x19) (List.take (Int.toNat x27) x1)
              Option.bind (slices_Equal___string_string__27 (x28, x20, ())) fun r29 =>
               let x29 := r29.1
               let x30 : Bool := (!x29)
               j2 (x13, x14, x15, x30, x19, x20, x21, ())
             else none
        else
         Option.map .inr (j0 (x13, x14, ())))
        (([] : List (ByteArray)), 0, 0, ())

/- changeforge/changeforgelaw2.follows -/
noncomputable def changeforgelaw2_follows_14 (a : (List (ByteArray)) × (List (ByteArray)) × Unit) : Option ((Bool) × Unit) :=
  let x0 := a.1
  let x1 := a.2.1
  let j0 : (Int) × Unit → _ := fun s0 =>
    let x2 := s0.1
    let x3 : Int := (List.length x0 : Int)
    let x4 : Bool := ((x2 : Int) == x3)
    some (x4, ())
  loopC (fun (s1 : (Int) × (Int) × Unit) =>
    let x2 := s1.1
    let x3 := s1.2.1
    let j2 : (Int) × (Int) × (Bool) × Unit → _ := fun s2 =>
      let x4 := s2.1
      let x5 := s2.2.1
      let x6 := s2.2.2.1
      if x6 = true then
       let j2 : (Int) × (Int) × Unit → _ := fun s2 =>
         let x7 := s2.1
         let x8 := s2.2.1
         let x9 : Int := IntKind.wrap .i64 (x8 + 1)
         some (.inl (x7, x9, ()))
       atC x1 x5 fun y7 =>
        let x7 : ByteArray := y7
        let x8 : ByteArray := x7
        atC x0 x4 fun y9 =>
         let x9 : ByteArray := y9
         let x10 : ByteArray := x9
         let x11 : Bool := (ByteArray.toList x8 == ByteArray.toList x10)
         let j3 : (Int) × (Int) × Unit → _ := fun s3 =>
           let x12 := s3.1
           let x13 := s3.2.1
           j2 (x12, x13, ())
         if x11 = true then
          let x12 : Int := IntKind.wrap .i64 (x4 + 1)
          j3 (x12, x5, ())
         else
          j3 (x4, x5, ())
      else
       Option.map .inr (j0 (x4, ()))
    let x4 : Int := (List.length x1 : Int)
    let x5 : Bool := decide ((x3 : Int) < x4)
    if x5 = true then
     let x6 : Int := (List.length x0 : Int)
     let x7 : Bool := decide ((x2 : Int) < x6)
     j2 (x2, x3, x7, ())
    else
     j2 (x2, x3, false, ()))
    (0, 0, ())

/- changeforge/changeforgelaw2.BlameEdited -/
noncomputable def changeforgelaw2_BlameEdited_7 (a : (List (ByteArray)) × ((List ((Int) × (List (ByteArray)) × (List (ByteArray)) × Unit)) × Unit) × Unit) : Option ((Bool) × Unit) :=
  let x0 := a.1
  let x1 := a.2.1
  let x2 : List ((Int) × (List (ByteArray)) × (List (ByteArray)) × Unit) := x1.1
  let x3 : (List ((Int) × (List (ByteArray)) × (List (ByteArray)) × Unit)) × Unit := (x2, ())
  Option.bind (textpatch_Apply_16 (x3, x0, ())) fun r4 =>
   let x4 := r4.1
   let x5 := r4.2.1
   let x6 : Int := x5.1
   let x7 : Int := x5.2.1
   let x8 : Bool := ((x6 : Int) != 0)
   if x8 = true then
    Option.bind (changeforgelaw2_added_10 (())) fun r9 =>
     let x9 := r9.1
     some (x9, ())
   else
    let j0 : Unit → _ := fun s0 =>
      let x9 : List (List (ByteArray)) := [x0, x4]
      Option.bind (blame_Annotate_8 (x9, ())) fun r10 =>
       let x10 := r10.1
       let x11 := r10.2.1
       let x12 : Int := x11.1
       let x13 : Int := x11.2.1
       let j0 : (Bool) × Unit → _ := fun s0 =>
         let x14 := s0.1
         if x14 = true then
          some (false, ())
         else
          let j0 : Unit → _ := fun s0 =>
            Option.bind (changeforgelaw2_added_10 (())) fun r15 =>
             let x15 := r15.1
             some (x15, ())
          loopC (fun (s1 : (Int) × Unit) =>
            let x15 := s1.1
            let x16 : Int := (List.length x10 : Int)
            let x17 : Bool := decide ((x15 : Int) < x16)
            if x17 = true then
             atC x10 x15 fun y18 =>
              let x18 : Int := y18
              let x19 : Int := x18
              let x20 : Bool := ((x19 : Int) == 0)
              let x21 : Int := IntKind.wrap .i64 (x15 + 1)
              if 0 ≤ x15 ∧ x15 ≤ x21 ∧ x21 ≤ (List.length x4 : Int) then
               let x22 : List (ByteArray) := List.drop (Int.toNat x15) (List.take (Int.toNat x21) x4)
               Option.bind (changeforgelaw2_follows_14 (x22, x0, ())) fun r23 =>
                let x23 := r23.1
                let x24 : Bool := (!((x20 : Bool) == x23))
                if x24 = true then
                 some (.inr (false, ()))
                else
                 let x25 : Int := IntKind.wrap .i64 (x15 + 1)
                 some (.inl (x25, ()))
              else none
            else
             Option.map .inr (j0 (())))
            (0, ())
       let x14 : Bool := ((x12 : Int) != 0)
       if x14 = true then
        j0 (true, ())
       else
        let x15 : Int := (List.length x10 : Int)
        let x16 : Int := (List.length x4 : Int)
        let x17 : Bool := ((x15 : Int) != x16)
        j0 (x17, ())
    loopC (fun (s1 : (Int) × Unit) =>
      let x9 := s1.1
      let x10 : Int := (List.length x0 : Int)
      let x11 : Bool := decide ((x9 : Int) < x10)
      if x11 = true then
       let j2 : (Int) × Unit → _ := fun s2 =>
         let x12 := s2.1
         let x13 : Int := IntKind.wrap .i64 (x12 + 1)
         some (.inl (x13, ()))
       let j3 : (Int) × Unit → _ := fun s3 =>
         let x12 := s3.1
         j2 (x12, ())
       loopC (fun (s4 : (Int) × (Int) × Unit) =>
         let x12 := s4.1
         let x13 := s4.2.1
         let x14 : Int := (List.length x2 : Int)
         let x15 : Bool := decide ((x13 : Int) < x14)
         if x15 = true then
          let j5 : (Int) × (Int) × (Bool) × Unit → _ := fun s5 =>
            let x16 := s5.1
            let x17 := s5.2.1
            let x18 := s5.2.2.1
            if x18 = true then
             Option.bind (changeforgelaw2_added_10 (())) fun r19 =>
              let x19 := r19.1
              some (.inr (.inr (x19, ())))
            else
             let x19 : Int := IntKind.wrap .i64 (x17 + 1)
             some (.inl (x16, x19, ()))
          let x16 : Int := IntKind.wrap .i64 (x12 + 1)
          if 0 ≤ x12 ∧ x12 ≤ x16 ∧ x16 ≤ (List.length x0 : Int) then
           let x17 : List (ByteArray) := List.drop (Int.toNat x12) (List.take (Int.toNat x16) x0)
           atC x2 x13 fun y18 =>
            let x18 : (Int) × (List (ByteArray)) × (List (ByteArray)) × Unit := y18
            let x19 : List (ByteArray) := x18.2.2.1
            Option.bind (changeforgelaw2_follows_14 (x17, x19, ())) fun r20 =>
             let x20 := r20.1
             if x20 = true then
              j5 (x12, x13, true, ())
             else
              let x21 : Bool := decide ((x12 : Int) > 0)
              if x21 = true then
               let x22 : Int := IntKind.wrap .i64 (x12 + 1)
               if 0 ≤ x12 ∧ x12 ≤ x22 ∧ x22 ≤ (List.length x0 : Int) then
                let x23 : List (ByteArray) := List.drop (Int.toNat x12) (List.take (Int.toNat x22) x0)
                if 0 ≤ (0 : Int) ∧ (0 : Int) ≤ x12 ∧ x12 ≤ (List.length x0 : Int) then
                 let x24 : List (ByteArray) := List.drop (Int.toNat (0 : Int)) (List.take (Int.toNat x12) x0)
                 Option.bind (changeforgelaw2_follows_14 (x23, x24, ())) fun r25 =>
                  let x25 := r25.1
                  j5 (x12, x13, x25, ())
                else none
               else none
              else
               j5 (x12, x13, false, ())
          else none
         else
          Option.map .inr (j3 (x12, ())))
         (x9, 0, ())
      else
       Option.map .inr (j0 (())))
      (0, ())

end Go.Proofs.Ytidnkaopndmigaa.F
end
section
set_option linter.unusedSimpArgs false
set_option linter.unusedVariables false
/- Rows of rows: a row of the call's own under another number. -/
namespace Go.Proofs.Ytidnkaopndmigaa.V
open Go.RowKit

variable {P : Program} {B : Nat → Nat → Prop} {M0 : Fr} {p : Pm} {C : List Loc} {T : List A} {X : List (Nat × List A)} {w : World}

def rnmA (k d : Nat) : A → A
  | .row k' e sz o n => .row (if k' = k then d else k') e sz o n
  | .box k' o => .box (if k' = k then d else k') o
  | a => a
/-- Nothing that is tied to a place, and nothing of the row d. -/
def plnA (d : Nat) : A → Prop
  | .row k _ _ _ _ => k ≠ d
  | .box k _ => k ≠ d
  | .grow _ _ _ => False
  | .bor _ _ _ _ => False
  | .fn _ cs => cs = []
  | _ => True
def rnmX (k d : Nat) : List (Nat × List A) → List (Nat × List A)
  | [] => []
  | (k', ls) :: X => (if k' = k then d else k', ls.map (rnmA k d)) :: rnmX k d X
def S.rnm (s : S) (k d : Nat) : S := { T := s.T.map (rnmA k d), X := rnmX k d s.X, C := s.C }

theorem rnmX_lk {k d : Nat} : ∀ {X : List (Nat × List A)} {k' : Nat} {ls : List A}, lk X d = none → lk (rnmX k d X) k' = some ls → ∃ k0 l0, lk X k0 = some l0 ∧ ls = l0.map (rnmA k d) ∧ ((k' = d ∧ k0 = k) ∨ (k' ≠ d ∧ k' ≠ k ∧ k0 = k'))
  | [], k', ls, _, h => by simp [rnmX, lk] at h
  | (k1, l1) :: X, k', ls, hd, h => by
    simp only [lk] at hd
    split at hd
    · cases hd
    rename_i hd1
    simp only [rnmX, lk] at h
    by_cases e : k1 = k
    · rw [if_pos e] at h
      by_cases hk : k' = d
      · rw [if_pos hk] at h
        injection h with h; subst h
        exact ⟨k, l1, by simp [lk, e], rfl, .inl ⟨hk, rfl⟩⟩
      · rw [if_neg hk] at h
        obtain ⟨k0, l0, h1, h2, h3⟩ := rnmX_lk hd h
        rcases h3 with ⟨q, _⟩ | ⟨q1, q2, q3⟩
        · exact absurd q hk
        · exact ⟨k0, l0, by simp only [lk]; rw [if_neg (by rw [q3, e]; exact q2)]; exact h1, h2, .inr ⟨q1, q2, q3⟩⟩
    · rw [if_neg e] at h
      by_cases hk : k' = k1
      · rw [if_pos hk] at h
        injection h with h; subst h
        exact ⟨k', l1, by simp [lk, hk], rfl, .inr ⟨fun q => hd1 (by rw [← q]; exact hk), by rw [hk]; exact e, rfl⟩⟩
      · rw [if_neg hk] at h
        obtain ⟨k0, l0, h1, h2, h3⟩ := rnmX_lk hd h
        refine ⟨k0, l0, ?_, h2, h3⟩
        simp only [lk]
        rw [if_neg]
        · exact h1
        · rcases h3 with ⟨_, q⟩ | ⟨_, _, q⟩
          · rw [q]; exact fun h => e h.symm
          · rw [q]; exact hk

def Pm.rnm (p : Pm) (k d : Nat) : Pm := { gr := p.gr, bx := fun k' => if k' = d then p.bx k else if k' = k then none else p.bx k' }
theorem rnm_bx {k d k' b : Nat} (h : (p.rnm k d).bx k' = some b) : (k' = d ∧ p.bx k = some b) ∨ (k' ≠ d ∧ k' ≠ k ∧ p.bx k' = some b) := by
  simp only [Pm.rnm] at h
  split at h
  · rename_i e; exact .inl ⟨e, h⟩
  · rename_i e
    split at h
    · cases h
    · rename_i e'; exact .inr ⟨e, e', h⟩
theorem rnm_M {k d b i : Nat} (h : (p.rnm k d).M M0 b i) : p.M M0 b i := by
  rcases h with h | ⟨k', h⟩ | h
  · exact .inl h
  · rcases rnm_bx h with ⟨_, h⟩ | ⟨_, _, h⟩ <;> exact .inr (.inl ⟨_, h⟩)
  · exact .inr (.inr h)
theorem rnm_ok {k d : Nat} (hk : k < 1000) (hd : d < 1000) (ok : p.ok B M0 w) : (p.rnm k d).ok B M0 w := by
  refine ⟨ok.m0, ok.size, fun k' b' h => ?_, fun l h hg => ok.gr l h hg, fun k1 k2 b' h1 h2 => ?_, ok.gri, fun k' b' l h hx hg => ?_, fun k' b' t n h => ?_⟩
  · rcases rnm_bx h with ⟨_, h⟩ | ⟨_, _, h⟩ <;> exact ok.bx _ _ h
  · rcases rnm_bx h1 with ⟨e1, g1⟩ | ⟨n1, m1, g1⟩ <;> rcases rnm_bx h2 with ⟨e2, g2⟩ | ⟨n2, m2, g2⟩
    · rw [e1, e2]
    · exact absurd (ok.bxi _ _ _ g2 g1) m2
    · exact absurd (ok.bxi _ _ _ g1 g2) m1
    · exact ok.bxi _ _ _ g1 g2
  · rcases rnm_bx hx with ⟨_, g⟩ | ⟨_, _, g⟩ <;> exact ok.dis _ _ _ _ g hg
  · obtain ⟨f1, f2, f3⟩ := ok.fx _ _ _ _ h
    refine ⟨f1, ?_, f3⟩
    simp only [Pm.rnm]
    rw [if_neg (by omega), if_neg (by omega)]; exact f2
theorem VA.rnm {k d : Nat} {l l' : Loc} {a : A} {v : Value} (hp : plnA d a) (h : VA w (p.M M0) p C l a v) : VA w ((p.rnm k d).M M0) (p.rnm k d) C l' (rnmA k d a) v := by
  have hkk : Keep w (p.M M0) w ((p.rnm k d).M M0) := fun a u h hn => ⟨h, fun hm => hn (rnm_M hm)⟩
  have hbx : ∀ k' b, k' ≠ d → p.bx k' = some b → (p.rnm k d).bx (if k' = k then d else k') = some b := by
    intro k' b hn hb
    simp only [Pm.rnm]
    by_cases e : k' = k
    · subst e; simp [hb]
    · rw [if_neg e, if_neg hn, if_neg e]; exact hb
  cases a with
  | d x => exact VD.mono hkk h
  | nil => exact h
  | grow e sz xs => exact hp.elim
  | bor l e sz xs => exact hp.elim
  | box k' o => obtain ⟨b, h1, h2⟩ := h; exact ⟨b, hbx _ _ hp h1, h2⟩
  | cell ls =>
    obtain ⟨a, h1, h2⟩ := h
    refine ⟨a, h1, fun j d hd => ?_⟩
    obtain ⟨h3, h4, u, h5, h6⟩ := h2 j d hd
    exact ⟨h3, fun hm => h4 (rnm_M hm), u, h5, VD.mono hkk h6⟩
  | unk => trivial
  | want => trivial
  | fn g cs =>
    have hp : cs = [] := hp
    subst hp
    obtain ⟨vs, h1, h2, h3⟩ := h
    exact ⟨vs, h1, h2, fun j k o hj => by simp at hj⟩
  | row k' e sz o n =>
    rcases h with h | ⟨b, cap, c, h1, h2⟩
    · exact .inl h
    · exact .inr ⟨b, cap, c, hbx _ _ hp h1, h2⟩
theorem Holds.rnm {w0 : World} {s : S} {a : Act} (h : Holds B M0 w0 s a w) {k d : Nat} (hk : k < 1000) (hd : d < 1000) (hT : ∀ x ∈ s.T, plnA d x) (hd0 : lk s.X d = none) (hX : ∀ k' ls, lk s.X k' = some ls → ∀ x ∈ ls, plnA d x) : Holds B M0 w0 (s.rnm k d) a w := by
  obtain ⟨p, hr, hdf, hb⟩ := h
  refine ⟨p.rnm k d, ⟨rnm_ok hk hd hr.ok, by simp only [S.rnm, List.length_map]; exact hr.len, fun t x ht => ?_, fun k' ls hl => ?_⟩, hdf, hb⟩
  · simp only [S.rnm, List.getElem?_map, Option.map_eq_some_iff] at ht
    obtain ⟨x', hx', rfl⟩ := ht
    exact VA.rnm (hT x' (List.mem_of_getElem? hx')) (hr.tm t x' hx')
  · obtain ⟨k0, l0, h1, rfl, h3⟩ := rnmX_lk hd0 hl
    rcases hr.bx k0 l0 h1 with rfl | ⟨b, c, e, q1, q2, q3, q4⟩
    · exact .inl rfl
    · refine .inr ⟨b, c, e, ?_, q2, by simpa using q3, fun j x hx => ?_⟩
      · simp only [Pm.rnm]
        rcases h3 with ⟨rfl, rfl⟩ | ⟨n1, n2, rfl⟩
        · rw [if_pos rfl]; exact q1
        · rw [if_neg n1, if_neg n2]; exact q1
      · rw [List.getElem?_map, Option.map_eq_some_iff] at hx
        obtain ⟨x', hx', rfl⟩ := hx
        exact VA.rnm (hX _ _ h1 x' (List.mem_of_getElem? hx')) (q4 j x' hx')
theorem AW.rnm {c : Code} {Q : Exit → S → Prop} {s : S} (k d : Nat) (hk : k < 1000) (hd : d < 1000) (hT : ∀ x ∈ s.T, plnA d x) (hd0 : lk s.X d = none) (hX : ∀ k' ls, lk s.X k' = some ls → ∀ x ∈ ls, plnA d x) (h : AW P c Q (s.rnm k d)) : AW P c Q s :=
  fun B M0 w0 a w hh => h B M0 w0 a w (hh.rnm hk hd hT hd0 hX)

/-! A table that changes no more. -/
def rowsOut (b0 : Nat) (e2 : TypeId) : List (List D) → List A
  | [] => []
  | r :: rs => .row b0 e2 1 0 r.length :: rowsOut (b0 + 1) e2 rs
theorem rowsOut_get {e2 : TypeId} : ∀ {Ls : List (List D)} {b0 i : Nat}, (rowsOut b0 e2 Ls)[i]? = (Ls[i]?).map fun r => .row (b0 + i) e2 1 0 r.length
  | [], b0, i => by simp [rowsOut]
  | r :: rs, b0, 0 => by simp [rowsOut]
  | r :: rs, b0, i + 1 => by
    simp only [rowsOut, List.getElem?_cons_succ]
    rw [rowsOut_get (Ls := rs), show b0 + 1 + i = b0 + (i + 1) by omega]
def frzT (Ls : List (List D)) : A → A
  | .row _ _ _ _ _ => .d (.sl (Ls.map .sl))
  | _ => .unk
theorem leaf_cells {x : D} (h : x.leaf = true) : x.cells = [x] := by cases x <;> first | rfl | simp [D.leaf] at h
theorem Holds.freezeT {w0 : World} {s : S} {a : Act} (h : Holds B M0 w0 s a w) {k0 b0 : Nat} {e e2 : TypeId} {Ls : List (List D)} (hk0 : k0 < 1000) (hb0 : b0 + Ls.length ≤ 1000) (hout : lk s.X k0 = some (rowsOut b0 e2 Ls))
    (hrows : ∀ i r, Ls[i]? = some r → lk s.X (b0 + i) = some (r.map .d)) (hleaf : ∀ r ∈ Ls, ∀ x ∈ r, x.leaf = true) (hT : ∀ x ∈ s.T, x = .unk ∨ x = .row k0 e 1 0 Ls.length) :
    Holds B M0 w0 ⟨s.T.map (frzT Ls), [], []⟩ a w := by
  obtain ⟨p, hr, hd, hbel⟩ := h
  let p' : Pm := ⟨fun _ => none, fun k => if k < 1000 then none else p.bx k⟩
  have hbx' : ∀ {k b}, p'.bx k = some b → ¬ k < 1000 ∧ p.bx k = some b := by
    intro k b h
    have h : (if k < 1000 then none else p.bx k) = some b := h
    split at h
    · cases h
    · exact ⟨by assumption, h⟩
  have hMM : ∀ b i, p'.M M0 b i → p.M M0 b i := by
    intro b i hm
    rcases hm with hm | ⟨k, hm⟩ | ⟨l, h, hm, _⟩
    · exact .inl hm
    · exact .inr (.inl ⟨k, (hbx' hm).2⟩)
    · cases hm
  have own : ∀ {k b}, k < 1000 → p.bx k = some b → ∀ i, ¬ p'.M M0 b i := by
    intro k b hk hb i hm
    rcases hm with hm | ⟨k', hm⟩ | ⟨l, h, hm, _⟩
    · exact (hr.ok.m0 _ _ hm).1 ((hr.ok.bx _ _ hb).1 i)
    · obtain ⟨h1, h2⟩ := hbx' hm
      exact h1 (by rw [hr.ok.bxi _ _ _ h2 hb]; exact hk)
    · cases hm
  have hkk : Keep w (p.M M0) w (p'.M M0) := fun a u h hn => ⟨h, fun hm => hn (hMM _ _ hm)⟩
  have inner : ∀ i r v, Ls[i]? = some r → VA w (p.M M0) p s.C (.l k0 i) (.row (b0 + i) e2 1 0 r.length) v → VD w (p'.M M0) (.sl r) v := by
    intro i r v hi hv
    have hil : i < Ls.length := (List.getElem?_eq_some_iff.1 hi).1
    rcases hv with ⟨hn, hv⟩ | ⟨b, cap, c, h1, h2, h3, h4, h5, h6⟩
    · have : r = [] := List.eq_nil_of_length_eq_zero hn
      subst this; rw [hv]; exact .nil 0
    · rw [h2]
      obtain ⟨c', e', r1, r2, r3⟩ := hr.bxb (hrows i r hi) h1
      rw [h5] at r1; injection r1 with r1; injection r1 with r1 r1'; subst r1; subst r1'
      refine VD.sl_mk _ _ 1 (fun j _ => c.getD j undef) h3 (fun j x hj => by rw [leaf_cells (hleaf r (List.mem_of_getElem? hi) x (List.mem_of_getElem? hj))]; rfl) (fun j x l d hj hl => ?_) rfl
      have hx := hleaf r (List.mem_of_getElem? hi) x (List.mem_of_getElem? hj)
      rw [leaf_cells hx] at hl
      have hl0 : l = 0 := by have := (List.getElem?_eq_some_iff.1 hl).1; simpa using this
      subst hl0
      injection hl with hl; subst hl
      have hjl : j < r.length := (List.getElem?_eq_some_iff.1 hj).1
      have hlt : j < c.size := by simp only [List.length_map] at r2; omega
      refine ⟨hx, ?_, own (by omega) h1 _, VD.mono hkk (r3 j (.d x) (by rw [List.getElem?_map, hj]; rfl))⟩
      rw [Addr.add_lit, cell_of_row w _ _ _ _ _ h5, Nat.zero_add, Nat.mul_one, Nat.add_zero, Array.getD_eq_getD_getElem?, Array.getElem?_eq_getElem hlt]; rfl
  refine ⟨p', ⟨⟨hr.ok.m0, hr.ok.size, fun k b h => hr.ok.bx _ _ (hbx' h).2, fun l h hg => (by cases hg), fun k k' b h h' => hr.ok.bxi _ _ _ (hbx' h).2 (hbx' h').2, fun l l' h h' hg => (by cases hg), fun k b l h _ hg => (by cases hg), fun k b t n hf => ?_⟩, by simp only [List.length_map]; exact hr.len, fun t x ht => ?_, fun k ls hl => by simp [lk] at hl⟩, hd, hbel⟩
  · obtain ⟨f1, f2, f3⟩ := hr.ok.fx _ _ _ _ hf
    exact ⟨f1, by show (if k < 1000 then none else p.bx k) = _; rw [if_neg (by omega)]; exact f2, f3⟩
  · simp only [List.getElem?_map, Option.map_eq_some_iff] at ht
    obtain ⟨x', hx', rfl⟩ := ht
    rcases hT x' (List.mem_of_getElem? hx') with rfl | rfl
    · trivial
    show VD _ _ _ _
    have hv := hr.tm t _ hx'
    rcases hv with ⟨hn, hv⟩ | ⟨b, cap, c, h1, h2, h3, h4, h5, h6⟩
    · have : Ls = [] := List.eq_nil_of_length_eq_zero hn
      subst this; rw [hv]; exact .nil 0
    · rw [h2]
      obtain ⟨c', e', r1, r2, r3⟩ := hr.bxb hout h1
      rw [h5] at r1; injection r1 with r1; injection r1 with r1 r1'; subst r1; subst r1'
      refine VD.sl_mk _ _ 1 (fun i _ => c.getD i undef) (by simpa using h3) (fun i x hi => ?_) (fun i x j d hi hj => ?_) (by simp)
      · rw [List.getElem?_map, Option.map_eq_some_iff] at hi
        obtain ⟨r, _, rfl⟩ := hi
        rfl
      · rw [List.getElem?_map, Option.map_eq_some_iff] at hi
        obtain ⟨r, hi, rfl⟩ := hi
        have hj0 : j = 0 := by have := (List.getElem?_eq_some_iff.1 hj).1; simpa [D.cells] using this
        subst hj0
        have hj : some (D.sl r) = some d := hj
        injection hj with hj; subst hj
        have hg : (rowsOut b0 e2 Ls)[i]? = some (.row (b0 + i) e2 1 0 r.length) := by rw [rowsOut_get, hi]; rfl
        have hlt : i < c.size := Nat.lt_of_lt_of_le (List.getElem?_eq_some_iff.1 hg).1 r2
        refine ⟨rfl, ?_, own hk0 h1 _, inner i r _ hi (r3 i _ hg)⟩
        rw [Addr.add_lit, cell_of_row w _ _ _ _ _ h5, Nat.zero_add, Nat.mul_one, Nat.add_zero, Array.getD_eq_getD_getElem?, Array.getElem?_eq_getElem hlt]; rfl
theorem AW.freezeT {c : Code} {Q : Exit → S → Prop} {s : S} {k0 b0 : Nat} {e e2 : TypeId} {Ls : List (List D)} (hk0 : k0 < 1000) (hb0 : b0 + Ls.length ≤ 1000) (hout : lk s.X k0 = some (rowsOut b0 e2 Ls))
    (hrows : ∀ i r, Ls[i]? = some r → lk s.X (b0 + i) = some (r.map .d)) (hleaf : ∀ r ∈ Ls, ∀ x ∈ r, x.leaf = true) (hT : ∀ x ∈ s.T, x = .unk ∨ x = .row k0 e 1 0 Ls.length) (h : AW P c Q ⟨s.T.map (frzT Ls), [], []⟩) : AW P c Q s :=
  fun B M0 w0 a w hh => h B M0 w0 a w (hh.freezeT hk0 hb0 hout hrows hleaf hT)
theorem Lp.tr {c : Code} {Q : Exit → S → Prop} {s s' : S} {n : Nat} (h : ∀ Q, AW P c Q s' → AW P c Q s) (hl : Lp P c Q n s') : Lp P c Q n s := by
  cases n with
  | zero => exact hl.elim
  | succ n => exact h _ hl
theorem Holds.weakT {w0 : World} {T T' : List A} {X : List (Nat × List A)} {C : List Loc} {a : Act} (hw : wk T T') (h : Holds B M0 w0 ⟨T, X, C⟩ a w) : Holds B M0 w0 ⟨T', X, C⟩ a w := by
  obtain ⟨p, hr, hd, hb⟩ := h
  obtain ⟨h4, h5⟩ := wk_get hw
  refine ⟨p, ⟨hr.ok, by rw [h4]; exact hr.len, fun t b ht => ?_, hr.bx⟩, hd, hb⟩
  obtain ⟨a', ha, hab⟩ := h5 t b ht
  exact VA.wk1 (fun _ h => h) hab (hr.tm t a' ha)
theorem AW.weakT {c : Code} {Q : Exit → S → Prop} {T T' : List A} {X : List (Nat × List A)} {C : List Loc} (hw : wk T T') (h : AW P c Q ⟨T', X, C⟩) : AW P c Q ⟨T, X, C⟩ :=
  fun B M0 w0 a w hh => h B M0 w0 a w (hh.weakT hw)
theorem AW.rounds' {c : Code} {Q : Exit → S → Prop} {α : Type} (st : α → S) (Inv : α → Prop) (μ : α → Nat)
    (round : ∀ x n, Inv x → (∀ y, Inv y → μ y < μ x → Lp P c Q n (st y)) → AW P c (seqQ (Lp P c Q n) Q) (st x)) {s : S} (x : α) (hx : Inv x) (hs : s = st x) : AW P (.loop c) Q s := by
  have key : ∀ n x, Inv x → μ x < n → Lp P c Q n (st x) := by
    intro n
    induction n with
    | zero => intro x _ h; omega
    | succ n ih =>
      intro x hx hn
      exact round x n hx fun y hy hlt => ih y hy (by omega)
  subst hs
  exact AW.loop (μ x + 1) (key _ x hx (by omega))
/-- What is known of the variables, in another order. -/
theorem Holds.sub {w0 : World} {T : List A} {X X' : List (Nat × List A)} {C : List Loc} {a : Act} (h : Holds B M0 w0 ⟨T, X, C⟩ a w) (hX : ∀ k ls, lk X' k = some ls → lk X k = some ls) : Holds B M0 w0 ⟨T, X', C⟩ a w := by
  obtain ⟨p, hr, hd, hb⟩ := h
  exact ⟨p, ⟨hr.ok, hr.len, hr.tm, fun k ls hk => hr.bx k ls (hX k ls hk)⟩, hd, hb⟩
theorem AW.sub {c : Code} {Q : Exit → S → Prop} {T : List A} {X X' : List (Nat × List A)} {C : List Loc} (hX : ∀ k ls, lk X' k = some ls → lk X k = some ls) (h : AW P c Q ⟨T, X', C⟩) : AW P c Q ⟨T, X, C⟩ :=
  fun B M0 w0 a w hh => h B M0 w0 a w (hh.sub hX)
end Go.Proofs.Ytidnkaopndmigaa.V
end
section
set_option linter.unusedSimpArgs false
set_option linter.unusedVariables false
/- What the program's types are. -/
namespace Go.Proofs.Ytidnkaopndmigaa.Ty
open Go.Proofs.Ytidnkaopndmigaa.V
theorem sz2 : szOf Try.prog 2 = some 1 := by kernel_rfl
theorem ag2 : aggOf Try.prog 2 = some false := by kernel_rfl
theorem in2 : intOf Try.prog 2 = some .i64 := by kernel_rfl
theorem un2 : (Try.prog.underlying 2).isSome = true := by kernel_rfl
theorem by2 : bytesOf Try.prog 2 = some 8 := by kernel_rfl
theorem ze2 : zeroOf Try.prog 2 = some [.d (.int .i64 0)] := by kernel_rfl
theorem sz3 : szOf Try.prog 3 = some 1 := by kernel_rfl
theorem ag3 : aggOf Try.prog 3 = some false := by kernel_rfl
theorem in3 : intOf Try.prog 3 = some .i64 := by kernel_rfl
theorem un3 : (Try.prog.underlying 3).isSome = true := by kernel_rfl
theorem by3 : bytesOf Try.prog 3 = some 8 := by kernel_rfl
theorem ze3 : zeroOf Try.prog 3 = some [.d (.int .i64 0)] := by kernel_rfl
theorem sz4 : szOf Try.prog 4 = some 1 := by kernel_rfl
theorem ag4 : aggOf Try.prog 4 = some false := by kernel_rfl
theorem bo4 : boolOf Try.prog 4 = true := by kernel_rfl
theorem by4 : bytesOf Try.prog 4 = some 1 := by kernel_rfl
theorem ze4 : zeroOf Try.prog 4 = some [.d (.bool false)] := by kernel_rfl
theorem sz5 : szOf Try.prog 5 = some 1 := by kernel_rfl
theorem ag5 : aggOf Try.prog 5 = some false := by kernel_rfl
theorem in5 : intOf Try.prog 5 = some .u8 := by kernel_rfl
theorem un5 : (Try.prog.underlying 5).isSome = true := by kernel_rfl
theorem by5 : bytesOf Try.prog 5 = some 1 := by kernel_rfl
theorem ze5 : zeroOf Try.prog 5 = some [.d (.int .u8 0)] := by kernel_rfl
theorem sz6 : szOf Try.prog 6 = some 1 := by kernel_rfl
theorem ag6 : aggOf Try.prog 6 = some false := by kernel_rfl
theorem in6 : intOf Try.prog 6 = some .u8 := by kernel_rfl
theorem un6 : (Try.prog.underlying 6).isSome = true := by kernel_rfl
theorem by6 : bytesOf Try.prog 6 = some 1 := by kernel_rfl
theorem ze6 : zeroOf Try.prog 6 = some [.d (.int .u8 0)] := by kernel_rfl
theorem sz7 : szOf Try.prog 7 = some 4 := by kernel_rfl
theorem ag7 : aggOf Try.prog 7 = some true := by kernel_rfl
theorem sk7 : strk Try.prog 7 = true := by kernel_rfl
theorem fl7_0 : fldOf Try.prog 7 0 = some (0, 2) := by kernel_rfl
theorem fl7_1 : fldOf Try.prog 7 1 = some (1, 3) := by kernel_rfl
theorem fl7_2 : fldOf Try.prog 7 2 = some (2, 4) := by kernel_rfl
theorem fl7_3 : fldOf Try.prog 7 3 = some (3, 6) := by kernel_rfl
theorem by7 : bytesOf Try.prog 7 = some 24 := by kernel_rfl
theorem ze7 : zeroOf Try.prog 7 = some [.d (.int .i64 0), .d (.int .i64 0), .d (.bool false), .d (.int .u8 0)] := by kernel_rfl
theorem sz8 : szOf Try.prog 8 = some 4 := by kernel_rfl
theorem ag8 : aggOf Try.prog 8 = some true := by kernel_rfl
theorem sk8 : strk Try.prog 8 = true := by kernel_rfl
theorem fl8_0 : fldOf Try.prog 8 0 = some (0, 2) := by kernel_rfl
theorem fl8_1 : fldOf Try.prog 8 1 = some (1, 3) := by kernel_rfl
theorem fl8_2 : fldOf Try.prog 8 2 = some (2, 4) := by kernel_rfl
theorem fl8_3 : fldOf Try.prog 8 3 = some (3, 6) := by kernel_rfl
theorem by8 : bytesOf Try.prog 8 = some 24 := by kernel_rfl
theorem ze8 : zeroOf Try.prog 8 = some [.d (.int .i64 0), .d (.int .i64 0), .d (.bool false), .d (.int .u8 0)] := by kernel_rfl
theorem sz9 : szOf Try.prog 9 = some 1 := by kernel_rfl
theorem ag9 : aggOf Try.prog 9 = some false := by kernel_rfl
theorem st9 : strOf Try.prog 9 = true := by kernel_rfl
theorem by9 : bytesOf Try.prog 9 = some 16 := by kernel_rfl
theorem ze9 : zeroOf Try.prog 9 = some [.d (.str ⟨#[]⟩)] := by kernel_rfl
theorem sz10 : szOf Try.prog 10 = some 1 := by kernel_rfl
theorem ag10 : aggOf Try.prog 10 = some false := by kernel_rfl
theorem st10 : strOf Try.prog 10 = true := by kernel_rfl
theorem by10 : bytesOf Try.prog 10 = some 16 := by kernel_rfl
theorem ze10 : zeroOf Try.prog 10 = some [.d (.str ⟨#[]⟩)] := by kernel_rfl
theorem sz11 : szOf Try.prog 11 = some 1 := by kernel_rfl
theorem ag11 : aggOf Try.prog 11 = some false := by kernel_rfl
theorem st11 : strOf Try.prog 11 = true := by kernel_rfl
theorem by11 : bytesOf Try.prog 11 = some 16 := by kernel_rfl
theorem ze11 : zeroOf Try.prog 11 = some [.d (.str ⟨#[]⟩)] := by kernel_rfl
theorem sz12 : szOf Try.prog 12 = some 1 := by kernel_rfl
theorem ag12 : aggOf Try.prog 12 = some false := by kernel_rfl
theorem in12 : intOf Try.prog 12 = some .u64 := by kernel_rfl
theorem un12 : (Try.prog.underlying 12).isSome = true := by kernel_rfl
theorem by12 : bytesOf Try.prog 12 = some 8 := by kernel_rfl
theorem ze12 : zeroOf Try.prog 12 = some [.d (.int .u64 0)] := by kernel_rfl
theorem sz13 : szOf Try.prog 13 = some 2 := by kernel_rfl
theorem ag13 : aggOf Try.prog 13 = some true := by kernel_rfl
theorem sk13 : strk Try.prog 13 = true := by kernel_rfl
theorem fl13_0 : fldOf Try.prog 13 0 = some (0, 9) := by kernel_rfl
theorem fl13_1 : fldOf Try.prog 13 1 = some (1, 12) := by kernel_rfl
theorem by13 : bytesOf Try.prog 13 = some 24 := by kernel_rfl
theorem ze13 : zeroOf Try.prog 13 = some [.d (.str ⟨#[]⟩), .d (.int .u64 0)] := by kernel_rfl
theorem sz14 : szOf Try.prog 14 = some 2 := by kernel_rfl
theorem ag14 : aggOf Try.prog 14 = some true := by kernel_rfl
theorem sk14 : strk Try.prog 14 = true := by kernel_rfl
theorem fl14_0 : fldOf Try.prog 14 0 = some (0, 9) := by kernel_rfl
theorem fl14_1 : fldOf Try.prog 14 1 = some (1, 12) := by kernel_rfl
theorem by14 : bytesOf Try.prog 14 = some 24 := by kernel_rfl
theorem ze14 : zeroOf Try.prog 14 = some [.d (.str ⟨#[]⟩), .d (.int .u64 0)] := by kernel_rfl
theorem sz15 : szOf Try.prog 15 = some 1 := by kernel_rfl
theorem ag15 : aggOf Try.prog 15 = some false := by kernel_rfl
theorem by15 : bytesOf Try.prog 15 = some 8 := by kernel_rfl
theorem sz16 : szOf Try.prog 16 = some 1 := by kernel_rfl
theorem ag16 : aggOf Try.prog 16 = some false := by kernel_rfl
theorem by16 : bytesOf Try.prog 16 = some 8 := by kernel_rfl
theorem sz17 : szOf Try.prog 17 = some 1 := by kernel_rfl
theorem ag17 : aggOf Try.prog 17 = some false := by kernel_rfl
theorem by17 : bytesOf Try.prog 17 = some 8 := by kernel_rfl
theorem sz18 : szOf Try.prog 18 = some 1 := by kernel_rfl
theorem ag18 : aggOf Try.prog 18 = some true := by kernel_rfl
theorem sk18 : strk Try.prog 18 = true := by kernel_rfl
theorem fl18_0 : fldOf Try.prog 18 0 = some (0, 17) := by kernel_rfl
theorem by18 : bytesOf Try.prog 18 = some 8 := by kernel_rfl
theorem sz19 : szOf Try.prog 19 = some 1 := by kernel_rfl
theorem ag19 : aggOf Try.prog 19 = some true := by kernel_rfl
theorem sk19 : strk Try.prog 19 = true := by kernel_rfl
theorem fl19_0 : fldOf Try.prog 19 0 = some (0, 17) := by kernel_rfl
theorem by19 : bytesOf Try.prog 19 = some 8 := by kernel_rfl
theorem sz21 : szOf Try.prog 21 = some 1 := by kernel_rfl
theorem ag21 : aggOf Try.prog 21 = some false := by kernel_rfl
theorem in21 : intOf Try.prog 21 = some .i32 := by kernel_rfl
theorem un21 : (Try.prog.underlying 21).isSome = true := by kernel_rfl
theorem by21 : bytesOf Try.prog 21 = some 4 := by kernel_rfl
theorem ze21 : zeroOf Try.prog 21 = some [.d (.int .i32 0)] := by kernel_rfl
theorem sz22 : szOf Try.prog 22 = some 1 := by kernel_rfl
theorem ag22 : aggOf Try.prog 22 = some false := by kernel_rfl
theorem el22 : V.elemOf Try.prog 22 = some 31 := by kernel_rfl
theorem by22 : bytesOf Try.prog 22 = some 24 := by kernel_rfl
theorem ze22 : zeroOf Try.prog 22 = some [.nil] := by kernel_rfl
theorem sz23 : szOf Try.prog 23 = some 1 := by kernel_rfl
theorem ag23 : aggOf Try.prog 23 = some false := by kernel_rfl
theorem el23 : V.elemOf Try.prog 23 = some 3 := by kernel_rfl
theorem by23 : bytesOf Try.prog 23 = some 24 := by kernel_rfl
theorem ze23 : zeroOf Try.prog 23 = some [.nil] := by kernel_rfl
theorem sz24 : szOf Try.prog 24 = some 2 := by kernel_rfl
theorem ag24 : aggOf Try.prog 24 = some true := by kernel_rfl
theorem sk24 : strk Try.prog 24 = true := by kernel_rfl
theorem fl24_0 : fldOf Try.prog 24 0 = some (0, 3) := by kernel_rfl
theorem fl24_1 : fldOf Try.prog 24 1 = some (1, 3) := by kernel_rfl
theorem by24 : bytesOf Try.prog 24 = some 16 := by kernel_rfl
theorem ze24 : zeroOf Try.prog 24 = some [.d (.int .i64 0), .d (.int .i64 0)] := by kernel_rfl
theorem sz25 : szOf Try.prog 25 = some 2 := by kernel_rfl
theorem ag25 : aggOf Try.prog 25 = some true := by kernel_rfl
theorem sk25 : strk Try.prog 25 = true := by kernel_rfl
theorem fl25_0 : fldOf Try.prog 25 0 = some (0, 3) := by kernel_rfl
theorem fl25_1 : fldOf Try.prog 25 1 = some (1, 3) := by kernel_rfl
theorem by25 : bytesOf Try.prog 25 = some 16 := by kernel_rfl
theorem ze25 : zeroOf Try.prog 25 = some [.d (.int .i64 0), .d (.int .i64 0)] := by kernel_rfl
theorem sz31 : szOf Try.prog 31 = some 1 := by kernel_rfl
theorem ag31 : aggOf Try.prog 31 = some false := by kernel_rfl
theorem el31 : V.elemOf Try.prog 31 = some 9 := by kernel_rfl
theorem by31 : bytesOf Try.prog 31 = some 24 := by kernel_rfl
theorem ze31 : zeroOf Try.prog 31 = some [.nil] := by kernel_rfl
theorem sz36 : szOf Try.prog 36 = some 1 := by kernel_rfl
theorem ag36 : aggOf Try.prog 36 = some false := by kernel_rfl
theorem el36 : V.elemOf Try.prog 36 = some 42 := by kernel_rfl
theorem by36 : bytesOf Try.prog 36 = some 24 := by kernel_rfl
theorem ze36 : zeroOf Try.prog 36 = some [.nil] := by kernel_rfl
theorem sz37 : szOf Try.prog 37 = some 1 := by kernel_rfl
theorem ag37 : aggOf Try.prog 37 = some true := by kernel_rfl
theorem sk37 : strk Try.prog 37 = true := by kernel_rfl
theorem fl37_0 : fldOf Try.prog 37 0 = some (0, 36) := by kernel_rfl
theorem by37 : bytesOf Try.prog 37 = some 24 := by kernel_rfl
theorem ze37 : zeroOf Try.prog 37 = some [.nil] := by kernel_rfl
theorem sz38 : szOf Try.prog 38 = some 1 := by kernel_rfl
theorem ag38 : aggOf Try.prog 38 = some true := by kernel_rfl
theorem sk38 : strk Try.prog 38 = true := by kernel_rfl
theorem fl38_0 : fldOf Try.prog 38 0 = some (0, 36) := by kernel_rfl
theorem by38 : bytesOf Try.prog 38 = some 24 := by kernel_rfl
theorem ze38 : zeroOf Try.prog 38 = some [.nil] := by kernel_rfl
theorem sz41 : szOf Try.prog 41 = some 3 := by kernel_rfl
theorem ag41 : aggOf Try.prog 41 = some true := by kernel_rfl
theorem sk41 : strk Try.prog 41 = true := by kernel_rfl
theorem fl41_0 : fldOf Try.prog 41 0 = some (0, 3) := by kernel_rfl
theorem fl41_1 : fldOf Try.prog 41 1 = some (1, 31) := by kernel_rfl
theorem fl41_2 : fldOf Try.prog 41 2 = some (2, 31) := by kernel_rfl
theorem by41 : bytesOf Try.prog 41 = some 56 := by kernel_rfl
theorem ze41 : zeroOf Try.prog 41 = some [.d (.int .i64 0), .nil, .nil] := by kernel_rfl
theorem sz42 : szOf Try.prog 42 = some 3 := by kernel_rfl
theorem ag42 : aggOf Try.prog 42 = some true := by kernel_rfl
theorem sk42 : strk Try.prog 42 = true := by kernel_rfl
theorem fl42_0 : fldOf Try.prog 42 0 = some (0, 3) := by kernel_rfl
theorem fl42_1 : fldOf Try.prog 42 1 = some (1, 31) := by kernel_rfl
theorem fl42_2 : fldOf Try.prog 42 2 = some (2, 31) := by kernel_rfl
theorem by42 : bytesOf Try.prog 42 = some 56 := by kernel_rfl
theorem ze42 : zeroOf Try.prog 42 = some [.d (.int .i64 0), .nil, .nil] := by kernel_rfl
theorem sz48 : szOf Try.prog 48 = some 1 := by kernel_rfl
theorem ag48 : aggOf Try.prog 48 = some false := by kernel_rfl
theorem el48 : V.elemOf Try.prog 48 = some 51 := by kernel_rfl
theorem by48 : bytesOf Try.prog 48 = some 24 := by kernel_rfl
theorem ze48 : zeroOf Try.prog 48 = some [.nil] := by kernel_rfl
theorem sz50 : szOf Try.prog 50 = some 2 := by kernel_rfl
theorem ag50 : aggOf Try.prog 50 = some true := by kernel_rfl
theorem sk50 : strk Try.prog 50 = true := by kernel_rfl
theorem fl50_0 : fldOf Try.prog 50 0 = some (0, 3) := by kernel_rfl
theorem fl50_1 : fldOf Try.prog 50 1 = some (1, 9) := by kernel_rfl
theorem by50 : bytesOf Try.prog 50 = some 24 := by kernel_rfl
theorem ze50 : zeroOf Try.prog 50 = some [.d (.int .i64 0), .d (.str ⟨#[]⟩)] := by kernel_rfl
theorem sz51 : szOf Try.prog 51 = some 2 := by kernel_rfl
theorem ag51 : aggOf Try.prog 51 = some true := by kernel_rfl
theorem sk51 : strk Try.prog 51 = true := by kernel_rfl
theorem fl51_0 : fldOf Try.prog 51 0 = some (0, 3) := by kernel_rfl
theorem fl51_1 : fldOf Try.prog 51 1 = some (1, 9) := by kernel_rfl
theorem by51 : bytesOf Try.prog 51 = some 24 := by kernel_rfl
theorem ze51 : zeroOf Try.prog 51 = some [.d (.int .i64 0), .d (.str ⟨#[]⟩)] := by kernel_rfl
theorem sz58 : szOf Try.prog 58 = some 1 := by kernel_rfl
theorem ag58 : aggOf Try.prog 58 = some false := by kernel_rfl
theorem el58 : V.elemOf Try.prog 58 = some 23 := by kernel_rfl
theorem by58 : bytesOf Try.prog 58 = some 24 := by kernel_rfl
theorem ze58 : zeroOf Try.prog 58 = some [.nil] := by kernel_rfl
theorem sz60 : szOf Try.prog 60 = some 1 := by kernel_rfl
theorem ag60 : aggOf Try.prog 60 = some false := by kernel_rfl
theorem el60 : V.elemOf Try.prog 60 = some 23 := by kernel_rfl
theorem by60 : bytesOf Try.prog 60 = some 24 := by kernel_rfl
theorem ze60 : zeroOf Try.prog 60 = some [.nil] := by kernel_rfl
theorem sz68 : szOf Try.prog 68 = some 1 := by kernel_rfl
theorem ag68 : aggOf Try.prog 68 = some false := by kernel_rfl
theorem in68 : intOf Try.prog 68 = some .u64 := by kernel_rfl
theorem un68 : (Try.prog.underlying 68).isSome = true := by kernel_rfl
theorem by68 : bytesOf Try.prog 68 = some 8 := by kernel_rfl
theorem ze68 : zeroOf Try.prog 68 = some [.d (.int .u64 0)] := by kernel_rfl
theorem sz71 : szOf Try.prog 71 = some 4 := by kernel_rfl
theorem ag71 : aggOf Try.prog 71 = some true := by kernel_rfl
theorem sk71 : strk Try.prog 71 = true := by kernel_rfl
theorem fl71_0 : fldOf Try.prog 71 0 = some (0, 17) := by kernel_rfl
theorem fl71_1 : fldOf Try.prog 71 1 = some (1, 17) := by kernel_rfl
theorem fl71_2 : fldOf Try.prog 71 2 = some (2, 17) := by kernel_rfl
theorem fl71_3 : fldOf Try.prog 71 3 = some (3, 9) := by kernel_rfl
theorem by71 : bytesOf Try.prog 71 = some 40 := by kernel_rfl
theorem sz72 : szOf Try.prog 72 = some 4 := by kernel_rfl
theorem ag72 : aggOf Try.prog 72 = some true := by kernel_rfl
theorem sk72 : strk Try.prog 72 = true := by kernel_rfl
theorem fl72_0 : fldOf Try.prog 72 0 = some (0, 17) := by kernel_rfl
theorem fl72_1 : fldOf Try.prog 72 1 = some (1, 17) := by kernel_rfl
theorem fl72_2 : fldOf Try.prog 72 2 = some (2, 17) := by kernel_rfl
theorem fl72_3 : fldOf Try.prog 72 3 = some (3, 9) := by kernel_rfl
theorem by72 : bytesOf Try.prog 72 = some 40 := by kernel_rfl
theorem sz73 : szOf Try.prog 73 = some 0 := by kernel_rfl
theorem ag73 : aggOf Try.prog 73 = some true := by kernel_rfl
theorem by73 : bytesOf Try.prog 73 = some 0 := by kernel_rfl
theorem ze73 : zeroOf Try.prog 73 = some [] := by kernel_rfl
theorem sz74 : szOf Try.prog 74 = some 0 := by kernel_rfl
theorem ag74 : aggOf Try.prog 74 = some true := by kernel_rfl
theorem sk74 : strk Try.prog 74 = true := by kernel_rfl
theorem fl74_0 : fldOf Try.prog 74 0 = some (0, 73) := by kernel_rfl
theorem by74 : bytesOf Try.prog 74 = some 0 := by kernel_rfl
theorem ze74 : zeroOf Try.prog 74 = some [] := by kernel_rfl
theorem sz75 : szOf Try.prog 75 = some 0 := by kernel_rfl
theorem ag75 : aggOf Try.prog 75 = some true := by kernel_rfl
theorem sk75 : strk Try.prog 75 = true := by kernel_rfl
theorem fl75_0 : fldOf Try.prog 75 0 = some (0, 73) := by kernel_rfl
theorem by75 : bytesOf Try.prog 75 = some 0 := by kernel_rfl
theorem ze75 : zeroOf Try.prog 75 = some [] := by kernel_rfl
theorem sz77 : szOf Try.prog 77 = some 1 := by kernel_rfl
theorem ag77 : aggOf Try.prog 77 = some false := by kernel_rfl
theorem in77 : intOf Try.prog 77 = some .u32 := by kernel_rfl
theorem un77 : (Try.prog.underlying 77).isSome = true := by kernel_rfl
theorem by77 : bytesOf Try.prog 77 = some 4 := by kernel_rfl
theorem ze77 : zeroOf Try.prog 77 = some [.d (.int .u32 0)] := by kernel_rfl
theorem sz78 : szOf Try.prog 78 = some 1 := by kernel_rfl
theorem ag78 : aggOf Try.prog 78 = some false := by kernel_rfl
theorem in78 : intOf Try.prog 78 = some .u8 := by kernel_rfl
theorem un78 : (Try.prog.underlying 78).isSome = true := by kernel_rfl
theorem by78 : bytesOf Try.prog 78 = some 1 := by kernel_rfl
theorem ze78 : zeroOf Try.prog 78 = some [.d (.int .u8 0)] := by kernel_rfl
theorem sz79 : szOf Try.prog 79 = some 1 := by kernel_rfl
theorem ag79 : aggOf Try.prog 79 = some false := by kernel_rfl
theorem in79 : intOf Try.prog 79 = some .u8 := by kernel_rfl
theorem un79 : (Try.prog.underlying 79).isSome = true := by kernel_rfl
theorem by79 : bytesOf Try.prog 79 = some 1 := by kernel_rfl
theorem ze79 : zeroOf Try.prog 79 = some [.d (.int .u8 0)] := by kernel_rfl
theorem sz81 : szOf Try.prog 81 = some 1 := by kernel_rfl
theorem ag81 : aggOf Try.prog 81 = some false := by kernel_rfl
theorem by81 : bytesOf Try.prog 81 = some 8 := by kernel_rfl
theorem sz82 : szOf Try.prog 82 = some 1 := by kernel_rfl
theorem ag82 : aggOf Try.prog 82 = some false := by kernel_rfl
theorem in82 : intOf Try.prog 82 = some .i32 := by kernel_rfl
theorem un82 : (Try.prog.underlying 82).isSome = true := by kernel_rfl
theorem by82 : bytesOf Try.prog 82 = some 4 := by kernel_rfl
theorem ze82 : zeroOf Try.prog 82 = some [.d (.int .i32 0)] := by kernel_rfl
theorem sz83 : szOf Try.prog 83 = some 1 := by kernel_rfl
theorem ag83 : aggOf Try.prog 83 = some false := by kernel_rfl
theorem in83 : intOf Try.prog 83 = some .i32 := by kernel_rfl
theorem un83 : (Try.prog.underlying 83).isSome = true := by kernel_rfl
theorem by83 : bytesOf Try.prog 83 = some 4 := by kernel_rfl
theorem ze83 : zeroOf Try.prog 83 = some [.d (.int .i32 0)] := by kernel_rfl
theorem sz84 : szOf Try.prog 84 = some 11 := by kernel_rfl
theorem ag84 : aggOf Try.prog 84 = some true := by kernel_rfl
theorem sk84 : strk Try.prog 84 = true := by kernel_rfl
theorem fl84_0 : fldOf Try.prog 84 0 = some (0, 12) := by kernel_rfl
theorem fl84_1 : fldOf Try.prog 84 1 = some (1, 12) := by kernel_rfl
theorem fl84_2 : fldOf Try.prog 84 2 = some (2, 77) := by kernel_rfl
theorem fl84_3 : fldOf Try.prog 84 3 = some (3, 78) := by kernel_rfl
theorem fl84_4 : fldOf Try.prog 84 4 = some (4, 5) := by kernel_rfl
theorem fl84_5 : fldOf Try.prog 84 5 = some (5, 5) := by kernel_rfl
theorem fl84_6 : fldOf Try.prog 84 6 = some (6, 79) := by kernel_rfl
theorem fl84_7 : fldOf Try.prog 84 7 = some (7, 80) := by kernel_rfl
theorem fl84_8 : fldOf Try.prog 84 8 = some (8, 81) := by kernel_rfl
theorem fl84_9 : fldOf Try.prog 84 9 = some (9, 82) := by kernel_rfl
theorem fl84_10 : fldOf Try.prog 84 10 = some (10, 83) := by kernel_rfl
theorem by84 : bytesOf Try.prog 84 = some 48 := by kernel_rfl
theorem sz85 : szOf Try.prog 85 = some 11 := by kernel_rfl
theorem ag85 : aggOf Try.prog 85 = some true := by kernel_rfl
theorem sk85 : strk Try.prog 85 = true := by kernel_rfl
theorem fl85_0 : fldOf Try.prog 85 0 = some (0, 12) := by kernel_rfl
theorem fl85_1 : fldOf Try.prog 85 1 = some (1, 12) := by kernel_rfl
theorem fl85_2 : fldOf Try.prog 85 2 = some (2, 77) := by kernel_rfl
theorem fl85_3 : fldOf Try.prog 85 3 = some (3, 78) := by kernel_rfl
theorem fl85_4 : fldOf Try.prog 85 4 = some (4, 5) := by kernel_rfl
theorem fl85_5 : fldOf Try.prog 85 5 = some (5, 5) := by kernel_rfl
theorem fl85_6 : fldOf Try.prog 85 6 = some (6, 79) := by kernel_rfl
theorem fl85_7 : fldOf Try.prog 85 7 = some (7, 80) := by kernel_rfl
theorem fl85_8 : fldOf Try.prog 85 8 = some (8, 81) := by kernel_rfl
theorem fl85_9 : fldOf Try.prog 85 9 = some (9, 82) := by kernel_rfl
theorem fl85_10 : fldOf Try.prog 85 10 = some (10, 83) := by kernel_rfl
theorem by85 : bytesOf Try.prog 85 = some 48 := by kernel_rfl
theorem sz86 : szOf Try.prog 86 = some 1 := by kernel_rfl
theorem ag86 : aggOf Try.prog 86 = some false := by kernel_rfl
theorem by86 : bytesOf Try.prog 86 = some 8 := by kernel_rfl
attribute [go_sem] sz2 ag2 in2 un2 by2 ze2 sz3 ag3 in3 un3 by3 ze3 sz4 ag4 bo4 by4 ze4 sz5 ag5 in5 un5 by5 ze5 sz6 ag6 in6 un6 by6 ze6 sz7 ag7 sk7 fl7_0 fl7_1 fl7_2 fl7_3 by7 ze7 sz8 ag8 sk8 fl8_0 fl8_1 fl8_2 fl8_3 by8 ze8 sz9 ag9 st9 by9 ze9 sz10 ag10 st10 by10 ze10 sz11 ag11 st11 by11 ze11 sz12 ag12 in12 un12 by12 ze12 sz13 ag13 sk13 fl13_0 fl13_1 by13 ze13 sz14 ag14 sk14 fl14_0 fl14_1 by14 ze14 sz15 ag15 by15 sz16 ag16 by16 sz17 ag17 by17 sz18 ag18 sk18 fl18_0 by18 sz19 ag19 sk19 fl19_0 by19 sz21 ag21 in21 un21 by21 ze21 sz22 ag22 el22 by22 ze22 sz23 ag23 el23 by23 ze23 sz24 ag24 sk24 fl24_0 fl24_1 by24 ze24 sz25 ag25 sk25 fl25_0 fl25_1 by25 ze25 sz31 ag31 el31 by31 ze31 sz36 ag36 el36 by36 ze36 sz37 ag37 sk37 fl37_0 by37 ze37 sz38 ag38 sk38 fl38_0 by38 ze38 sz41 ag41 sk41 fl41_0 fl41_1 fl41_2 by41 ze41 sz42 ag42 sk42 fl42_0 fl42_1 fl42_2 by42 ze42 sz48 ag48 el48 by48 ze48 sz50 ag50 sk50 fl50_0 fl50_1 by50 ze50 sz51 ag51 sk51 fl51_0 fl51_1 by51 ze51 sz58 ag58 el58 by58 ze58 sz60 ag60 el60 by60 ze60 sz68 ag68 in68 un68 by68 ze68 sz71 ag71 sk71 fl71_0 fl71_1 fl71_2 fl71_3 by71 sz72 ag72 sk72 fl72_0 fl72_1 fl72_2 fl72_3 by72 sz73 ag73 by73 ze73 sz74 ag74 sk74 fl74_0 by74 ze74 sz75 ag75 sk75 fl75_0 by75 ze75 sz77 ag77 in77 un77 by77 ze77 sz78 ag78 in78 un78 by78 ze78 sz79 ag79 in79 un79 by79 ze79 sz81 ag81 by81 sz82 ag82 in82 un82 by82 ze82 sz83 ag83 in83 un83 by83 ze83 sz84 ag84 sk84 fl84_0 fl84_1 fl84_2 fl84_3 fl84_4 fl84_5 fl84_6 fl84_7 fl84_8 fl84_9 fl84_10 by84 sz85 ag85 sk85 fl85_0 fl85_1 fl85_2 fl85_3 fl85_4 fl85_5 fl85_6 fl85_7 fl85_8 fl85_9 fl85_10 by85 sz86 ag86 by86
end Go.Proofs.Ytidnkaopndmigaa.Ty
end
section
set_option linter.unusedSimpArgs false
set_option linter.unusedVariables false
/- diff.measure: the table of the longest common subsequences. -/
namespace Go.Proofs.Ytidnkaopndmigaa.F
open Go Go.Proofs.Ytidnkaopndmigaa.V
set_option maxRecDepth 100000

theorem lcs_nil (y : List ByteArray) : lcs [] y = 0 := by unfold lcs; rfl
theorem lcs_nil2 (x : List ByteArray) : lcs x [] = 0 := by cases x <;> (unfold lcs; rfl)
theorem lcs_cons (a b : ByteArray) (x y : List ByteArray) : lcs (a :: x) (b :: y) = if a = b then lcs x y + 1 else max (lcs x (b :: y)) (lcs (a :: x) y) := by
  rw [lcs]
theorem lcs_le (x y : List ByteArray) : lcs x y ≤ x.length ∧ lcs x y ≤ y.length := by
  fun_induction lcs x y with
  | case1 y => simp
  | case2 a x => simp
  | case3 a x y ih =>
    simp only [List.length_cons]
    omega
  | case4 a x b y h ih1 ih2 =>
    simp only [List.length_cons] at ih1 ih2 ⊢
    omega
def iD (n : Int) : D := .int .i64 n
def rowsX (b : Nat) : List (List D) → List (Nat × List A)
  | [] => []
  | r :: rs => (b, r.map .d) :: rowsX (b + 1) rs
theorem lk_rowsX : ∀ {Ls : List (List D)} {b i : Nat}, lk (rowsX b Ls) (b + i) = (Ls[i]?).map fun r => r.map .d
  | [], b, i => by simp [rowsX, lk]
  | r :: rs, b, 0 => by simp [rowsX, lk]
  | r :: rs, b, i + 1 => by
    simp only [rowsX, lk, List.getElem?_cons_succ]
    rw [if_neg (by omega), show b + (i + 1) = b + 1 + i by omega]
    exact lk_rowsX
theorem lk_rowsX_lt : ∀ {Ls : List (List D)} {b k : Nat}, k < b → lk (rowsX b Ls) k = none
  | [], b, k, _ => rfl
  | r :: rs, b, k, h => by
    simp only [rowsX, lk]
    rw [if_neg (by omega)]
    exact lk_rowsX_lt (by omega)
def zr (m : Nat) : List D := List.replicate (m + 1) (iD 0)

def outX (N : Nat) (Ls : List (List D)) : List A := rowsOut 200 3 Ls ++ List.replicate (N - Ls.length) A.nil
theorem rowsOut_len : ∀ {Ls : List (List D)} {b : Nat}, (rowsOut b 3 Ls).length = Ls.length
  | [], _ => rfl
  | r :: rs, b => by simp [rowsOut, rowsOut_len]
theorem outX_len {N : Nat} {Ls : List (List D)} (h : Ls.length ≤ N) : (outX N Ls).length = N := by
  unfold outX; rw [List.length_append, rowsOut_len, List.length_replicate]; omega
theorem clX_rows {k : Nat} : ∀ {Ls : List (List D)} {b : Nat}, k < b → clX [] [k] (rowsX b Ls) = rowsX b Ls
  | [], _, _ => rfl
  | r :: rs, b, h => by
    have hc : ∀ (l : List D) n, clL [] [k] b n (l.map .d) = l.map .d := by
      intro l
      induction l with
      | nil => intro n; rfl
      | cons x l ih => intro n; simp only [List.map_cons, clL, ih]; rfl
    have hb : ([k].contains b) = false := by simp; omega
    simp only [rowsX, clX, hb, hc, clX_rows (show k < b + 1 by omega)]
    rfl
theorem clL_rowsOut {k : Nat} : ∀ {Ls : List (List D)} {b n : Nat}, k < b → clL [] [k] 12 n (rowsOut b 3 Ls) = rowsOut b 3 Ls
  | [], _, _, _ => rfl
  | r :: rs, b, n, h => by
    have hb : ([k].contains b) = false := by simp; omega
    simp only [rowsOut, clL, clAt, clA, hb, clL_rowsOut (show k < b + 1 by omega)]
    rfl
theorem clL_nils {k : Nat} : ∀ {m n : Nat}, clL [] [k] 12 n (List.replicate m A.nil) = List.replicate m A.nil
  | 0, _ => rfl
  | m + 1, n => by simp only [List.replicate_succ, clL, clL_nils]; rfl
theorem clL_app {ds ks k} : ∀ {l1 l2 : List A} {n : Nat}, clL ds ks k n (l1 ++ l2) = clL ds ks k n l1 ++ clL ds ks k (n + l1.length) l2
  | [], l2, n => by simp [clL]
  | a :: l1, l2, n => by simp only [List.cons_append, clL, clL_app, List.length_cons]; rw [show n + 1 + l1.length = n + (l1.length + 1) by omega]
theorem clL_out {k N : Nat} {Ls : List (List D)} (h : k < 200) : clL [] [k] 12 0 (outX N Ls) = outX N Ls := by
  unfold outX; rw [clL_app, clL_rowsOut h, clL_nils]
theorem clX23 {Ls : List (List D)} : clX [] [23] (rowsX 200 Ls) = rowsX 200 Ls := clX_rows (by omega)
theorem clL23 {N : Nat} {Ls : List (List D)} : clL [] [23] 12 0 (outX N Ls) = outX N Ls := clL_out (by omega)

theorem rnmA_d {k d : Nat} : ∀ l : List D, (l.map A.d).map (rnmA k d) = l.map A.d
  | [] => rfl
  | x :: l => by simp only [List.map_cons, rnmA_d l]; rfl
theorem rnmX_rows {d : Nat} : ∀ {Ls : List (List D)} {b : Nat}, 23 < b → rnmX 23 d (rowsX b Ls) = rowsX b Ls
  | [], _, _ => rfl
  | r :: rs, b, h => by
    simp only [rowsX, rnmX, rnmA_d, rnmX_rows (show 23 < b + 1 by omega)]
    rw [if_neg (by omega)]
theorem outX_get {N : Nat} {Ls : List (List D)} {j : Nat} : (outX N Ls)[j]? = if j < Ls.length then (Ls[j]?).map (fun r => A.row (200 + j) 3 1 0 r.length) else if j - Ls.length < N - Ls.length then some A.nil else none := by
  unfold outX
  rw [List.getElem?_append, rowsOut_len]
  split
  · rw [rowsOut_get]
  · rw [List.getElem?_replicate]
theorem flat1 {α : Type} (x : α) : ∀ n, (List.replicate n [x]).flatten = List.replicate n x
  | 0 => rfl
  | n + 1 => by rw [List.replicate_succ, List.flatten_cons, flat1, List.replicate_succ]; rfl
theorem out_step {N m i : Nat} (hi : i < N) : ((outX N (List.replicate i (zr m))).set i (.row 23 3 1 0 (m + 1))).map (rnmA 23 (200 + i)) = outX N (List.replicate (i + 1) (zr m)) := by
  apply List.ext_getElem?
  intro j
  rw [List.getElem?_map, List.getElem?_set, outX_get, outX_get, outX_len (by simp; omega)]
  simp only [List.length_replicate]
  by_cases h1 : i = j
  · subst h1
    rw [if_pos rfl, if_pos hi, if_pos (by omega), List.getElem?_replicate, if_pos (by omega)]
    simp [rnmA, zr]
  · rw [if_neg h1]
    by_cases h2 : j < i
    · rw [if_pos h2, if_pos (by omega), List.getElem?_replicate, List.getElem?_replicate, if_pos h2, if_pos (by omega)]
      simp [rnmA]
      omega
    · rw [if_neg h2, if_neg (show ¬ j < i + 1 by omega)]
      by_cases h3 : j < N
      · rw [if_pos (show j - i < N - i by omega), if_pos (show j - (i + 1) < N - (i + 1) by omega)]; rfl
      · rw [if_neg (show ¬ j - i < N - i by omega), if_neg (show ¬ j - (i + 1) < N - (i + 1) by omega)]; rfl
theorem tab_step {N m i : Nat} (hi : i < N) : ∀ k ls, lk ([(12, outX N (List.replicate (i + 1) (zr m)))] ++ rowsX 200 (List.replicate (i + 1) (zr m))) k = some ls →
    lk (rnmX 23 (200 + i) ((23, (List.replicate (m + 1) [A.d (D.int .i64 0)]).flatten) :: (12, (outX N (List.replicate i (zr m))).set i (.row 23 3 1 0 (m + 1))) :: rowsX 200 (List.replicate i (zr m)))) k = some ls := by
  intro k ls h
  simp only [rnmX, if_true, rnmX_rows (show 23 < 200 by omega)]
  rw [if_neg (by omega), out_step hi, flat1]
  simp only [List.cons_append, List.nil_append, lk] at h ⊢
  split at h
  · rename_i e
    subst e
    rw [if_neg (by omega), if_pos rfl]; exact h
  · rename_i e
    by_cases e2 : k = 200 + i
    · rw [if_pos e2]
      subst e2
      rw [lk_rowsX, List.getElem?_replicate, if_pos (by omega)] at h
      rw [← h]
      simp [zr, iD, rnmA]
    · rw [if_neg e2, if_neg e]
      by_cases e3 : k < 200
      · rw [lk_rowsX_lt e3] at h; cases h
      · obtain ⟨r, rfl⟩ : ∃ r, k = 200 + r := ⟨k - 200, by omega⟩
        rw [lk_rowsX, List.getElem?_replicate] at h ⊢
        split at h
        · rw [if_pos (by omega)]; exact h
        · cases h
theorem tab_plain {N m i : Nat} (hi : i < N) : ∀ k ls, lk ((23, (List.replicate (m + 1) [A.d (D.int .i64 0)]).flatten) :: (12, (outX N (List.replicate i (zr m))).set i (.row 23 3 1 0 (m + 1))) :: rowsX 200 (List.replicate i (zr m))) k = some ls → ∀ x ∈ ls, plnA (200 + i) x := by
  intro k ls h x hx
  simp only [lk] at h
  split at h
  · injection h with h; subst h
    rw [flat1] at hx
    rw [(List.mem_replicate.1 hx).2]; trivial
  · split at h
    · injection h with h; subst h
      obtain ⟨j, hj⟩ := List.mem_iff_getElem?.1 hx
      rw [List.getElem?_set, outX_get] at hj
      simp only [List.length_replicate] at hj
      split at hj
      · split at hj
        · injection hj with hj; subst hj; show 23 ≠ _; omega
        · cases hj
      · split at hj
        · rename_i hji
          rw [List.getElem?_replicate, if_pos hji] at hj
          injection hj with hj; subst hj; show 200 + j ≠ _; omega
        · split at hj
          · injection hj with hj; subst hj; trivial
          · cases hj
    · by_cases e3 : k < 200
      · rw [lk_rowsX_lt e3] at h; cases h
      · obtain ⟨r, rfl⟩ : ∃ r, k = 200 + r := ⟨k - 200, by omega⟩
        rw [lk_rowsX, Option.map_eq_some_iff] at h
        obtain ⟨r, _, rfl⟩ := h
        obtain ⟨d, _, rfl⟩ := List.mem_map.1 hx
        trivial
theorem tab_free {N m i : Nat} : lk ((23, (List.replicate (m + 1) [A.d (D.int .i64 0)]).flatten) :: (12, (outX N (List.replicate i (zr m))).set i (.row 23 3 1 0 (m + 1))) :: rowsX 200 (List.replicate i (zr m))) (200 + i) = none := by
  simp only [lk]
  rw [if_neg (by omega), if_neg (by omega), lk_rowsX, List.getElem?_replicate, if_neg (by omega)]
  rfl

def part (a b : List ByteArray) (i j : Nat) : Nat → Nat → Int := fun p q => if i < p ∨ (p = i ∧ j ≤ q) then (lcs (a.drop p) (b.drop q) : Int) else 0
def tabD (n m : Nat) (f : Nat → Nat → Int) : List (List D) := (tab n m f).map fun r => r.map iD
def tX (n m : Nat) (f : Nat → Nat → Int) : List (Nat × List A) := [(12, rowsOut 200 3 (tabD n m f))] ++ rowsX 200 (tabD n m f)
theorem tab_congr {n m : Nat} {f g : Nat → Nat → Int} (h : ∀ i j, i ≤ n → j ≤ m → f i j = g i j) : tab n m f = tab n m g := by
  unfold tab
  refine List.map_congr_left fun i hi => List.map_congr_left fun j hj => h i j ?_ ?_
  · have := List.mem_range.1 hi; omega
  · have := List.mem_range.1 hj; omega
theorem tabD_get {n m : Nat} {f : Nat → Nat → Int} {i : Nat} : (tabD n m f)[i]? = if i ≤ n then some ((List.range (m + 1)).map fun j => iD (f i j)) else none := by
  unfold tabD tab
  rw [List.getElem?_map, List.getElem?_map]
  by_cases h : i ≤ n
  · rw [List.getElem?_range (by omega), if_pos h]; simp
  · rw [List.getElem?_eq_none (by simp; omega), if_neg h]; rfl
theorem tabD_len {n m : Nat} {f : Nat → Nat → Int} : (tabD n m f).length = n + 1 := by simp [tabD, tab]
theorem tX_out {n m : Nat} {f : Nat → Nat → Int} : lk (tX n m f) 12 = some (rowsOut 200 3 (tabD n m f)) := by simp [tX, lk]
theorem tX_outget {n m : Nat} {f : Nat → Nat → Int} {i : Nat} : (rowsOut 200 3 (tabD n m f))[i]? = if i ≤ n then some (A.row (200 + i) 3 1 0 (m + 1)) else none := by
  rw [rowsOut_get, tabD_get]
  split <;> simp
theorem tX_row {n m : Nat} {f : Nat → Nat → Int} {i : Nat} (h : i ≤ n) : lk (tX n m f) (200 + i) = some ((List.range (m + 1)).map fun j => A.d (iD (f i j))) := by
  simp only [tX, List.cons_append, List.nil_append, lk]
  rw [if_neg (by omega), lk_rowsX, tabD_get, if_pos h]
  simp [Function.comp_def]
theorem tX_cell {m : Nat} {g : Nat → Int} {j : Nat} (h : j ≤ m) : ((List.range (m + 1)).map fun j => A.d (iD (g j)))[j]? = some (.d (iD (g j))) := by
  rw [List.getElem?_map, List.getElem?_range (by omega)]; rfl
theorem tX_lk {n m : Nat} {f : Nat → Nat → Int} {k : Nat} {ls : List A} (h : lk (tX n m f) k = some ls) : (k = 12 ∧ ls = rowsOut 200 3 (tabD n m f)) ∨ ∃ i, i ≤ n ∧ k = 200 + i ∧ ls = (List.range (m + 1)).map fun j => A.d (iD (f i j)) := by
  by_cases e : k = 12
  · subst e; rw [tX_out] at h; injection h with h; exact .inl ⟨rfl, h.symm⟩
  · have h' := h
    simp only [tX, List.cons_append, List.nil_append, lk] at h
    rw [if_neg e] at h
    by_cases e3 : k < 200
    · rw [lk_rowsX_lt e3] at h; cases h
    · obtain ⟨r, rfl⟩ : ∃ r, k = 200 + r := ⟨k - 200, by omega⟩
      rw [lk_rowsX, tabD_get] at h
      by_cases hr : r ≤ n
      · rw [tX_row hr] at h'; injection h' with h'; exact .inr ⟨r, hr, rfl, h'.symm⟩
      · rw [if_neg hr] at h; cases h
theorem rowsOut_tab {n m : Nat} {f g : Nat → Nat → Int} : rowsOut 200 3 (tabD n m f) = rowsOut 200 3 (tabD n m g) := by
  apply List.ext_getElem?
  intro i
  rw [tX_outget, tX_outget]
theorem updX_same {k : Nat} {ls : List A} : ∀ {X : List (Nat × List A)} {l0 : List A}, lk X k = some l0 → lk (updX k ls X) k = some ls
  | [], _, h => by simp [lk] at h
  | (k', l) :: X, l0, h => by
    simp only [lk] at h
    simp only [updX]
    split
    · simp [lk]; omega
    · rename_i e
      rw [if_neg e] at h
      simp only [lk]; rw [if_neg e]; exact updX_same h
theorem updX_other {k k' : Nat} {ls : List A} (h : k' ≠ k) : ∀ {X : List (Nat × List A)}, lk (updX k ls X) k' = lk X k'
  | [] => rfl
  | (k0, l) :: X => by
    simp only [updX]
    split
    · rename_i e; subst e; simp only [lk]; rw [if_neg h, if_neg h]
    · simp only [lk]; rw [updX_other h]
theorem tX_congr {n m : Nat} {f g : Nat → Nat → Int} (h : ∀ i j, i ≤ n → j ≤ m → f i j = g i j) : tX n m f = tX n m g := by
  unfold tX tabD; rw [tab_congr h]
/-- One entry anew. -/
theorem tX_set {n m : Nat} {f g : Nat → Nat → Int} {i j : Nat} (hi : i ≤ n) (hj : j ≤ m) (v : Int) (hg : ∀ p q, p ≤ n → q ≤ m → g p q = if p = i ∧ q = j then v else f p q) :
    ∀ k ls, lk (tX n m g) k = some ls → lk (updX (200 + i) (((List.range (m + 1)).map fun j => A.d (iD (f i j))).set j (.d (iD v))) (tX n m f)) k = some ls := by
  intro k ls h
  rcases tX_lk h with ⟨rfl, rfl⟩ | ⟨r, hr, rfl, rfl⟩
  · rw [updX_other (by omega), tX_out, rowsOut_tab]
  · by_cases e : r = i
    · subst e
      rw [updX_same (tX_row hr)]
      congr 1
      apply List.ext_getElem?
      intro q
      rw [List.getElem?_set]
      simp only [List.getElem?_map, List.length_map, List.length_range]
      by_cases hq : q ≤ m
      · rw [List.getElem?_range (by omega)]
        by_cases e2 : j = q
        · subst e2; rw [if_pos rfl, if_pos (by omega)]; simp [hg r j hr hq]
        · rw [if_neg e2]; simp only [Option.map_some]; rw [hg r q hr hq, if_neg (fun h => e2 h.2.symm)]
      · rw [List.getElem?_eq_none (by simp; omega)]
        rw [if_neg (by omega)]; rfl
    · rw [updX_other (by omega), tX_row hr]
      congr 1
      refine List.map_congr_left fun q hq => ?_
      have := List.mem_range.1 hq
      rw [hg r q hr (by omega), if_neg (fun h => e h.1)]
theorem tX_zero (n m : Nat) (f : Nat → Nat → Int) (h : ∀ i j, i ≤ n → j ≤ m → f i j = 0) : ∀ k ls, lk (tX n m f) k = some ls → lk ((12, outX (n + 1) (List.replicate (n + 1) (zr m))) :: rowsX 200 (List.replicate (n + 1) (zr m))) k = some ls := by
  intro k ls hk
  have hL : tabD n m f = List.replicate (n + 1) (zr m) := by
    apply List.ext_getElem?
    intro i
    rw [tabD_get, List.getElem?_replicate]
    by_cases hi : i ≤ n
    · rw [if_pos hi, if_pos (by omega)]
      congr 1
      apply List.ext_getElem?
      intro j
      unfold zr
      rw [List.getElem?_map, List.getElem?_replicate]
      by_cases hj : j < m + 1
      · rw [List.getElem?_range hj, if_pos hj]; simp [h i j hi (by omega)]
      · rw [List.getElem?_eq_none (by simp; omega), if_neg hj]; rfl
    · rw [if_neg hi, if_neg (by omega)]
  have hO : outX (n + 1) (List.replicate (n + 1) (zr m)) = rowsOut 200 3 (List.replicate (n + 1) (zr m)) := by
    unfold outX; simp
  rw [hO, ← hL]; exact hk
theorem clX_nn : ∀ X : List (Nat × List A), clX [] [] X = X
  | [] => rfl
  | (k, ls) :: X => by
    have hl : ∀ (l : List A) n, clL [] [] k n l = l := by
      intro l
      induction l with
      | nil => intro n; rfl
      | cons a l ih =>
        intro n; simp only [clL, ih]; congr 1
        cases a with
        | bor l _ _ _ => cases l <;> simp [clAt, clA, gone]
        | _ => simp [clAt, clA, gone]
    simp [clX, hl, clX_nn X]

theorem part_rec (a b : List ByteArray) (i j : Nat) (hi : i < a.length) (hj : j < b.length) : part a b i j i j = if a[i] = b[j] then part a b i (j + 1) (i + 1) (j + 1) + 1 else max (part a b i (j + 1) (i + 1) j) (part a b i (j + 1) i (j + 1)) := by
  have e0 : part a b i j i j = (lcs (a.drop i) (b.drop j) : Int) := by unfold part; rw [if_pos (.inr ⟨rfl, Nat.le_refl _⟩)]
  have e1 : part a b i (j + 1) (i + 1) (j + 1) = (lcs (a.drop (i + 1)) (b.drop (j + 1)) : Int) := by unfold part; rw [if_pos (.inl (by omega))]
  have e2 : part a b i (j + 1) (i + 1) j = (lcs (a.drop (i + 1)) (b.drop j) : Int) := by unfold part; rw [if_pos (.inl (by omega))]
  have e3 : part a b i (j + 1) i (j + 1) = (lcs (a.drop i) (b.drop (j + 1)) : Int) := by unfold part; rw [if_pos (.inr ⟨rfl, Nat.le_refl _⟩)]
  rw [e0, e1, e2, e3, List.drop_eq_getElem_cons hi, List.drop_eq_getElem_cons hj, lcs_cons, ← List.drop_eq_getElem_cons hi, ← List.drop_eq_getElem_cons hj]
  split
  · simp
  · omega
theorem part_set (a b : List ByteArray) (i j p q : Nat) : part a b i j p q = if p = i ∧ q = j then part a b i j i j else part a b i (j + 1) p q := by
  by_cases e : p = i ∧ q = j
  · rw [if_pos e, e.1, e.2]
  · rw [if_neg e]
    unfold part
    by_cases e2 : i < p ∨ (p = i ∧ j + 1 ≤ q)
    · rw [if_pos e2, if_pos (by omega)]
    · rw [if_neg e2, if_neg (by omega)]
theorem px0 {P : Program} {ops : Array Oper} {X0 X : List (Nat × List A)} {T : List A} {C : List V.Loc} {d : Nat} {rest : List Oper} {K : S → Prop} {t ps af} {x} : preX P ops X0 (⟨some d, .move x, t, ps, af, none⟩ :: rest) T X C K = runA P T X0 C d (.move x) fun a e => preX P ops X0 rest (T.set d a) (newX X d e) (e.use ++ C) K := px_val rfl
theorem px1 {P : Program} {ops : Array Oper} {X0 X : List (Nat × List A)} {T : List A} {C : List V.Loc} {d : Nat} {rest : List Oper} {K : S → Prop} {t ps af} {x} {y} {t0} : preX P ops X0 (⟨some d, .indexAddr t0 x y, t, ps, af, none⟩ :: rest) T X C K = runA P T X0 C d (.indexAddr t0 x y) fun a e => preX P ops X0 rest (T.set d a) (newX X d e) (e.use ++ C) K := px_val rfl
theorem px2 {P : Program} {ops : Array Oper} {X0 X : List (Nat × List A)} {T : List A} {C : List V.Loc} {d : Nat} {rest : List Oper} {K : S → Prop} {t ps af} {x} {t0} : preX P ops X0 (⟨some d, .load t0 x, t, ps, af, none⟩ :: rest) T X C K = runA P T X0 C d (.load t0 x) fun a e => preX P ops X0 rest (T.set d a) (newX X d e) (e.use ++ C) K := px_val rfl
theorem px3 {P : Program} {ops : Array Oper} {X0 X : List (Nat × List A)} {T : List A} {C : List V.Loc} {d : Nat} {rest : List Oper} {K : S → Prop} {t ps af} {x} {y} {b} {t0} {t1} : preX P ops X0 (⟨some d, .binOp b t0 x y t1, t, ps, af, none⟩ :: rest) T X C K = runA P T X0 C d (.binOp b t0 x y t1) fun a e => preX P ops X0 rest (T.set d a) (newX X d e) (e.use ++ C) K := px_val rfl
theorem px4 {P : Program} {ops : Array Oper} {X0 X : List (Nat × List A)} {T : List A} {C : List V.Loc} {d : Nat} {rest : List Oper} {K : S → Prop} {t ps af} {x} {y} {b} : preX P ops X0 (⟨some d, .call ⟨.builtin b, x, y⟩, t, ps, af, none⟩ :: rest) T X C K = runA P T X0 C d (.call ⟨.builtin b, x, y⟩) fun a e => preX P ops X0 rest (T.set d a) (newX X d e) (e.use ++ C) K := px_val rfl

set_option maxHeartbeats 4000000 in
theorem measure (a b : List ByteArray) (ha : a.length ≤ 500) (hb : b.length ≤ 500) : Con Try.prog 30 [.sl (a.map .str), .sl (b.map .str)] (.sl ((tab a.length b.length fun i j => (lcs (a.drop i) (b.drop j) : Int)).map fun r => .sl (r.map iD))) := by
  refine Con.of Try.func30 (by kernel_rfl) rfl ?_
  rw [Try.ntmps30]
  simp -implicitDefEqProofs (maxSteps := 2000000) only [go_sem, reduceCtorEq, Nat.reduceBEq, Nat.reduceAdd, Nat.reduceSub, Nat.reduceEqDiff, Nat.reduceLeDiff, Nat.reduceLT]
  repeat (first | ((with_reducible refine AW.rseq fun K hK => ?_); simp -implicitDefEqProofs (maxSteps := 2000000) only [go_sem, reduceCtorEq, Nat.reduceBEq, Nat.reduceAdd, Nat.reduceSub, Nat.reduceEqDiff, Nat.reduceLeDiff, Nat.reduceLT]; subst hK) | ((with_reducible refine AW.ds ?_ ?_ fun K hK => ?_); kernel_rfl; kernel_rfl; simp -implicitDefEqProofs (maxSteps := 2000000) only [go_sem, reduceCtorEq, Nat.reduceBEq, Nat.reduceAdd, Nat.reduceSub, Nat.reduceEqDiff, Nat.reduceLeDiff, Nat.reduceLT]; subst hK) | ((with_reducible refine AW.r fun K hK => ?_); simp -implicitDefEqProofs (maxSteps := 2000000) only [go_sem, reduceCtorEq, Nat.reduceBEq, Nat.reduceAdd, Nat.reduceSub, Nat.reduceEqDiff, Nat.reduceLeDiff, Nat.reduceLT]; subst hK) | ((with_reducible refine AW.d ?_ ?_ fun K hK => ?_); kernel_rfl; kernel_rfl; simp -implicitDefEqProofs (maxSteps := 2000000) only [go_sem, reduceCtorEq, Nat.reduceBEq, Nat.reduceAdd, Nat.reduceSub, Nat.reduceEqDiff, Nat.reduceLeDiff, Nat.reduceLT]; subst hK) | (with_reducible refine AW.seq ?_) | (with_reducible refine AW.block ?_) | ((with_reducible refine AW.skip ?_); simp -implicitDefEqProofs (maxSteps := 2000000) only [go_sem, reduceCtorEq, Nat.reduceBEq, Nat.reduceAdd, Nat.reduceSub, Nat.reduceEqDiff, Nat.reduceLeDiff, Nat.reduceLT]) | ((with_reducible refine AW.ret ?_); simp -implicitDefEqProofs (maxSteps := 2000000) only [go_sem, reduceCtorEq, Nat.reduceBEq, Nat.reduceAdd, Nat.reduceSub, Nat.reduceEqDiff, Nat.reduceLeDiff, Nat.reduceLT]) | ((with_reducible refine AW.exit ?_); simp -implicitDefEqProofs (maxSteps := 2000000) only [go_sem, reduceCtorEq, Nat.reduceBEq, Nat.reduceAdd, Nat.reduceSub, Nat.reduceEqDiff, Nat.reduceLeDiff, Nat.reduceLT]) | ((with_reducible refine AW.c ?_); simp -implicitDefEqProofs (maxSteps := 2000000) only [go_sem, reduceCtorEq, Nat.reduceBEq, Nat.reduceAdd, Nat.reduceSub, Nat.reduceEqDiff, Nat.reduceLeDiff, Nat.reduceLT]))
  have hn : IntKind.i64.wrap ((a.length : Int) + 1) = ((a.length + 1 : Nat) : Int) := by rw [wrap_i64 (by omega) (by omega)]; omega
  have hm : IntKind.i64.wrap ((b.length : Int) + 1) = ((b.length + 1 : Nat) : Int) := by rw [wrap_i64 (by omega) (by omega)]; omega
  rw [hn]
  refine ⟨by omega, ?_⟩
  rw [Int.toNat_natCast]
  repeat (first | ((with_reducible refine AW.rseq fun K hK => ?_); simp -implicitDefEqProofs (maxSteps := 2000000) only [go_sem, reduceCtorEq, Nat.reduceBEq, Nat.reduceAdd, Nat.reduceSub, Nat.reduceEqDiff, Nat.reduceLeDiff, Nat.reduceLT]; subst hK) | ((with_reducible refine AW.ds ?_ ?_ fun K hK => ?_); kernel_rfl; kernel_rfl; simp -implicitDefEqProofs (maxSteps := 2000000) only [go_sem, reduceCtorEq, Nat.reduceBEq, Nat.reduceAdd, Nat.reduceSub, Nat.reduceEqDiff, Nat.reduceLeDiff, Nat.reduceLT]; subst hK) | ((with_reducible refine AW.r fun K hK => ?_); simp -implicitDefEqProofs (maxSteps := 2000000) only [go_sem, reduceCtorEq, Nat.reduceBEq, Nat.reduceAdd, Nat.reduceSub, Nat.reduceEqDiff, Nat.reduceLeDiff, Nat.reduceLT]; subst hK) | ((with_reducible refine AW.d ?_ ?_ fun K hK => ?_); kernel_rfl; kernel_rfl; simp -implicitDefEqProofs (maxSteps := 2000000) only [go_sem, reduceCtorEq, Nat.reduceBEq, Nat.reduceAdd, Nat.reduceSub, Nat.reduceEqDiff, Nat.reduceLeDiff, Nat.reduceLT]; subst hK) | (with_reducible refine AW.seq ?_) | (with_reducible refine AW.block ?_) | ((with_reducible refine AW.skip ?_); simp -implicitDefEqProofs (maxSteps := 2000000) only [go_sem, reduceCtorEq, Nat.reduceBEq, Nat.reduceAdd, Nat.reduceSub, Nat.reduceEqDiff, Nat.reduceLeDiff, Nat.reduceLT]) | ((with_reducible refine AW.ret ?_); simp -implicitDefEqProofs (maxSteps := 2000000) only [go_sem, reduceCtorEq, Nat.reduceBEq, Nat.reduceAdd, Nat.reduceSub, Nat.reduceEqDiff, Nat.reduceLeDiff, Nat.reduceLT]) | ((with_reducible refine AW.exit ?_); simp -implicitDefEqProofs (maxSteps := 2000000) only [go_sem, reduceCtorEq, Nat.reduceBEq, Nat.reduceAdd, Nat.reduceSub, Nat.reduceEqDiff, Nat.reduceLeDiff, Nat.reduceLT]) | ((with_reducible refine AW.c ?_); simp -implicitDefEqProofs (maxSteps := 2000000) only [go_sem, reduceCtorEq, Nat.reduceBEq, Nat.reduceAdd, Nat.reduceSub, Nat.reduceEqDiff, Nat.reduceLeDiff, Nat.reduceLT]))
  have hX0 : ([A.nil] :: List.replicate a.length [A.nil]).flatten = outX (a.length + 1) (List.replicate 0 (zr b.length)) := by
    unfold outX
    simp only [List.replicate_zero, rowsOut, List.length_nil, List.nil_append, Nat.sub_zero, List.replicate_succ, List.flatten_cons]
    rw [show (List.replicate a.length [A.nil]).flatten = List.replicate a.length A.nil by simp]
    rfl
  rw [hX0]
  generalize hr : (D.sl ((tab a.length b.length fun i j => (lcs (a.drop i) (b.drop j) : Int)).map fun r => .sl (r.map iD))) = res
  refine AW.weakT (T' := (A.d (.sl (a.map .str)) :: A.d (.sl (b.map .str)) :: A.unk :: A.unk :: A.unk :: A.row 12 23 1 0 (a.length + 1) :: A.unk :: A.unk :: A.unk :: A.unk :: A.unk :: A.unk :: A.unk :: A.unk :: A.d (iD ((a.length + 1 : Nat) : Int)) :: A.d (iD ((0 : Nat) : Int)) :: A.unk :: A.unk :: A.unk :: A.unk :: A.unk :: A.unk :: A.unk :: A.unk :: A.unk :: A.unk :: A.unk :: A.unk :: A.unk :: A.unk :: A.unk :: A.unk :: A.unk :: A.unk :: A.unk :: A.unk :: A.unk :: A.unk :: A.unk :: A.unk :: A.unk :: A.unk :: A.unk :: A.unk :: A.unk :: A.unk :: A.unk :: A.unk :: A.unk :: A.unk :: A.unk :: A.unk :: A.unk :: A.unk :: A.unk :: A.unk :: A.unk :: A.unk :: A.unk :: A.unk :: A.unk :: A.unk :: A.unk :: A.unk :: A.unk :: A.unk :: A.unk :: A.unk :: A.unk :: A.unk :: A.unk :: A.unk :: A.unk :: A.unk :: A.unk :: A.unk :: A.unk :: A.unk :: A.unk :: A.unk :: A.unk :: A.unk :: A.unk :: A.unk :: A.unk :: A.unk :: A.unk :: A.unk :: A.unk :: [])) ?_ ?_
  · simp -implicitDefEqProofs (maxSteps := 2000000) only [go_sem, reduceCtorEq, Nat.reduceBEq, Nat.reduceAdd, Nat.reduceSub, Nat.reduceEqDiff, Nat.reduceLeDiff, Nat.reduceLT]
    exact ⟨rfl, rfl⟩
  refine AW.rounds' (fun i : Nat => ⟨(A.d (.sl (a.map .str)) :: A.d (.sl (b.map .str)) :: A.unk :: A.unk :: A.unk :: A.row 12 23 1 0 (a.length + 1) :: A.unk :: A.unk :: A.unk :: A.unk :: A.unk :: A.unk :: A.unk :: A.unk :: A.d (iD ((a.length + 1 : Nat) : Int)) :: A.d (iD (i : Int)) :: A.unk :: A.unk :: A.unk :: A.unk :: A.unk :: A.unk :: A.unk :: A.unk :: A.unk :: A.unk :: A.unk :: A.unk :: A.unk :: A.unk :: A.unk :: A.unk :: A.unk :: A.unk :: A.unk :: A.unk :: A.unk :: A.unk :: A.unk :: A.unk :: A.unk :: A.unk :: A.unk :: A.unk :: A.unk :: A.unk :: A.unk :: A.unk :: A.unk :: A.unk :: A.unk :: A.unk :: A.unk :: A.unk :: A.unk :: A.unk :: A.unk :: A.unk :: A.unk :: A.unk :: A.unk :: A.unk :: A.unk :: A.unk :: A.unk :: A.unk :: A.unk :: A.unk :: A.unk :: A.unk :: A.unk :: A.unk :: A.unk :: A.unk :: A.unk :: A.unk :: A.unk :: A.unk :: A.unk :: A.unk :: A.unk :: A.unk :: A.unk :: A.unk :: A.unk :: A.unk :: A.unk :: A.unk :: A.unk :: []), [(12, outX (a.length + 1) (List.replicate i (zr b.length)))] ++ rowsX 200 (List.replicate i (zr b.length)), []⟩) (fun i => i ≤ a.length + 1) (fun i => a.length + 1 - i) ?_ 0 (by omega) rfl
  intro i n hi ih
  simp only [List.cons_append, List.nil_append, iD]
  have hol := outX_len (N := a.length + 1) (Ls := List.replicate i (zr b.length)) (by simpa using hi)
  repeat (first | ((with_reducible refine AW.rseq fun K hK => ?_); simp -implicitDefEqProofs (maxSteps := 2000000) only [go_sem, clX23, clL23, reduceCtorEq, Nat.reduceBEq, Nat.reduceAdd, Nat.reduceSub, Nat.reduceEqDiff, Nat.reduceLeDiff, Nat.reduceLT]; subst hK) | ((with_reducible refine AW.ds ?_ ?_ fun K hK => ?_); kernel_rfl; kernel_rfl; simp -implicitDefEqProofs (maxSteps := 2000000) only [go_sem, clX23, clL23, reduceCtorEq, Nat.reduceBEq, Nat.reduceAdd, Nat.reduceSub, Nat.reduceEqDiff, Nat.reduceLeDiff, Nat.reduceLT]; subst hK) | ((with_reducible refine AW.r fun K hK => ?_); simp -implicitDefEqProofs (maxSteps := 2000000) only [go_sem, clX23, clL23, reduceCtorEq, Nat.reduceBEq, Nat.reduceAdd, Nat.reduceSub, Nat.reduceEqDiff, Nat.reduceLeDiff, Nat.reduceLT]; subst hK) | ((with_reducible refine AW.d ?_ ?_ fun K hK => ?_); kernel_rfl; kernel_rfl; simp -implicitDefEqProofs (maxSteps := 2000000) only [go_sem, clX23, clL23, reduceCtorEq, Nat.reduceBEq, Nat.reduceAdd, Nat.reduceSub, Nat.reduceEqDiff, Nat.reduceLeDiff, Nat.reduceLT]; subst hK) | (with_reducible refine AW.seq ?_) | (with_reducible refine AW.block ?_) | ((with_reducible refine AW.skip ?_); simp -implicitDefEqProofs (maxSteps := 2000000) only [go_sem, clX23, clL23, reduceCtorEq, Nat.reduceBEq, Nat.reduceAdd, Nat.reduceSub, Nat.reduceEqDiff, Nat.reduceLeDiff, Nat.reduceLT]) | ((with_reducible refine AW.ret ?_); simp -implicitDefEqProofs (maxSteps := 2000000) only [go_sem, clX23, clL23, reduceCtorEq, Nat.reduceBEq, Nat.reduceAdd, Nat.reduceSub, Nat.reduceEqDiff, Nat.reduceLeDiff, Nat.reduceLT]) | ((with_reducible refine AW.exit ?_); simp -implicitDefEqProofs (maxSteps := 2000000) only [go_sem, clX23, clL23, reduceCtorEq, Nat.reduceBEq, Nat.reduceAdd, Nat.reduceSub, Nat.reduceEqDiff, Nat.reduceLeDiff, Nat.reduceLT]) | ((with_reducible refine AW.c ?_); simp -implicitDefEqProofs (maxSteps := 2000000) only [go_sem, clX23, clL23, reduceCtorEq, Nat.reduceBEq, Nat.reduceAdd, Nat.reduceSub, Nat.reduceEqDiff, Nat.reduceLeDiff, Nat.reduceLT]))
  split
  · rename_i hlt
    have hlt : i < a.length + 1 := by omega
    repeat (first | ((with_reducible refine AW.rseq fun K hK => ?_); simp -implicitDefEqProofs (maxSteps := 2000000) only [go_sem, clX23, clL23, reduceCtorEq, Nat.reduceBEq, Nat.reduceAdd, Nat.reduceSub, Nat.reduceEqDiff, Nat.reduceLeDiff, Nat.reduceLT]; subst hK) | ((with_reducible refine AW.ds ?_ ?_ fun K hK => ?_); kernel_rfl; kernel_rfl; simp -implicitDefEqProofs (maxSteps := 2000000) only [go_sem, clX23, clL23, reduceCtorEq, Nat.reduceBEq, Nat.reduceAdd, Nat.reduceSub, Nat.reduceEqDiff, Nat.reduceLeDiff, Nat.reduceLT]; subst hK) | ((with_reducible refine AW.r fun K hK => ?_); simp -implicitDefEqProofs (maxSteps := 2000000) only [go_sem, clX23, clL23, reduceCtorEq, Nat.reduceBEq, Nat.reduceAdd, Nat.reduceSub, Nat.reduceEqDiff, Nat.reduceLeDiff, Nat.reduceLT]; subst hK) | ((with_reducible refine AW.d ?_ ?_ fun K hK => ?_); kernel_rfl; kernel_rfl; simp -implicitDefEqProofs (maxSteps := 2000000) only [go_sem, clX23, clL23, reduceCtorEq, Nat.reduceBEq, Nat.reduceAdd, Nat.reduceSub, Nat.reduceEqDiff, Nat.reduceLeDiff, Nat.reduceLT]; subst hK) | (with_reducible refine AW.seq ?_) | (with_reducible refine AW.block ?_) | ((with_reducible refine AW.skip ?_); simp -implicitDefEqProofs (maxSteps := 2000000) only [go_sem, clX23, clL23, reduceCtorEq, Nat.reduceBEq, Nat.reduceAdd, Nat.reduceSub, Nat.reduceEqDiff, Nat.reduceLeDiff, Nat.reduceLT]) | ((with_reducible refine AW.ret ?_); simp -implicitDefEqProofs (maxSteps := 2000000) only [go_sem, clX23, clL23, reduceCtorEq, Nat.reduceBEq, Nat.reduceAdd, Nat.reduceSub, Nat.reduceEqDiff, Nat.reduceLeDiff, Nat.reduceLT]) | ((with_reducible refine AW.exit ?_); simp -implicitDefEqProofs (maxSteps := 2000000) only [go_sem, clX23, clL23, reduceCtorEq, Nat.reduceBEq, Nat.reduceAdd, Nat.reduceSub, Nat.reduceEqDiff, Nat.reduceLeDiff, Nat.reduceLT]) | ((with_reducible refine AW.c ?_); simp -implicitDefEqProofs (maxSteps := 2000000) only [go_sem, clX23, clL23, reduceCtorEq, Nat.reduceBEq, Nat.reduceAdd, Nat.reduceSub, Nat.reduceEqDiff, Nat.reduceLeDiff, Nat.reduceLT]))
    rw [hm]
    refine ⟨by omega, ?_⟩
    rw [Int.toNat_natCast]
    repeat (first | ((with_reducible refine AW.rseq fun K hK => ?_); simp -implicitDefEqProofs (maxSteps := 2000000) only [go_sem, clX23, clL23, reduceCtorEq, Nat.reduceBEq, Nat.reduceAdd, Nat.reduceSub, Nat.reduceEqDiff, Nat.reduceLeDiff, Nat.reduceLT]; subst hK) | ((with_reducible refine AW.ds ?_ ?_ fun K hK => ?_); kernel_rfl; kernel_rfl; simp -implicitDefEqProofs (maxSteps := 2000000) only [go_sem, clX23, clL23, reduceCtorEq, Nat.reduceBEq, Nat.reduceAdd, Nat.reduceSub, Nat.reduceEqDiff, Nat.reduceLeDiff, Nat.reduceLT]; subst hK) | ((with_reducible refine AW.r fun K hK => ?_); simp -implicitDefEqProofs (maxSteps := 2000000) only [go_sem, clX23, clL23, reduceCtorEq, Nat.reduceBEq, Nat.reduceAdd, Nat.reduceSub, Nat.reduceEqDiff, Nat.reduceLeDiff, Nat.reduceLT]; subst hK) | ((with_reducible refine AW.d ?_ ?_ fun K hK => ?_); kernel_rfl; kernel_rfl; simp -implicitDefEqProofs (maxSteps := 2000000) only [go_sem, clX23, clL23, reduceCtorEq, Nat.reduceBEq, Nat.reduceAdd, Nat.reduceSub, Nat.reduceEqDiff, Nat.reduceLeDiff, Nat.reduceLT]; subst hK) | (with_reducible refine AW.seq ?_) | (with_reducible refine AW.block ?_) | ((with_reducible refine AW.skip ?_); simp -implicitDefEqProofs (maxSteps := 2000000) only [go_sem, clX23, clL23, reduceCtorEq, Nat.reduceBEq, Nat.reduceAdd, Nat.reduceSub, Nat.reduceEqDiff, Nat.reduceLeDiff, Nat.reduceLT]) | ((with_reducible refine AW.ret ?_); simp -implicitDefEqProofs (maxSteps := 2000000) only [go_sem, clX23, clL23, reduceCtorEq, Nat.reduceBEq, Nat.reduceAdd, Nat.reduceSub, Nat.reduceEqDiff, Nat.reduceLeDiff, Nat.reduceLT]) | ((with_reducible refine AW.exit ?_); simp -implicitDefEqProofs (maxSteps := 2000000) only [go_sem, clX23, clL23, reduceCtorEq, Nat.reduceBEq, Nat.reduceAdd, Nat.reduceSub, Nat.reduceEqDiff, Nat.reduceLeDiff, Nat.reduceLT]) | ((with_reducible refine AW.c ?_); simp -implicitDefEqProofs (maxSteps := 2000000) only [go_sem, clX23, clL23, reduceCtorEq, Nat.reduceBEq, Nat.reduceAdd, Nat.reduceSub, Nat.reduceEqDiff, Nat.reduceLeDiff, Nat.reduceLT]))
    refine ⟨by omega, ?_⟩
    rw [Nat.mul_one, hol, if_pos hlt]
    simp -implicitDefEqProofs (maxSteps := 2000000) only [go_sem, reduceCtorEq, Nat.reduceBEq, Nat.reduceAdd, Nat.reduceSub, Nat.reduceEqDiff, Nat.reduceLeDiff, Nat.reduceLT]
    repeat (first | ((with_reducible refine AW.rseq fun K hK => ?_); simp -implicitDefEqProofs (maxSteps := 2000000) only [go_sem, clX23, clL23, reduceCtorEq, Nat.reduceBEq, Nat.reduceAdd, Nat.reduceSub, Nat.reduceEqDiff, Nat.reduceLeDiff, Nat.reduceLT]; subst hK) | ((with_reducible refine AW.ds ?_ ?_ fun K hK => ?_); kernel_rfl; kernel_rfl; simp -implicitDefEqProofs (maxSteps := 2000000) only [go_sem, clX23, clL23, reduceCtorEq, Nat.reduceBEq, Nat.reduceAdd, Nat.reduceSub, Nat.reduceEqDiff, Nat.reduceLeDiff, Nat.reduceLT]; subst hK) | ((with_reducible refine AW.r fun K hK => ?_); simp -implicitDefEqProofs (maxSteps := 2000000) only [go_sem, clX23, clL23, reduceCtorEq, Nat.reduceBEq, Nat.reduceAdd, Nat.reduceSub, Nat.reduceEqDiff, Nat.reduceLeDiff, Nat.reduceLT]; subst hK) | ((with_reducible refine AW.d ?_ ?_ fun K hK => ?_); kernel_rfl; kernel_rfl; simp -implicitDefEqProofs (maxSteps := 2000000) only [go_sem, clX23, clL23, reduceCtorEq, Nat.reduceBEq, Nat.reduceAdd, Nat.reduceSub, Nat.reduceEqDiff, Nat.reduceLeDiff, Nat.reduceLT]; subst hK) | (with_reducible refine AW.seq ?_) | (with_reducible refine AW.block ?_) | ((with_reducible refine AW.skip ?_); simp -implicitDefEqProofs (maxSteps := 2000000) only [go_sem, clX23, clL23, reduceCtorEq, Nat.reduceBEq, Nat.reduceAdd, Nat.reduceSub, Nat.reduceEqDiff, Nat.reduceLeDiff, Nat.reduceLT]) | ((with_reducible refine AW.ret ?_); simp -implicitDefEqProofs (maxSteps := 2000000) only [go_sem, clX23, clL23, reduceCtorEq, Nat.reduceBEq, Nat.reduceAdd, Nat.reduceSub, Nat.reduceEqDiff, Nat.reduceLeDiff, Nat.reduceLT]) | ((with_reducible refine AW.exit ?_); simp -implicitDefEqProofs (maxSteps := 2000000) only [go_sem, clX23, clL23, reduceCtorEq, Nat.reduceBEq, Nat.reduceAdd, Nat.reduceSub, Nat.reduceEqDiff, Nat.reduceLeDiff, Nat.reduceLT]) | ((with_reducible refine AW.c ?_); simp -implicitDefEqProofs (maxSteps := 2000000) only [go_sem, clX23, clL23, reduceCtorEq, Nat.reduceBEq, Nat.reduceAdd, Nat.reduceSub, Nat.reduceEqDiff, Nat.reduceLeDiff, Nat.reduceLT]))
    have hi1 : IntKind.i64.wrap ((i : Int) + 1) = ((i + 1 : Nat) : Int) := by rw [wrap_i64 (by omega) (by omega)]; omega
    rw [hi1]
    refine Lp.tr (fun Q => AW.weakT (T' := (A.d (.sl (a.map .str)) :: A.d (.sl (b.map .str)) :: A.unk :: A.unk :: A.unk :: A.row 12 23 1 0 (a.length + 1) :: A.unk :: A.unk :: A.unk :: A.unk :: A.unk :: A.unk :: A.unk :: A.unk :: A.d (iD ((a.length + 1 : Nat) : Int)) :: A.d (iD ((i + 1 : Nat) : Int)) :: A.unk :: A.unk :: A.unk :: A.unk :: A.unk :: A.unk :: A.unk :: A.unk :: A.unk :: A.unk :: A.unk :: A.unk :: A.unk :: A.unk :: A.unk :: A.unk :: A.unk :: A.unk :: A.unk :: A.unk :: A.unk :: A.unk :: A.unk :: A.unk :: A.unk :: A.unk :: A.unk :: A.unk :: A.unk :: A.unk :: A.unk :: A.unk :: A.unk :: A.unk :: A.unk :: A.unk :: A.unk :: A.unk :: A.unk :: A.unk :: A.unk :: A.unk :: A.unk :: A.unk :: A.unk :: A.unk :: A.unk :: A.unk :: A.unk :: A.unk :: A.unk :: A.unk :: A.unk :: A.unk :: A.unk :: A.unk :: A.unk :: A.unk :: A.unk :: A.unk :: A.unk :: A.unk :: A.unk :: A.unk :: A.unk :: A.unk :: A.unk :: A.unk :: A.unk :: A.unk :: A.unk :: A.unk :: A.unk :: [])) ?_) ?_
    · simp -implicitDefEqProofs (maxSteps := 2000000) only [go_sem, reduceCtorEq, Nat.reduceBEq, Nat.reduceAdd, Nat.reduceSub, Nat.reduceEqDiff, Nat.reduceLeDiff, Nat.reduceLT]
      exact ⟨rfl, rfl⟩
    refine Lp.tr (fun Q => AW.rnm 23 (200 + i) (by omega) (by omega) ?_ tab_free (tab_plain hlt)) ?_
    · simp [plnA]
      try omega
    refine Lp.tr (fun Q => AW.sub (tab_step hlt)) ?_
    exact ih (i + 1) (by omega) (by omega)
  · rename_i hge
    obtain rfl : i = a.length + 1 := by omega
    clear ih
    repeat (first | ((with_reducible refine AW.rseq fun K hK => ?_); simp -implicitDefEqProofs (maxSteps := 2000000) only [go_sem, clX23, clL23, reduceCtorEq, Nat.reduceBEq, Nat.reduceAdd, Nat.reduceSub, Nat.reduceEqDiff, Nat.reduceLeDiff, Nat.reduceLT]; subst hK) | ((with_reducible refine AW.ds ?_ ?_ fun K hK => ?_); kernel_rfl; kernel_rfl; simp -implicitDefEqProofs (maxSteps := 2000000) only [go_sem, clX23, clL23, reduceCtorEq, Nat.reduceBEq, Nat.reduceAdd, Nat.reduceSub, Nat.reduceEqDiff, Nat.reduceLeDiff, Nat.reduceLT]; subst hK) | ((with_reducible refine AW.r fun K hK => ?_); simp -implicitDefEqProofs (maxSteps := 2000000) only [go_sem, clX23, clL23, reduceCtorEq, Nat.reduceBEq, Nat.reduceAdd, Nat.reduceSub, Nat.reduceEqDiff, Nat.reduceLeDiff, Nat.reduceLT]; subst hK) | ((with_reducible refine AW.d ?_ ?_ fun K hK => ?_); kernel_rfl; kernel_rfl; simp -implicitDefEqProofs (maxSteps := 2000000) only [go_sem, clX23, clL23, reduceCtorEq, Nat.reduceBEq, Nat.reduceAdd, Nat.reduceSub, Nat.reduceEqDiff, Nat.reduceLeDiff, Nat.reduceLT]; subst hK) | (with_reducible refine AW.seq ?_) | (with_reducible refine AW.block ?_) | ((with_reducible refine AW.skip ?_); simp -implicitDefEqProofs (maxSteps := 2000000) only [go_sem, clX23, clL23, reduceCtorEq, Nat.reduceBEq, Nat.reduceAdd, Nat.reduceSub, Nat.reduceEqDiff, Nat.reduceLeDiff, Nat.reduceLT]) | ((with_reducible refine AW.ret ?_); simp -implicitDefEqProofs (maxSteps := 2000000) only [go_sem, clX23, clL23, reduceCtorEq, Nat.reduceBEq, Nat.reduceAdd, Nat.reduceSub, Nat.reduceEqDiff, Nat.reduceLeDiff, Nat.reduceLT]) | ((with_reducible refine AW.exit ?_); simp -implicitDefEqProofs (maxSteps := 2000000) only [go_sem, clX23, clL23, reduceCtorEq, Nat.reduceBEq, Nat.reduceAdd, Nat.reduceSub, Nat.reduceEqDiff, Nat.reduceLeDiff, Nat.reduceLT]) | ((with_reducible refine AW.c ?_); simp -implicitDefEqProofs (maxSteps := 2000000) only [go_sem, clX23, clL23, reduceCtorEq, Nat.reduceBEq, Nat.reduceAdd, Nat.reduceSub, Nat.reduceEqDiff, Nat.reduceLeDiff, Nat.reduceLT]))
    have hw : IntKind.i64.wrap ((a.length : Int) - 1) = (a.length : Int) - 1 := wrap_i64 (by omega) (by omega)
    have hwb : IntKind.i64.wrap ((b.length : Int) - 1) = (b.length : Int) - 1 := wrap_i64 (by omega) (by omega)
    rw [hw]
    refine AW.weakT (T' := (A.d (.sl (a.map .str)) :: A.d (.sl (b.map .str)) :: A.unk :: A.unk :: A.unk :: A.row 12 23 1 0 (a.length + 1) :: A.unk :: A.d (.int .i64 ((a.length : Int) - 1)) :: A.unk :: A.unk :: A.unk :: A.unk :: A.unk :: A.unk :: A.unk :: A.unk :: A.unk :: A.unk :: A.unk :: A.unk :: A.unk :: A.unk :: A.unk :: A.unk :: A.unk :: A.unk :: A.unk :: A.unk :: A.unk :: A.unk :: A.unk :: A.unk :: A.unk :: A.unk :: A.unk :: A.unk :: A.unk :: A.unk :: A.unk :: A.unk :: A.unk :: A.unk :: A.unk :: A.unk :: A.unk :: A.unk :: A.unk :: A.unk :: A.unk :: A.unk :: A.unk :: A.unk :: A.unk :: A.unk :: A.unk :: A.unk :: A.unk :: A.unk :: A.unk :: A.unk :: A.unk :: A.unk :: A.unk :: A.unk :: A.unk :: A.unk :: A.unk :: A.unk :: A.unk :: A.unk :: A.unk :: A.unk :: A.unk :: A.unk :: A.unk :: A.unk :: A.unk :: A.unk :: A.unk :: A.unk :: A.unk :: A.unk :: A.unk :: A.unk :: A.unk :: A.unk :: A.unk :: A.unk :: A.unk :: [])) ?_ ?_
    · simp -implicitDefEqProofs (maxSteps := 2000000) only [go_sem, reduceCtorEq, Nat.reduceBEq, Nat.reduceAdd, Nat.reduceSub, Nat.reduceEqDiff, Nat.reduceLeDiff, Nat.reduceLT]
    refine AW.sub (tX_zero a.length b.length (part a b a.length 0) fun p q hp hq => ?_) ?_
    · unfold part
      split
      · rw [show p = a.length by omega, List.drop_length, lcs_nil]; rfl
      · rfl
    refine AW.rounds' (fun i : Nat => ⟨(A.d (.sl (a.map .str)) :: A.d (.sl (b.map .str)) :: A.unk :: A.unk :: A.unk :: A.row 12 23 1 0 (a.length + 1) :: A.unk :: A.d (.int .i64 ((i : Int) - 1)) :: A.unk :: A.unk :: A.unk :: A.unk :: A.unk :: A.unk :: A.unk :: A.unk :: A.unk :: A.unk :: A.unk :: A.unk :: A.unk :: A.unk :: A.unk :: A.unk :: A.unk :: A.unk :: A.unk :: A.unk :: A.unk :: A.unk :: A.unk :: A.unk :: A.unk :: A.unk :: A.unk :: A.unk :: A.unk :: A.unk :: A.unk :: A.unk :: A.unk :: A.unk :: A.unk :: A.unk :: A.unk :: A.unk :: A.unk :: A.unk :: A.unk :: A.unk :: A.unk :: A.unk :: A.unk :: A.unk :: A.unk :: A.unk :: A.unk :: A.unk :: A.unk :: A.unk :: A.unk :: A.unk :: A.unk :: A.unk :: A.unk :: A.unk :: A.unk :: A.unk :: A.unk :: A.unk :: A.unk :: A.unk :: A.unk :: A.unk :: A.unk :: A.unk :: A.unk :: A.unk :: A.unk :: A.unk :: A.unk :: A.unk :: A.unk :: A.unk :: A.unk :: A.unk :: A.unk :: A.unk :: A.unk :: []), tX a.length b.length (part a b i 0), []⟩) (fun i => i ≤ a.length) (fun i => i) ?_ a.length (by omega) rfl
    intro i n' hi ih
    repeat (first | ((with_reducible refine AW.rseq fun K hK => ?_); simp -implicitDefEqProofs (maxSteps := 2000000) only [go_sem, clX23, clL23, reduceCtorEq, Nat.reduceBEq, Nat.reduceAdd, Nat.reduceSub, Nat.reduceEqDiff, Nat.reduceLeDiff, Nat.reduceLT]; subst hK) | ((with_reducible refine AW.ds ?_ ?_ fun K hK => ?_); kernel_rfl; kernel_rfl; simp -implicitDefEqProofs (maxSteps := 2000000) only [go_sem, clX23, clL23, reduceCtorEq, Nat.reduceBEq, Nat.reduceAdd, Nat.reduceSub, Nat.reduceEqDiff, Nat.reduceLeDiff, Nat.reduceLT]; subst hK) | ((with_reducible refine AW.r fun K hK => ?_); simp -implicitDefEqProofs (maxSteps := 2000000) only [go_sem, clX23, clL23, reduceCtorEq, Nat.reduceBEq, Nat.reduceAdd, Nat.reduceSub, Nat.reduceEqDiff, Nat.reduceLeDiff, Nat.reduceLT]; subst hK) | ((with_reducible refine AW.d ?_ ?_ fun K hK => ?_); kernel_rfl; kernel_rfl; simp -implicitDefEqProofs (maxSteps := 2000000) only [go_sem, clX23, clL23, reduceCtorEq, Nat.reduceBEq, Nat.reduceAdd, Nat.reduceSub, Nat.reduceEqDiff, Nat.reduceLeDiff, Nat.reduceLT]; subst hK) | (with_reducible refine AW.seq ?_) | (with_reducible refine AW.block ?_) | ((with_reducible refine AW.skip ?_); simp -implicitDefEqProofs (maxSteps := 2000000) only [go_sem, clX23, clL23, reduceCtorEq, Nat.reduceBEq, Nat.reduceAdd, Nat.reduceSub, Nat.reduceEqDiff, Nat.reduceLeDiff, Nat.reduceLT]) | ((with_reducible refine AW.ret ?_); simp -implicitDefEqProofs (maxSteps := 2000000) only [go_sem, clX23, clL23, reduceCtorEq, Nat.reduceBEq, Nat.reduceAdd, Nat.reduceSub, Nat.reduceEqDiff, Nat.reduceLeDiff, Nat.reduceLT]) | ((with_reducible refine AW.exit ?_); simp -implicitDefEqProofs (maxSteps := 2000000) only [go_sem, clX23, clL23, reduceCtorEq, Nat.reduceBEq, Nat.reduceAdd, Nat.reduceSub, Nat.reduceEqDiff, Nat.reduceLeDiff, Nat.reduceLT]) | ((with_reducible refine AW.c ?_); simp -implicitDefEqProofs (maxSteps := 2000000) only [go_sem, clX23, clL23, reduceCtorEq, Nat.reduceBEq, Nat.reduceAdd, Nat.reduceSub, Nat.reduceEqDiff, Nat.reduceLeDiff, Nat.reduceLT]))
    cases i with
    | zero =>
      rw [if_neg (by omega)]
      refine AW.weakT (T' := (A.unk :: A.unk :: A.unk :: A.unk :: A.unk :: A.row 12 23 1 0 (a.length + 1) :: A.unk :: A.unk :: A.unk :: A.unk :: A.unk :: A.unk :: A.unk :: A.unk :: A.unk :: A.unk :: A.unk :: A.unk :: A.unk :: A.unk :: A.unk :: A.unk :: A.unk :: A.unk :: A.unk :: A.unk :: A.unk :: A.unk :: A.unk :: A.unk :: A.unk :: A.unk :: A.unk :: A.unk :: A.unk :: A.unk :: A.unk :: A.unk :: A.unk :: A.unk :: A.unk :: A.unk :: A.unk :: A.unk :: A.unk :: A.unk :: A.unk :: A.unk :: A.unk :: A.unk :: A.unk :: A.unk :: A.unk :: A.unk :: A.unk :: A.unk :: A.unk :: A.unk :: A.unk :: A.unk :: A.unk :: A.unk :: A.unk :: A.unk :: A.unk :: A.unk :: A.unk :: A.unk :: A.unk :: A.unk :: A.unk :: A.unk :: A.unk :: A.unk :: A.unk :: A.unk :: A.unk :: A.unk :: A.unk :: A.unk :: A.unk :: A.unk :: A.unk :: A.unk :: A.unk :: A.unk :: A.unk :: A.unk :: A.unk :: [])) ?_ ?_
      · simp -implicitDefEqProofs (maxSteps := 2000000) only [go_sem, reduceCtorEq, Nat.reduceBEq, Nat.reduceAdd, Nat.reduceSub, Nat.reduceEqDiff, Nat.reduceLeDiff, Nat.reduceLT]
      refine AW.freezeT (k0 := 12) (b0 := 200) (e := 23) (e2 := 3) (Ls := tabD a.length b.length (part a b 0 0)) (by omega) (by rw [tabD_len]; omega) tX_out (fun i r hi => ?_) (fun r hr x hx => ?_) ?_ ?_
      · rw [tabD_get] at hi
        split at hi
        · rename_i hin
          injection hi with hi; subst hi
          rw [tX_row hin]; simp [Function.comp_def]
        · cases hi
      · obtain ⟨l, _, rfl⟩ := List.mem_map.1 hr
        obtain ⟨y, _, rfl⟩ := List.mem_map.1 hx
        rfl
      · rw [tabD_len]; simp
      · simp only [List.map_cons, List.map_nil, frzT]
        repeat (first | ((with_reducible refine AW.rseq fun K hK => ?_); simp -implicitDefEqProofs (maxSteps := 2000000) only [go_sem, clX23, clL23, reduceCtorEq, Nat.reduceBEq, Nat.reduceAdd, Nat.reduceSub, Nat.reduceEqDiff, Nat.reduceLeDiff, Nat.reduceLT]; subst hK) | ((with_reducible refine AW.ds ?_ ?_ fun K hK => ?_); kernel_rfl; kernel_rfl; simp -implicitDefEqProofs (maxSteps := 2000000) only [go_sem, clX23, clL23, reduceCtorEq, Nat.reduceBEq, Nat.reduceAdd, Nat.reduceSub, Nat.reduceEqDiff, Nat.reduceLeDiff, Nat.reduceLT]; subst hK) | ((with_reducible refine AW.r fun K hK => ?_); simp -implicitDefEqProofs (maxSteps := 2000000) only [go_sem, clX23, clL23, reduceCtorEq, Nat.reduceBEq, Nat.reduceAdd, Nat.reduceSub, Nat.reduceEqDiff, Nat.reduceLeDiff, Nat.reduceLT]; subst hK) | ((with_reducible refine AW.d ?_ ?_ fun K hK => ?_); kernel_rfl; kernel_rfl; simp -implicitDefEqProofs (maxSteps := 2000000) only [go_sem, clX23, clL23, reduceCtorEq, Nat.reduceBEq, Nat.reduceAdd, Nat.reduceSub, Nat.reduceEqDiff, Nat.reduceLeDiff, Nat.reduceLT]; subst hK) | (with_reducible refine AW.seq ?_) | (with_reducible refine AW.block ?_) | ((with_reducible refine AW.skip ?_); simp -implicitDefEqProofs (maxSteps := 2000000) only [go_sem, clX23, clL23, reduceCtorEq, Nat.reduceBEq, Nat.reduceAdd, Nat.reduceSub, Nat.reduceEqDiff, Nat.reduceLeDiff, Nat.reduceLT]) | ((with_reducible refine AW.ret ?_); simp -implicitDefEqProofs (maxSteps := 2000000) only [go_sem, clX23, clL23, reduceCtorEq, Nat.reduceBEq, Nat.reduceAdd, Nat.reduceSub, Nat.reduceEqDiff, Nat.reduceLeDiff, Nat.reduceLT]) | ((with_reducible refine AW.exit ?_); simp -implicitDefEqProofs (maxSteps := 2000000) only [go_sem, clX23, clL23, reduceCtorEq, Nat.reduceBEq, Nat.reduceAdd, Nat.reduceSub, Nat.reduceEqDiff, Nat.reduceLeDiff, Nat.reduceLT]) | ((with_reducible refine AW.c ?_); simp -implicitDefEqProofs (maxSteps := 2000000) only [go_sem, clX23, clL23, reduceCtorEq, Nat.reduceBEq, Nat.reduceAdd, Nat.reduceSub, Nat.reduceEqDiff, Nat.reduceLeDiff, Nat.reduceLT]))
        refine ⟨.inr trivial, ?_⟩
        (rw [Try.results30]; simp -implicitDefEqProofs (maxSteps := 2000000) only [go_sem, reduceCtorEq, Nat.reduceBEq, Nat.reduceAdd, Nat.reduceSub, Nat.reduceEqDiff, Nat.reduceLeDiff, Nat.reduceLT])
        rw [← hr, tabD, List.map_map, tab_congr (g := fun i j => (lcs (a.drop i) (b.drop j) : Int)) fun i j _ _ => by unfold part; rw [if_pos (by omega)]]
        rfl
    | succ i =>
      rw [if_pos (by omega), show (((i + 1 : Nat) : Int) - 1) = (i : Int) by omega]
      repeat (first | ((with_reducible refine AW.rseq fun K hK => ?_); simp -implicitDefEqProofs (maxSteps := 2000000) only [go_sem, clX23, clL23, reduceCtorEq, Nat.reduceBEq, Nat.reduceAdd, Nat.reduceSub, Nat.reduceEqDiff, Nat.reduceLeDiff, Nat.reduceLT]; subst hK) | ((with_reducible refine AW.ds ?_ ?_ fun K hK => ?_); kernel_rfl; kernel_rfl; simp -implicitDefEqProofs (maxSteps := 2000000) only [go_sem, clX23, clL23, reduceCtorEq, Nat.reduceBEq, Nat.reduceAdd, Nat.reduceSub, Nat.reduceEqDiff, Nat.reduceLeDiff, Nat.reduceLT]; subst hK) | ((with_reducible refine AW.r fun K hK => ?_); simp -implicitDefEqProofs (maxSteps := 2000000) only [go_sem, clX23, clL23, reduceCtorEq, Nat.reduceBEq, Nat.reduceAdd, Nat.reduceSub, Nat.reduceEqDiff, Nat.reduceLeDiff, Nat.reduceLT]; subst hK) | ((with_reducible refine AW.d ?_ ?_ fun K hK => ?_); kernel_rfl; kernel_rfl; simp -implicitDefEqProofs (maxSteps := 2000000) only [go_sem, clX23, clL23, reduceCtorEq, Nat.reduceBEq, Nat.reduceAdd, Nat.reduceSub, Nat.reduceEqDiff, Nat.reduceLeDiff, Nat.reduceLT]; subst hK) | (with_reducible refine AW.seq ?_) | (with_reducible refine AW.block ?_) | ((with_reducible refine AW.skip ?_); simp -implicitDefEqProofs (maxSteps := 2000000) only [go_sem, clX23, clL23, reduceCtorEq, Nat.reduceBEq, Nat.reduceAdd, Nat.reduceSub, Nat.reduceEqDiff, Nat.reduceLeDiff, Nat.reduceLT]) | ((with_reducible refine AW.ret ?_); simp -implicitDefEqProofs (maxSteps := 2000000) only [go_sem, clX23, clL23, reduceCtorEq, Nat.reduceBEq, Nat.reduceAdd, Nat.reduceSub, Nat.reduceEqDiff, Nat.reduceLeDiff, Nat.reduceLT]) | ((with_reducible refine AW.exit ?_); simp -implicitDefEqProofs (maxSteps := 2000000) only [go_sem, clX23, clL23, reduceCtorEq, Nat.reduceBEq, Nat.reduceAdd, Nat.reduceSub, Nat.reduceEqDiff, Nat.reduceLeDiff, Nat.reduceLT]) | ((with_reducible refine AW.c ?_); simp -implicitDefEqProofs (maxSteps := 2000000) only [go_sem, clX23, clL23, reduceCtorEq, Nat.reduceBEq, Nat.reduceAdd, Nat.reduceSub, Nat.reduceEqDiff, Nat.reduceLeDiff, Nat.reduceLT]))
      rw [hwb]
      refine AW.weakT (T' := (A.d (.sl (a.map .str)) :: A.d (.sl (b.map .str)) :: A.unk :: A.unk :: A.unk :: A.row 12 23 1 0 (a.length + 1) :: A.unk :: A.d (.int .i64 (i : Int)) :: A.d (.int .i64 ((b.length : Int) - 1)) :: A.unk :: A.unk :: A.unk :: A.unk :: A.unk :: A.unk :: A.unk :: A.unk :: A.unk :: A.unk :: A.unk :: A.unk :: A.unk :: A.unk :: A.unk :: A.unk :: A.unk :: A.unk :: A.unk :: A.unk :: A.unk :: A.unk :: A.unk :: A.unk :: A.unk :: A.unk :: A.unk :: A.unk :: A.unk :: A.unk :: A.unk :: A.unk :: A.unk :: A.unk :: A.unk :: A.unk :: A.unk :: A.unk :: A.unk :: A.unk :: A.unk :: A.unk :: A.unk :: A.unk :: A.unk :: A.unk :: A.unk :: A.unk :: A.unk :: A.unk :: A.unk :: A.unk :: A.unk :: A.unk :: A.unk :: A.unk :: A.unk :: A.unk :: A.unk :: A.unk :: A.unk :: A.unk :: A.unk :: A.unk :: A.unk :: A.unk :: A.unk :: A.unk :: A.unk :: A.unk :: A.unk :: A.unk :: A.unk :: A.unk :: A.unk :: A.unk :: A.unk :: A.unk :: A.unk :: A.unk :: [])) ?_ ?_
      · simp -implicitDefEqProofs (maxSteps := 2000000) only [go_sem, reduceCtorEq, Nat.reduceBEq, Nat.reduceAdd, Nat.reduceSub, Nat.reduceEqDiff, Nat.reduceLeDiff, Nat.reduceLT]
      have hent : tX a.length b.length (part a b (i + 1) 0) = tX a.length b.length (part a b i b.length) := by
        refine tX_congr fun p q hp hq => ?_
        unfold part
        by_cases e : p = i ∧ b.length ≤ q
        · rw [if_neg (by omega), if_pos (.inr e), show q = b.length by omega, List.drop_length, lcs_nil2]; rfl
        · by_cases e2 : i + 1 ≤ p
          · rw [if_pos (by omega), if_pos (.inl (by omega))]
          · rw [if_neg (by omega), if_neg (by omega)]
      rw [hent]
      refine AW.rounds' (fun j : Nat => ⟨(A.d (.sl (a.map .str)) :: A.d (.sl (b.map .str)) :: A.unk :: A.unk :: A.unk :: A.row 12 23 1 0 (a.length + 1) :: A.unk :: A.d (.int .i64 (i : Int)) :: A.d (.int .i64 ((j : Int) - 1)) :: A.unk :: A.unk :: A.unk :: A.unk :: A.unk :: A.unk :: A.unk :: A.unk :: A.unk :: A.unk :: A.unk :: A.unk :: A.unk :: A.unk :: A.unk :: A.unk :: A.unk :: A.unk :: A.unk :: A.unk :: A.unk :: A.unk :: A.unk :: A.unk :: A.unk :: A.unk :: A.unk :: A.unk :: A.unk :: A.unk :: A.unk :: A.unk :: A.unk :: A.unk :: A.unk :: A.unk :: A.unk :: A.unk :: A.unk :: A.unk :: A.unk :: A.unk :: A.unk :: A.unk :: A.unk :: A.unk :: A.unk :: A.unk :: A.unk :: A.unk :: A.unk :: A.unk :: A.unk :: A.unk :: A.unk :: A.unk :: A.unk :: A.unk :: A.unk :: A.unk :: A.unk :: A.unk :: A.unk :: A.unk :: A.unk :: A.unk :: A.unk :: A.unk :: A.unk :: A.unk :: A.unk :: A.unk :: A.unk :: A.unk :: A.unk :: A.unk :: A.unk :: A.unk :: A.unk :: A.unk :: []), tX a.length b.length (part a b i j), []⟩) (fun j => j ≤ b.length) (fun j => j) ?_ b.length (by omega) rfl
      intro j n2 hj ih2
      repeat (first | ((with_reducible refine AW.rseq fun K hK => ?_); simp -implicitDefEqProofs (maxSteps := 2000000) only [go_sem, clX23, clL23, reduceCtorEq, Nat.reduceBEq, Nat.reduceAdd, Nat.reduceSub, Nat.reduceEqDiff, Nat.reduceLeDiff, Nat.reduceLT]; subst hK) | ((with_reducible refine AW.ds ?_ ?_ fun K hK => ?_); kernel_rfl; kernel_rfl; simp -implicitDefEqProofs (maxSteps := 2000000) only [go_sem, clX23, clL23, reduceCtorEq, Nat.reduceBEq, Nat.reduceAdd, Nat.reduceSub, Nat.reduceEqDiff, Nat.reduceLeDiff, Nat.reduceLT]; subst hK) | ((with_reducible refine AW.r fun K hK => ?_); simp -implicitDefEqProofs (maxSteps := 2000000) only [go_sem, clX23, clL23, reduceCtorEq, Nat.reduceBEq, Nat.reduceAdd, Nat.reduceSub, Nat.reduceEqDiff, Nat.reduceLeDiff, Nat.reduceLT]; subst hK) | ((with_reducible refine AW.d ?_ ?_ fun K hK => ?_); kernel_rfl; kernel_rfl; simp -implicitDefEqProofs (maxSteps := 2000000) only [go_sem, clX23, clL23, reduceCtorEq, Nat.reduceBEq, Nat.reduceAdd, Nat.reduceSub, Nat.reduceEqDiff, Nat.reduceLeDiff, Nat.reduceLT]; subst hK) | (with_reducible refine AW.seq ?_) | (with_reducible refine AW.block ?_) | ((with_reducible refine AW.skip ?_); simp -implicitDefEqProofs (maxSteps := 2000000) only [go_sem, clX23, clL23, reduceCtorEq, Nat.reduceBEq, Nat.reduceAdd, Nat.reduceSub, Nat.reduceEqDiff, Nat.reduceLeDiff, Nat.reduceLT]) | ((with_reducible refine AW.ret ?_); simp -implicitDefEqProofs (maxSteps := 2000000) only [go_sem, clX23, clL23, reduceCtorEq, Nat.reduceBEq, Nat.reduceAdd, Nat.reduceSub, Nat.reduceEqDiff, Nat.reduceLeDiff, Nat.reduceLT]) | ((with_reducible refine AW.exit ?_); simp -implicitDefEqProofs (maxSteps := 2000000) only [go_sem, clX23, clL23, reduceCtorEq, Nat.reduceBEq, Nat.reduceAdd, Nat.reduceSub, Nat.reduceEqDiff, Nat.reduceLeDiff, Nat.reduceLT]) | ((with_reducible refine AW.c ?_); simp -implicitDefEqProofs (maxSteps := 2000000) only [go_sem, clX23, clL23, reduceCtorEq, Nat.reduceBEq, Nat.reduceAdd, Nat.reduceSub, Nat.reduceEqDiff, Nat.reduceLeDiff, Nat.reduceLT]))
      cases j with
      | zero =>
        rw [if_neg (by omega)]
        repeat (first | ((with_reducible refine AW.rseq fun K hK => ?_); simp -implicitDefEqProofs (maxSteps := 2000000) only [go_sem, clX23, clL23, reduceCtorEq, Nat.reduceBEq, Nat.reduceAdd, Nat.reduceSub, Nat.reduceEqDiff, Nat.reduceLeDiff, Nat.reduceLT]; subst hK) | ((with_reducible refine AW.ds ?_ ?_ fun K hK => ?_); kernel_rfl; kernel_rfl; simp -implicitDefEqProofs (maxSteps := 2000000) only [go_sem, clX23, clL23, reduceCtorEq, Nat.reduceBEq, Nat.reduceAdd, Nat.reduceSub, Nat.reduceEqDiff, Nat.reduceLeDiff, Nat.reduceLT]; subst hK) | ((with_reducible refine AW.r fun K hK => ?_); simp -implicitDefEqProofs (maxSteps := 2000000) only [go_sem, clX23, clL23, reduceCtorEq, Nat.reduceBEq, Nat.reduceAdd, Nat.reduceSub, Nat.reduceEqDiff, Nat.reduceLeDiff, Nat.reduceLT]; subst hK) | ((with_reducible refine AW.d ?_ ?_ fun K hK => ?_); kernel_rfl; kernel_rfl; simp -implicitDefEqProofs (maxSteps := 2000000) only [go_sem, clX23, clL23, reduceCtorEq, Nat.reduceBEq, Nat.reduceAdd, Nat.reduceSub, Nat.reduceEqDiff, Nat.reduceLeDiff, Nat.reduceLT]; subst hK) | (with_reducible refine AW.seq ?_) | (with_reducible refine AW.block ?_) | ((with_reducible refine AW.skip ?_); simp -implicitDefEqProofs (maxSteps := 2000000) only [go_sem, clX23, clL23, reduceCtorEq, Nat.reduceBEq, Nat.reduceAdd, Nat.reduceSub, Nat.reduceEqDiff, Nat.reduceLeDiff, Nat.reduceLT]) | ((with_reducible refine AW.ret ?_); simp -implicitDefEqProofs (maxSteps := 2000000) only [go_sem, clX23, clL23, reduceCtorEq, Nat.reduceBEq, Nat.reduceAdd, Nat.reduceSub, Nat.reduceEqDiff, Nat.reduceLeDiff, Nat.reduceLT]) | ((with_reducible refine AW.exit ?_); simp -implicitDefEqProofs (maxSteps := 2000000) only [go_sem, clX23, clL23, reduceCtorEq, Nat.reduceBEq, Nat.reduceAdd, Nat.reduceSub, Nat.reduceEqDiff, Nat.reduceLeDiff, Nat.reduceLT]) | ((with_reducible refine AW.c ?_); simp -implicitDefEqProofs (maxSteps := 2000000) only [go_sem, clX23, clL23, reduceCtorEq, Nat.reduceBEq, Nat.reduceAdd, Nat.reduceSub, Nat.reduceEqDiff, Nat.reduceLeDiff, Nat.reduceLT]))
        show Lp _ _ _ n' _
        rw [wrap_i64 (n := (i : Int) - 1) (by omega) (by omega)]
        refine Lp.tr (fun Q => AW.weakT (T' := (A.d (.sl (a.map .str)) :: A.d (.sl (b.map .str)) :: A.unk :: A.unk :: A.unk :: A.row 12 23 1 0 (a.length + 1) :: A.unk :: A.d (.int .i64 ((i : Int) - 1)) :: A.unk :: A.unk :: A.unk :: A.unk :: A.unk :: A.unk :: A.unk :: A.unk :: A.unk :: A.unk :: A.unk :: A.unk :: A.unk :: A.unk :: A.unk :: A.unk :: A.unk :: A.unk :: A.unk :: A.unk :: A.unk :: A.unk :: A.unk :: A.unk :: A.unk :: A.unk :: A.unk :: A.unk :: A.unk :: A.unk :: A.unk :: A.unk :: A.unk :: A.unk :: A.unk :: A.unk :: A.unk :: A.unk :: A.unk :: A.unk :: A.unk :: A.unk :: A.unk :: A.unk :: A.unk :: A.unk :: A.unk :: A.unk :: A.unk :: A.unk :: A.unk :: A.unk :: A.unk :: A.unk :: A.unk :: A.unk :: A.unk :: A.unk :: A.unk :: A.unk :: A.unk :: A.unk :: A.unk :: A.unk :: A.unk :: A.unk :: A.unk :: A.unk :: A.unk :: A.unk :: A.unk :: A.unk :: A.unk :: A.unk :: A.unk :: A.unk :: A.unk :: A.unk :: A.unk :: A.unk :: A.unk :: [])) ?_) (ih i (by omega) (by omega))
        simp -implicitDefEqProofs (maxSteps := 2000000) only [go_sem, reduceCtorEq, Nat.reduceBEq, Nat.reduceAdd, Nat.reduceSub, Nat.reduceEqDiff, Nat.reduceLeDiff, Nat.reduceLT]
      | succ j =>
        rw [if_pos (by omega), show (((j + 1 : Nat) : Int) - 1) = (j : Int) by omega]
        have hia : i < a.length := by omega
        have hjb : j < b.length := by omega
        have hai : (a.map D.str).getD i default = .str a[i] := by simp [List.getD, hia]
        have hbj : (b.map D.str).getD j default = .str b[j] := by simp [List.getD, hjb]
        have hrec := part_rec a b i j hia hjb
        have hbnd : ∀ p q, 0 ≤ part a b i (j + 1) p q ∧ part a b i (j + 1) p q ≤ 500 := by
          intro p q
          unfold part
          split
          · have := (lcs_le (a.drop p) (b.drop q)).1
            rw [List.length_drop] at this
            omega
          · omega
        have hset := fun v (hv : v = part a b i j i j) => tX_set (n := a.length) (m := b.length) (f := part a b i (j + 1)) (g := part a b i j) (i := i) (j := j) (by omega) (by omega) v fun p q _ _ => by rw [hv]; exact part_set a b i j p q
        have ho0 : (rowsOut 200 3 (tabD a.length b.length (part a b i (j + 1))))[i]? = some (A.row (200 + i) 3 1 0 (b.length + 1)) := by rw [tX_outget, if_pos (by omega)]
        have ho1 : (rowsOut 200 3 (tabD a.length b.length (part a b i (j + 1))))[i + 1]? = some (A.row (200 + (i + 1)) 3 1 0 (b.length + 1)) := by rw [tX_outget, if_pos (by omega)]
        have h12 := tX_out (n := a.length) (m := b.length) (f := part a b i (j + 1))
        have hr0 := tX_row (n := a.length) (m := b.length) (f := part a b i (j + 1)) (i := i) (by omega)
        have hr1 := tX_row (n := a.length) (m := b.length) (f := part a b i (j + 1)) (i := i + 1) (by omega)
        have hc01 := tX_cell (m := b.length) (g := part a b i (j + 1) i) (j := j + 1) (by omega)
        have hc10 := tX_cell (m := b.length) (g := part a b i (j + 1) (i + 1)) (j := j) (by omega)
        have hc11 := tX_cell (m := b.length) (g := part a b i (j + 1) (i + 1)) (j := j + 1) (by omega)
        have hli : IntKind.i64.wrap ((i : Int) + 1) = ((i + 1 : Nat) : Int) := by rw [wrap_i64 (by omega) (by omega)]; omega
        have hlj : IntKind.i64.wrap ((j : Int) + 1) = ((j + 1 : Nat) : Int) := by rw [wrap_i64 (by omega) (by omega)]; omega
        have hlen0 : ((List.range (b.length + 1)).map fun q => A.d (iD (part a b i (j + 1) i q))).length = b.length + 1 := by simp
        generalize (List.range (b.length + 1)).map (fun q => A.d (iD (part a b i (j + 1) i q))) = R0 at hset hr0 hc01 hlen0
        generalize (List.range (b.length + 1)).map (fun q => A.d (iD (part a b i (j + 1) (i + 1) q))) = R1 at hr1 hc10 hc11
        generalize (rowsOut 200 3 (tabD a.length b.length (part a b i (j + 1)))) = O at ho0 ho1 h12
        generalize hXX : tX a.length b.length (part a b i (j + 1)) = X at hset h12 hr0 hr1
        repeat (first | ((with_reducible refine AW.rseq fun K hK => ?_); simp -implicitDefEqProofs (maxSteps := 2000000) only [go_sem, clX_nn, px0, px1, px2, px3, px4, hai, hbj, reduceCtorEq, Nat.reduceBEq, Nat.reduceAdd, Nat.reduceSub, Nat.reduceEqDiff, Nat.reduceLeDiff, Nat.reduceLT]; subst hK) | ((with_reducible refine AW.ds ?_ ?_ fun K hK => ?_); kernel_rfl; kernel_rfl; simp -implicitDefEqProofs (maxSteps := 2000000) only [go_sem, clX_nn, px0, px1, px2, px3, px4, hai, hbj, reduceCtorEq, Nat.reduceBEq, Nat.reduceAdd, Nat.reduceSub, Nat.reduceEqDiff, Nat.reduceLeDiff, Nat.reduceLT]; subst hK) | ((with_reducible refine AW.r fun K hK => ?_); simp -implicitDefEqProofs (maxSteps := 2000000) only [go_sem, clX_nn, px0, px1, px2, px3, px4, hai, hbj, reduceCtorEq, Nat.reduceBEq, Nat.reduceAdd, Nat.reduceSub, Nat.reduceEqDiff, Nat.reduceLeDiff, Nat.reduceLT]; subst hK) | ((with_reducible refine AW.d ?_ ?_ fun K hK => ?_); kernel_rfl; kernel_rfl; simp -implicitDefEqProofs (maxSteps := 2000000) only [go_sem, clX_nn, px0, px1, px2, px3, px4, hai, hbj, reduceCtorEq, Nat.reduceBEq, Nat.reduceAdd, Nat.reduceSub, Nat.reduceEqDiff, Nat.reduceLeDiff, Nat.reduceLT]; subst hK) | (with_reducible refine AW.seq ?_) | (with_reducible refine AW.block ?_) | ((with_reducible refine AW.skip ?_); simp -implicitDefEqProofs (maxSteps := 2000000) only [go_sem, clX_nn, px0, px1, px2, px3, px4, hai, hbj, reduceCtorEq, Nat.reduceBEq, Nat.reduceAdd, Nat.reduceSub, Nat.reduceEqDiff, Nat.reduceLeDiff, Nat.reduceLT]) | ((with_reducible refine AW.ret ?_); simp -implicitDefEqProofs (maxSteps := 2000000) only [go_sem, clX_nn, px0, px1, px2, px3, px4, hai, hbj, reduceCtorEq, Nat.reduceBEq, Nat.reduceAdd, Nat.reduceSub, Nat.reduceEqDiff, Nat.reduceLeDiff, Nat.reduceLT]) | ((with_reducible refine AW.exit ?_); simp -implicitDefEqProofs (maxSteps := 2000000) only [go_sem, clX_nn, px0, px1, px2, px3, px4, hai, hbj, reduceCtorEq, Nat.reduceBEq, Nat.reduceAdd, Nat.reduceSub, Nat.reduceEqDiff, Nat.reduceLeDiff, Nat.reduceLT]) | ((with_reducible refine AW.c ?_); simp -implicitDefEqProofs (maxSteps := 2000000) only [go_sem, clX_nn, px0, px1, px2, px3, px4, hai, hbj, reduceCtorEq, Nat.reduceBEq, Nat.reduceAdd, Nat.reduceSub, Nat.reduceEqDiff, Nat.reduceLeDiff, Nat.reduceLT]))
        have hlt0 : (j < R0.length) = True := by rw [hlen0]; simp; omega
        have b11 := hbnd (i + 1) (j + 1)
        have hw11 : IntKind.i64.wrap (part a b i (j + 1) (i + 1) (j + 1) + 1) = part a b i (j + 1) (i + 1) (j + 1) + 1 := wrap_i64 (by omega) (by omega)
        have hwj : IntKind.i64.wrap ((j : Int) - 1) = (j : Int) - 1 := wrap_i64 (by omega) (by omega)
        refine ⟨by omega, by omega, ?_⟩
        repeat (first | ((with_reducible refine AW.rseq fun K hK => ?_); simp -implicitDefEqProofs (maxSteps := 2000000) only [go_sem, reduceCtorEq, Nat.reduceBEq, Nat.reduceAdd, Nat.reduceSub, Nat.reduceEqDiff, Nat.reduceLeDiff, Nat.reduceLT]; subst hK) | ((with_reducible refine AW.ds ?_ ?_ fun K hK => ?_); kernel_rfl; kernel_rfl; simp -implicitDefEqProofs (maxSteps := 2000000) only [go_sem, reduceCtorEq, Nat.reduceBEq, Nat.reduceAdd, Nat.reduceSub, Nat.reduceEqDiff, Nat.reduceLeDiff, Nat.reduceLT]; subst hK) | ((with_reducible refine AW.r fun K hK => ?_); simp -implicitDefEqProofs (maxSteps := 2000000) only [go_sem, reduceCtorEq, Nat.reduceBEq, Nat.reduceAdd, Nat.reduceSub, Nat.reduceEqDiff, Nat.reduceLeDiff, Nat.reduceLT]; subst hK) | ((with_reducible refine AW.d ?_ ?_ fun K hK => ?_); kernel_rfl; kernel_rfl; simp -implicitDefEqProofs (maxSteps := 2000000) only [go_sem, reduceCtorEq, Nat.reduceBEq, Nat.reduceAdd, Nat.reduceSub, Nat.reduceEqDiff, Nat.reduceLeDiff, Nat.reduceLT]; subst hK) | (with_reducible refine AW.seq ?_) | (with_reducible refine AW.block ?_) | ((with_reducible refine AW.skip ?_); simp -implicitDefEqProofs (maxSteps := 2000000) only [go_sem, reduceCtorEq, Nat.reduceBEq, Nat.reduceAdd, Nat.reduceSub, Nat.reduceEqDiff, Nat.reduceLeDiff, Nat.reduceLT]) | ((with_reducible refine AW.ret ?_); simp -implicitDefEqProofs (maxSteps := 2000000) only [go_sem, reduceCtorEq, Nat.reduceBEq, Nat.reduceAdd, Nat.reduceSub, Nat.reduceEqDiff, Nat.reduceLeDiff, Nat.reduceLT]) | ((with_reducible refine AW.exit ?_); simp -implicitDefEqProofs (maxSteps := 2000000) only [go_sem, reduceCtorEq, Nat.reduceBEq, Nat.reduceAdd, Nat.reduceSub, Nat.reduceEqDiff, Nat.reduceLeDiff, Nat.reduceLT]) | ((with_reducible refine AW.c ?_); simp -implicitDefEqProofs (maxSteps := 2000000) only [go_sem, reduceCtorEq, Nat.reduceBEq, Nat.reduceAdd, Nat.reduceSub, Nat.reduceEqDiff, Nat.reduceLeDiff, Nat.reduceLT]))
        split
        · rename_i heq
          repeat (first | ((with_reducible refine AW.rseq fun K hK => ?_); simp -implicitDefEqProofs (maxSteps := 2000000) only [go_sem, clX_nn, px0, px1, px2, px3, px4, Nat.mul_one, h12, ho0, ho1, hr0, hr1, hc01, hc10, hc11, hli, hlj, iD, hlt0, if_true, hw11, hwj, reduceCtorEq, Nat.reduceBEq, Nat.reduceAdd, Nat.reduceSub, Nat.reduceEqDiff, Nat.reduceLeDiff, Nat.reduceLT]; subst hK) | ((with_reducible refine AW.ds ?_ ?_ fun K hK => ?_); kernel_rfl; kernel_rfl; simp -implicitDefEqProofs (maxSteps := 2000000) only [go_sem, clX_nn, px0, px1, px2, px3, px4, Nat.mul_one, h12, ho0, ho1, hr0, hr1, hc01, hc10, hc11, hli, hlj, iD, hlt0, if_true, hw11, hwj, reduceCtorEq, Nat.reduceBEq, Nat.reduceAdd, Nat.reduceSub, Nat.reduceEqDiff, Nat.reduceLeDiff, Nat.reduceLT]; subst hK) | ((with_reducible refine AW.r fun K hK => ?_); simp -implicitDefEqProofs (maxSteps := 2000000) only [go_sem, clX_nn, px0, px1, px2, px3, px4, Nat.mul_one, h12, ho0, ho1, hr0, hr1, hc01, hc10, hc11, hli, hlj, iD, hlt0, if_true, hw11, hwj, reduceCtorEq, Nat.reduceBEq, Nat.reduceAdd, Nat.reduceSub, Nat.reduceEqDiff, Nat.reduceLeDiff, Nat.reduceLT]; subst hK) | ((with_reducible refine AW.d ?_ ?_ fun K hK => ?_); kernel_rfl; kernel_rfl; simp -implicitDefEqProofs (maxSteps := 2000000) only [go_sem, clX_nn, px0, px1, px2, px3, px4, Nat.mul_one, h12, ho0, ho1, hr0, hr1, hc01, hc10, hc11, hli, hlj, iD, hlt0, if_true, hw11, hwj, reduceCtorEq, Nat.reduceBEq, Nat.reduceAdd, Nat.reduceSub, Nat.reduceEqDiff, Nat.reduceLeDiff, Nat.reduceLT]; subst hK) | (with_reducible refine AW.seq ?_) | (with_reducible refine AW.block ?_) | ((with_reducible refine AW.skip ?_); simp -implicitDefEqProofs (maxSteps := 2000000) only [go_sem, clX_nn, px0, px1, px2, px3, px4, Nat.mul_one, h12, ho0, ho1, hr0, hr1, hc01, hc10, hc11, hli, hlj, iD, hlt0, if_true, hw11, hwj, reduceCtorEq, Nat.reduceBEq, Nat.reduceAdd, Nat.reduceSub, Nat.reduceEqDiff, Nat.reduceLeDiff, Nat.reduceLT]) | ((with_reducible refine AW.ret ?_); simp -implicitDefEqProofs (maxSteps := 2000000) only [go_sem, clX_nn, px0, px1, px2, px3, px4, Nat.mul_one, h12, ho0, ho1, hr0, hr1, hc01, hc10, hc11, hli, hlj, iD, hlt0, if_true, hw11, hwj, reduceCtorEq, Nat.reduceBEq, Nat.reduceAdd, Nat.reduceSub, Nat.reduceEqDiff, Nat.reduceLeDiff, Nat.reduceLT]) | ((with_reducible refine AW.exit ?_); simp -implicitDefEqProofs (maxSteps := 2000000) only [go_sem, clX_nn, px0, px1, px2, px3, px4, Nat.mul_one, h12, ho0, ho1, hr0, hr1, hc01, hc10, hc11, hli, hlj, iD, hlt0, if_true, hw11, hwj, reduceCtorEq, Nat.reduceBEq, Nat.reduceAdd, Nat.reduceSub, Nat.reduceEqDiff, Nat.reduceLeDiff, Nat.reduceLT]) | ((with_reducible refine AW.c ?_); simp -implicitDefEqProofs (maxSteps := 2000000) only [go_sem, clX_nn, px0, px1, px2, px3, px4, Nat.mul_one, h12, ho0, ho1, hr0, hr1, hc01, hc10, hc11, hli, hlj, iD, hlt0, if_true, hw11, hwj, reduceCtorEq, Nat.reduceBEq, Nat.reduceAdd, Nat.reduceSub, Nat.reduceEqDiff, Nat.reduceLeDiff, Nat.reduceLT]))
          refine ⟨by omega, by omega, by omega, by omega, ?_⟩
          repeat (first | ((with_reducible refine AW.rseq fun K hK => ?_); simp -implicitDefEqProofs (maxSteps := 2000000) only [go_sem, clX_nn, px0, px1, px2, px3, px4, Nat.mul_one, h12, ho0, ho1, hr0, hr1, hc01, hc10, hc11, hli, hlj, iD, hlt0, if_true, hw11, hwj, reduceCtorEq, Nat.reduceBEq, Nat.reduceAdd, Nat.reduceSub, Nat.reduceEqDiff, Nat.reduceLeDiff, Nat.reduceLT]; subst hK) | ((with_reducible refine AW.ds ?_ ?_ fun K hK => ?_); kernel_rfl; kernel_rfl; simp -implicitDefEqProofs (maxSteps := 2000000) only [go_sem, clX_nn, px0, px1, px2, px3, px4, Nat.mul_one, h12, ho0, ho1, hr0, hr1, hc01, hc10, hc11, hli, hlj, iD, hlt0, if_true, hw11, hwj, reduceCtorEq, Nat.reduceBEq, Nat.reduceAdd, Nat.reduceSub, Nat.reduceEqDiff, Nat.reduceLeDiff, Nat.reduceLT]; subst hK) | ((with_reducible refine AW.r fun K hK => ?_); simp -implicitDefEqProofs (maxSteps := 2000000) only [go_sem, clX_nn, px0, px1, px2, px3, px4, Nat.mul_one, h12, ho0, ho1, hr0, hr1, hc01, hc10, hc11, hli, hlj, iD, hlt0, if_true, hw11, hwj, reduceCtorEq, Nat.reduceBEq, Nat.reduceAdd, Nat.reduceSub, Nat.reduceEqDiff, Nat.reduceLeDiff, Nat.reduceLT]; subst hK) | ((with_reducible refine AW.d ?_ ?_ fun K hK => ?_); kernel_rfl; kernel_rfl; simp -implicitDefEqProofs (maxSteps := 2000000) only [go_sem, clX_nn, px0, px1, px2, px3, px4, Nat.mul_one, h12, ho0, ho1, hr0, hr1, hc01, hc10, hc11, hli, hlj, iD, hlt0, if_true, hw11, hwj, reduceCtorEq, Nat.reduceBEq, Nat.reduceAdd, Nat.reduceSub, Nat.reduceEqDiff, Nat.reduceLeDiff, Nat.reduceLT]; subst hK) | (with_reducible refine AW.seq ?_) | (with_reducible refine AW.block ?_) | ((with_reducible refine AW.skip ?_); simp -implicitDefEqProofs (maxSteps := 2000000) only [go_sem, clX_nn, px0, px1, px2, px3, px4, Nat.mul_one, h12, ho0, ho1, hr0, hr1, hc01, hc10, hc11, hli, hlj, iD, hlt0, if_true, hw11, hwj, reduceCtorEq, Nat.reduceBEq, Nat.reduceAdd, Nat.reduceSub, Nat.reduceEqDiff, Nat.reduceLeDiff, Nat.reduceLT]) | ((with_reducible refine AW.ret ?_); simp -implicitDefEqProofs (maxSteps := 2000000) only [go_sem, clX_nn, px0, px1, px2, px3, px4, Nat.mul_one, h12, ho0, ho1, hr0, hr1, hc01, hc10, hc11, hli, hlj, iD, hlt0, if_true, hw11, hwj, reduceCtorEq, Nat.reduceBEq, Nat.reduceAdd, Nat.reduceSub, Nat.reduceEqDiff, Nat.reduceLeDiff, Nat.reduceLT]) | ((with_reducible refine AW.exit ?_); simp -implicitDefEqProofs (maxSteps := 2000000) only [go_sem, clX_nn, px0, px1, px2, px3, px4, Nat.mul_one, h12, ho0, ho1, hr0, hr1, hc01, hc10, hc11, hli, hlj, iD, hlt0, if_true, hw11, hwj, reduceCtorEq, Nat.reduceBEq, Nat.reduceAdd, Nat.reduceSub, Nat.reduceEqDiff, Nat.reduceLeDiff, Nat.reduceLT]) | ((with_reducible refine AW.c ?_); simp -implicitDefEqProofs (maxSteps := 2000000) only [go_sem, clX_nn, px0, px1, px2, px3, px4, Nat.mul_one, h12, ho0, ho1, hr0, hr1, hc01, hc10, hc11, hli, hlj, iD, hlt0, if_true, hw11, hwj, reduceCtorEq, Nat.reduceBEq, Nat.reduceAdd, Nat.reduceSub, Nat.reduceEqDiff, Nat.reduceLeDiff, Nat.reduceLT]))
          simp -implicitDefEqProofs (maxSteps := 2000000) only [go_sem, reduceCtorEq, Nat.reduceBEq, Nat.reduceAdd, Nat.reduceSub, Nat.reduceEqDiff, Nat.reduceLeDiff, Nat.reduceLT]
          repeat (first | ((with_reducible refine AW.rseq fun K hK => ?_); simp -implicitDefEqProofs (maxSteps := 2000000) only [go_sem, hwj, reduceCtorEq, Nat.reduceBEq, Nat.reduceAdd, Nat.reduceSub, Nat.reduceEqDiff, Nat.reduceLeDiff, Nat.reduceLT]; subst hK) | ((with_reducible refine AW.ds ?_ ?_ fun K hK => ?_); kernel_rfl; kernel_rfl; simp -implicitDefEqProofs (maxSteps := 2000000) only [go_sem, hwj, reduceCtorEq, Nat.reduceBEq, Nat.reduceAdd, Nat.reduceSub, Nat.reduceEqDiff, Nat.reduceLeDiff, Nat.reduceLT]; subst hK) | ((with_reducible refine AW.r fun K hK => ?_); simp -implicitDefEqProofs (maxSteps := 2000000) only [go_sem, hwj, reduceCtorEq, Nat.reduceBEq, Nat.reduceAdd, Nat.reduceSub, Nat.reduceEqDiff, Nat.reduceLeDiff, Nat.reduceLT]; subst hK) | ((with_reducible refine AW.d ?_ ?_ fun K hK => ?_); kernel_rfl; kernel_rfl; simp -implicitDefEqProofs (maxSteps := 2000000) only [go_sem, hwj, reduceCtorEq, Nat.reduceBEq, Nat.reduceAdd, Nat.reduceSub, Nat.reduceEqDiff, Nat.reduceLeDiff, Nat.reduceLT]; subst hK) | (with_reducible refine AW.seq ?_) | (with_reducible refine AW.block ?_) | ((with_reducible refine AW.skip ?_); simp -implicitDefEqProofs (maxSteps := 2000000) only [go_sem, hwj, reduceCtorEq, Nat.reduceBEq, Nat.reduceAdd, Nat.reduceSub, Nat.reduceEqDiff, Nat.reduceLeDiff, Nat.reduceLT]) | ((with_reducible refine AW.ret ?_); simp -implicitDefEqProofs (maxSteps := 2000000) only [go_sem, hwj, reduceCtorEq, Nat.reduceBEq, Nat.reduceAdd, Nat.reduceSub, Nat.reduceEqDiff, Nat.reduceLeDiff, Nat.reduceLT]) | ((with_reducible refine AW.exit ?_); simp -implicitDefEqProofs (maxSteps := 2000000) only [go_sem, hwj, reduceCtorEq, Nat.reduceBEq, Nat.reduceAdd, Nat.reduceSub, Nat.reduceEqDiff, Nat.reduceLeDiff, Nat.reduceLT]) | ((with_reducible refine AW.c ?_); simp -implicitDefEqProofs (maxSteps := 2000000) only [go_sem, hwj, reduceCtorEq, Nat.reduceBEq, Nat.reduceAdd, Nat.reduceSub, Nat.reduceEqDiff, Nat.reduceLeDiff, Nat.reduceLT]))
          show Lp _ _ _ n2 _
          refine Lp.tr (fun Q => AW.weakT (T' := (A.d (.sl (a.map .str)) :: A.d (.sl (b.map .str)) :: A.unk :: A.unk :: A.unk :: A.row 12 23 1 0 (a.length + 1) :: A.unk :: A.d (.int .i64 (i : Int)) :: A.d (.int .i64 ((j : Int) - 1)) :: A.unk :: A.unk :: A.unk :: A.unk :: A.unk :: A.unk :: A.unk :: A.unk :: A.unk :: A.unk :: A.unk :: A.unk :: A.unk :: A.unk :: A.unk :: A.unk :: A.unk :: A.unk :: A.unk :: A.unk :: A.unk :: A.unk :: A.unk :: A.unk :: A.unk :: A.unk :: A.unk :: A.unk :: A.unk :: A.unk :: A.unk :: A.unk :: A.unk :: A.unk :: A.unk :: A.unk :: A.unk :: A.unk :: A.unk :: A.unk :: A.unk :: A.unk :: A.unk :: A.unk :: A.unk :: A.unk :: A.unk :: A.unk :: A.unk :: A.unk :: A.unk :: A.unk :: A.unk :: A.unk :: A.unk :: A.unk :: A.unk :: A.unk :: A.unk :: A.unk :: A.unk :: A.unk :: A.unk :: A.unk :: A.unk :: A.unk :: A.unk :: A.unk :: A.unk :: A.unk :: A.unk :: A.unk :: A.unk :: A.unk :: A.unk :: A.unk :: A.unk :: A.unk :: A.unk :: A.unk :: [])) ?_) ?_
          · simp -implicitDefEqProofs (maxSteps := 2000000) only [go_sem, reduceCtorEq, Nat.reduceBEq, Nat.reduceAdd, Nat.reduceSub, Nat.reduceEqDiff, Nat.reduceLeDiff, Nat.reduceLT]
          refine Lp.tr (fun Q => AW.sub (hset _ ?_)) (ih2 j (by omega) (by omega))
          rw [hrec, if_pos (by simpa [str_eq] using heq)]
        · rename_i heq
          repeat (first | ((with_reducible refine AW.rseq fun K hK => ?_); simp -implicitDefEqProofs (maxSteps := 2000000) only [go_sem, clX_nn, px0, px1, px2, px3, px4, Nat.mul_one, h12, ho0, ho1, hr0, hr1, hc01, hc10, hc11, hli, hlj, iD, hlt0, if_true, hw11, hwj, reduceCtorEq, Nat.reduceBEq, Nat.reduceAdd, Nat.reduceSub, Nat.reduceEqDiff, Nat.reduceLeDiff, Nat.reduceLT]; subst hK) | ((with_reducible refine AW.ds ?_ ?_ fun K hK => ?_); kernel_rfl; kernel_rfl; simp -implicitDefEqProofs (maxSteps := 2000000) only [go_sem, clX_nn, px0, px1, px2, px3, px4, Nat.mul_one, h12, ho0, ho1, hr0, hr1, hc01, hc10, hc11, hli, hlj, iD, hlt0, if_true, hw11, hwj, reduceCtorEq, Nat.reduceBEq, Nat.reduceAdd, Nat.reduceSub, Nat.reduceEqDiff, Nat.reduceLeDiff, Nat.reduceLT]; subst hK) | ((with_reducible refine AW.r fun K hK => ?_); simp -implicitDefEqProofs (maxSteps := 2000000) only [go_sem, clX_nn, px0, px1, px2, px3, px4, Nat.mul_one, h12, ho0, ho1, hr0, hr1, hc01, hc10, hc11, hli, hlj, iD, hlt0, if_true, hw11, hwj, reduceCtorEq, Nat.reduceBEq, Nat.reduceAdd, Nat.reduceSub, Nat.reduceEqDiff, Nat.reduceLeDiff, Nat.reduceLT]; subst hK) | ((with_reducible refine AW.d ?_ ?_ fun K hK => ?_); kernel_rfl; kernel_rfl; simp -implicitDefEqProofs (maxSteps := 2000000) only [go_sem, clX_nn, px0, px1, px2, px3, px4, Nat.mul_one, h12, ho0, ho1, hr0, hr1, hc01, hc10, hc11, hli, hlj, iD, hlt0, if_true, hw11, hwj, reduceCtorEq, Nat.reduceBEq, Nat.reduceAdd, Nat.reduceSub, Nat.reduceEqDiff, Nat.reduceLeDiff, Nat.reduceLT]; subst hK) | (with_reducible refine AW.seq ?_) | (with_reducible refine AW.block ?_) | ((with_reducible refine AW.skip ?_); simp -implicitDefEqProofs (maxSteps := 2000000) only [go_sem, clX_nn, px0, px1, px2, px3, px4, Nat.mul_one, h12, ho0, ho1, hr0, hr1, hc01, hc10, hc11, hli, hlj, iD, hlt0, if_true, hw11, hwj, reduceCtorEq, Nat.reduceBEq, Nat.reduceAdd, Nat.reduceSub, Nat.reduceEqDiff, Nat.reduceLeDiff, Nat.reduceLT]) | ((with_reducible refine AW.ret ?_); simp -implicitDefEqProofs (maxSteps := 2000000) only [go_sem, clX_nn, px0, px1, px2, px3, px4, Nat.mul_one, h12, ho0, ho1, hr0, hr1, hc01, hc10, hc11, hli, hlj, iD, hlt0, if_true, hw11, hwj, reduceCtorEq, Nat.reduceBEq, Nat.reduceAdd, Nat.reduceSub, Nat.reduceEqDiff, Nat.reduceLeDiff, Nat.reduceLT]) | ((with_reducible refine AW.exit ?_); simp -implicitDefEqProofs (maxSteps := 2000000) only [go_sem, clX_nn, px0, px1, px2, px3, px4, Nat.mul_one, h12, ho0, ho1, hr0, hr1, hc01, hc10, hc11, hli, hlj, iD, hlt0, if_true, hw11, hwj, reduceCtorEq, Nat.reduceBEq, Nat.reduceAdd, Nat.reduceSub, Nat.reduceEqDiff, Nat.reduceLeDiff, Nat.reduceLT]) | ((with_reducible refine AW.c ?_); simp -implicitDefEqProofs (maxSteps := 2000000) only [go_sem, clX_nn, px0, px1, px2, px3, px4, Nat.mul_one, h12, ho0, ho1, hr0, hr1, hc01, hc10, hc11, hli, hlj, iD, hlt0, if_true, hw11, hwj, reduceCtorEq, Nat.reduceBEq, Nat.reduceAdd, Nat.reduceSub, Nat.reduceEqDiff, Nat.reduceLeDiff, Nat.reduceLT]))
          refine ⟨by omega, by omega, by omega, by omega, by omega, by omega, ?_⟩
          repeat (first | ((with_reducible refine AW.rseq fun K hK => ?_); simp -implicitDefEqProofs (maxSteps := 2000000) only [go_sem, clX_nn, px0, px1, px2, px3, px4, Nat.mul_one, h12, ho0, ho1, hr0, hr1, hc01, hc10, hc11, hli, hlj, iD, hlt0, if_true, hw11, hwj, reduceCtorEq, Nat.reduceBEq, Nat.reduceAdd, Nat.reduceSub, Nat.reduceEqDiff, Nat.reduceLeDiff, Nat.reduceLT]; subst hK) | ((with_reducible refine AW.ds ?_ ?_ fun K hK => ?_); kernel_rfl; kernel_rfl; simp -implicitDefEqProofs (maxSteps := 2000000) only [go_sem, clX_nn, px0, px1, px2, px3, px4, Nat.mul_one, h12, ho0, ho1, hr0, hr1, hc01, hc10, hc11, hli, hlj, iD, hlt0, if_true, hw11, hwj, reduceCtorEq, Nat.reduceBEq, Nat.reduceAdd, Nat.reduceSub, Nat.reduceEqDiff, Nat.reduceLeDiff, Nat.reduceLT]; subst hK) | ((with_reducible refine AW.r fun K hK => ?_); simp -implicitDefEqProofs (maxSteps := 2000000) only [go_sem, clX_nn, px0, px1, px2, px3, px4, Nat.mul_one, h12, ho0, ho1, hr0, hr1, hc01, hc10, hc11, hli, hlj, iD, hlt0, if_true, hw11, hwj, reduceCtorEq, Nat.reduceBEq, Nat.reduceAdd, Nat.reduceSub, Nat.reduceEqDiff, Nat.reduceLeDiff, Nat.reduceLT]; subst hK) | ((with_reducible refine AW.d ?_ ?_ fun K hK => ?_); kernel_rfl; kernel_rfl; simp -implicitDefEqProofs (maxSteps := 2000000) only [go_sem, clX_nn, px0, px1, px2, px3, px4, Nat.mul_one, h12, ho0, ho1, hr0, hr1, hc01, hc10, hc11, hli, hlj, iD, hlt0, if_true, hw11, hwj, reduceCtorEq, Nat.reduceBEq, Nat.reduceAdd, Nat.reduceSub, Nat.reduceEqDiff, Nat.reduceLeDiff, Nat.reduceLT]; subst hK) | (with_reducible refine AW.seq ?_) | (with_reducible refine AW.block ?_) | ((with_reducible refine AW.skip ?_); simp -implicitDefEqProofs (maxSteps := 2000000) only [go_sem, clX_nn, px0, px1, px2, px3, px4, Nat.mul_one, h12, ho0, ho1, hr0, hr1, hc01, hc10, hc11, hli, hlj, iD, hlt0, if_true, hw11, hwj, reduceCtorEq, Nat.reduceBEq, Nat.reduceAdd, Nat.reduceSub, Nat.reduceEqDiff, Nat.reduceLeDiff, Nat.reduceLT]) | ((with_reducible refine AW.ret ?_); simp -implicitDefEqProofs (maxSteps := 2000000) only [go_sem, clX_nn, px0, px1, px2, px3, px4, Nat.mul_one, h12, ho0, ho1, hr0, hr1, hc01, hc10, hc11, hli, hlj, iD, hlt0, if_true, hw11, hwj, reduceCtorEq, Nat.reduceBEq, Nat.reduceAdd, Nat.reduceSub, Nat.reduceEqDiff, Nat.reduceLeDiff, Nat.reduceLT]) | ((with_reducible refine AW.exit ?_); simp -implicitDefEqProofs (maxSteps := 2000000) only [go_sem, clX_nn, px0, px1, px2, px3, px4, Nat.mul_one, h12, ho0, ho1, hr0, hr1, hc01, hc10, hc11, hli, hlj, iD, hlt0, if_true, hw11, hwj, reduceCtorEq, Nat.reduceBEq, Nat.reduceAdd, Nat.reduceSub, Nat.reduceEqDiff, Nat.reduceLeDiff, Nat.reduceLT]) | ((with_reducible refine AW.c ?_); simp -implicitDefEqProofs (maxSteps := 2000000) only [go_sem, clX_nn, px0, px1, px2, px3, px4, Nat.mul_one, h12, ho0, ho1, hr0, hr1, hc01, hc10, hc11, hli, hlj, iD, hlt0, if_true, hw11, hwj, reduceCtorEq, Nat.reduceBEq, Nat.reduceAdd, Nat.reduceSub, Nat.reduceEqDiff, Nat.reduceLeDiff, Nat.reduceLT]))
          simp -implicitDefEqProofs (maxSteps := 2000000) only [go_sem, reduceCtorEq, Nat.reduceBEq, Nat.reduceAdd, Nat.reduceSub, Nat.reduceEqDiff, Nat.reduceLeDiff, Nat.reduceLT]
          repeat (first | ((with_reducible refine AW.rseq fun K hK => ?_); simp -implicitDefEqProofs (maxSteps := 2000000) only [go_sem, hwj, reduceCtorEq, Nat.reduceBEq, Nat.reduceAdd, Nat.reduceSub, Nat.reduceEqDiff, Nat.reduceLeDiff, Nat.reduceLT]; subst hK) | ((with_reducible refine AW.ds ?_ ?_ fun K hK => ?_); kernel_rfl; kernel_rfl; simp -implicitDefEqProofs (maxSteps := 2000000) only [go_sem, hwj, reduceCtorEq, Nat.reduceBEq, Nat.reduceAdd, Nat.reduceSub, Nat.reduceEqDiff, Nat.reduceLeDiff, Nat.reduceLT]; subst hK) | ((with_reducible refine AW.r fun K hK => ?_); simp -implicitDefEqProofs (maxSteps := 2000000) only [go_sem, hwj, reduceCtorEq, Nat.reduceBEq, Nat.reduceAdd, Nat.reduceSub, Nat.reduceEqDiff, Nat.reduceLeDiff, Nat.reduceLT]; subst hK) | ((with_reducible refine AW.d ?_ ?_ fun K hK => ?_); kernel_rfl; kernel_rfl; simp -implicitDefEqProofs (maxSteps := 2000000) only [go_sem, hwj, reduceCtorEq, Nat.reduceBEq, Nat.reduceAdd, Nat.reduceSub, Nat.reduceEqDiff, Nat.reduceLeDiff, Nat.reduceLT]; subst hK) | (with_reducible refine AW.seq ?_) | (with_reducible refine AW.block ?_) | ((with_reducible refine AW.skip ?_); simp -implicitDefEqProofs (maxSteps := 2000000) only [go_sem, hwj, reduceCtorEq, Nat.reduceBEq, Nat.reduceAdd, Nat.reduceSub, Nat.reduceEqDiff, Nat.reduceLeDiff, Nat.reduceLT]) | ((with_reducible refine AW.ret ?_); simp -implicitDefEqProofs (maxSteps := 2000000) only [go_sem, hwj, reduceCtorEq, Nat.reduceBEq, Nat.reduceAdd, Nat.reduceSub, Nat.reduceEqDiff, Nat.reduceLeDiff, Nat.reduceLT]) | ((with_reducible refine AW.exit ?_); simp -implicitDefEqProofs (maxSteps := 2000000) only [go_sem, hwj, reduceCtorEq, Nat.reduceBEq, Nat.reduceAdd, Nat.reduceSub, Nat.reduceEqDiff, Nat.reduceLeDiff, Nat.reduceLT]) | ((with_reducible refine AW.c ?_); simp -implicitDefEqProofs (maxSteps := 2000000) only [go_sem, hwj, reduceCtorEq, Nat.reduceBEq, Nat.reduceAdd, Nat.reduceSub, Nat.reduceEqDiff, Nat.reduceLeDiff, Nat.reduceLT]))
          show Lp _ _ _ n2 _
          refine Lp.tr (fun Q => AW.weakT (T' := (A.d (.sl (a.map .str)) :: A.d (.sl (b.map .str)) :: A.unk :: A.unk :: A.unk :: A.row 12 23 1 0 (a.length + 1) :: A.unk :: A.d (.int .i64 (i : Int)) :: A.d (.int .i64 ((j : Int) - 1)) :: A.unk :: A.unk :: A.unk :: A.unk :: A.unk :: A.unk :: A.unk :: A.unk :: A.unk :: A.unk :: A.unk :: A.unk :: A.unk :: A.unk :: A.unk :: A.unk :: A.unk :: A.unk :: A.unk :: A.unk :: A.unk :: A.unk :: A.unk :: A.unk :: A.unk :: A.unk :: A.unk :: A.unk :: A.unk :: A.unk :: A.unk :: A.unk :: A.unk :: A.unk :: A.unk :: A.unk :: A.unk :: A.unk :: A.unk :: A.unk :: A.unk :: A.unk :: A.unk :: A.unk :: A.unk :: A.unk :: A.unk :: A.unk :: A.unk :: A.unk :: A.unk :: A.unk :: A.unk :: A.unk :: A.unk :: A.unk :: A.unk :: A.unk :: A.unk :: A.unk :: A.unk :: A.unk :: A.unk :: A.unk :: A.unk :: A.unk :: A.unk :: A.unk :: A.unk :: A.unk :: A.unk :: A.unk :: A.unk :: A.unk :: A.unk :: A.unk :: A.unk :: A.unk :: A.unk :: A.unk :: [])) ?_) ?_
          · simp -implicitDefEqProofs (maxSteps := 2000000) only [go_sem, reduceCtorEq, Nat.reduceBEq, Nat.reduceAdd, Nat.reduceSub, Nat.reduceEqDiff, Nat.reduceLeDiff, Nat.reduceLT]
          refine Lp.tr (fun Q => AW.sub (hset _ ?_)) (ih2 j (by omega) (by omega))
          rw [if_neg (by simpa [str_eq] using heq)] at hrec
          rw [hrec]
          split <;> omega
end Go.Proofs.Ytidnkaopndmigaa.F
end
section
set_option linter.unusedSimpArgs false
set_option linter.unusedVariables false
/- That they do: printed by a program of ours. -/
namespace Go.Proofs.Ytidnkaopndmigaa.F
open Go Go.Proofs.Ytidnkaopndmigaa.V
set_option maxRecDepth 100000
set_option linter.unusedVariables false
abbrev us (n : Nat) : List SA := List.replicate n .unk

theorem diff_measure_30_ok : Fn.Ok Try.prog ⟨30, [.sl .str, .sl .str], [.sl (.sl (.int .i64))], diff_measure_30⟩ := by
  intro a r hr
  unfold diff_measure_30 at hr
  simp only at hr
  split at hr
  · rename_i h
    injection hr with hr; subst hr
    have e1 : ∀ l : List ByteArray, (Ty.sl .str).toD l = .sl (l.map .str) := fun l => by rw [toD_sl]; rfl
    have e2 : ∀ l : List (List Int), (Ty.sl (.sl (.int .i64))).toD l = .sl (l.map fun r => .sl (r.map iD)) := fun l => by
      rw [toD_sl]
      exact congrArg D.sl (List.map_congr_left fun r _ => by rw [toD_sl]; rfl)
    have hc := measure a.1 a.2.1 h.1 h.2
    rw [← e1, ← e1, ← e2] at hc
    exact hc
  · cases hr
theorem strings_ContainsRune_32_ok : Fn.Ok Try.prog ⟨32, [.str, .int .i32], [.bool], strings_ContainsRune_32⟩ := by
  intro a r hr
  unfold strings_ContainsRune_32 at hr
  simp only at hr
  split at hr
  · rename_i h
    injection hr with hr; subst hr
    refine ⟨Enters.of Try.func32 (by kernel_rfl) rfl, fun M w vs hM hargs => ?_⟩
    obtain ⟨hl, hv⟩ := hargs
    match vs, hl with
    | [x, y], _ =>
      obtain rfl := (hv 0 _ x rfl rfl).str_inv
      obtain rfl := (hv 1 _ y rfl rfl).int_inv
      refine (Try.strings_ContainsRune_ascii a.1 a.2.1 w h.1 h.2).mono fun e w' ⟨h2, h3⟩ => ?_
      subst h2; subst h3
      exact ⟨_, rfl, .bool _, Go.RowKit.Below.refl _ _⟩
  · cases hr


/- unicode/utf8.ValidRune -/
def utf8_ValidRune_35_h : List (Nat × SS × Nat) := [(102, ⟨us 10 ++ [.d (.v 2)] ++ us 6, [], []⟩, 1), (24, ⟨[.d (.v 0), .unk, .unk, .d (.v 1)] ++ us 13, [], []⟩, 1)]
theorem utf8_ValidRune_35_ok : Fn.Ok Try.prog ⟨35, [(.int .i32)], [.bool], utf8_ValidRune_35⟩ :=
  Fn.of (c := ⟨Try.prog, [], [], [], utf8_ValidRune_35_h⟩) (fs := []) (gs := []) (an := [.bool, .bool, .bool, .bool, .bool, .bool]) (by kernel_rfl) Try.func35 (by kernel_rfl) (by kernel_rfl) (fun _ h => by cases h) (fun _ h => by cases h) (by kernel_rfl)


/- internal/bytealg.Cutover -/
def bytealg_Cutover_36_h : List (Nat × SS × Nat) := []
theorem bytealg_Cutover_36_ok : Fn.Ok Try.prog ⟨36, [(.int .i64)], [(.int .i64)], bytealg_Cutover_36⟩ :=
  Fn.of (c := ⟨Try.prog, [], [], [], bytealg_Cutover_36_h⟩) (fs := []) (gs := []) (an := [(.int .i64), (.int .i64)]) (by kernel_rfl) Try.func36 (by kernel_rfl) (by kernel_rfl) (fun _ h => by cases h) (fun _ h => by cases h) (by kernel_rfl)


/- changeforge/lines.Validate -/
def lines_Validate_28_h : List (Nat × SS × Nat) := [(29, ⟨[.unk, .unk, .box 2 0] ++ us 26, [(2, .cs ([.d (.k (.int .i64 0)), .d (.k (.int .i64 0))]))], []⟩, 0), (58, ⟨[.unk, .unk, .box 2 0] ++ us 6 ++ [.d (.v 0), .d (.v 3), .d (.v 4)] ++ us 17, [(2, .cs ([.d (.k (.int .i64 0)), .d (.k (.int .i64 0))]))], []⟩, 1)]
theorem lines_Validate_28_ok : Fn.Ok Try.prog ⟨28, [(.sl .str)], [(.p (.int .i64) (.p (.int .i64) .e))], lines_Validate_28⟩ :=
  Fn.of (c := ⟨Try.prog, [(32, 1)], [], [], lines_Validate_28_h⟩) (fs := [⟨32, [.str, (.int .i32)], [.bool], strings_ContainsRune_32⟩]) (gs := []) (an := [(.int .i64), .bool, (.p (.int .i64) (.p (.int .i64) .e)), (.int .i64), (.p (.int .i64) (.p (.int .i64) .e)), (.int .i64), .bool, .str, .str, (.int .i64), .bool, (.int .i64), (.p (.int .i64) (.p (.int .i64) .e)), (.int .i64), (.p (.int .i64) (.p (.int .i64) .e)), (.int .i64)]) (by kernel_rfl) Try.func28 (by kernel_rfl) (by kernel_rfl) (by simp only [List.forall_mem_cons, List.not_mem_nil, false_implies, implies_true, and_true]; exact strings_ContainsRune_32_ok) (fun _ h => by cases h) (by kernel_rfl)


/- changeforge/lines.Code -/
def lines_Code_17_h : List (Nat × SS × Nat) := []
theorem lines_Code_17_ok : Fn.Ok Try.prog ⟨17, [(.sl .str)], [(.int .i64)], lines_Code_17⟩ :=
  Fn.of (c := ⟨Try.prog, [(28, 1)], [], [], lines_Code_17_h⟩) (fs := [⟨28, [(.sl .str)], [(.p (.int .i64) (.p (.int .i64) .e))], lines_Validate_28⟩]) (gs := []) (an := [(.int .i64)]) (by kernel_rfl) Try.func17 (by kernel_rfl) (by kernel_rfl) (by simp only [List.forall_mem_cons, List.not_mem_nil, false_implies, implies_true, and_true]; exact lines_Validate_28_ok) (fun _ h => by cases h) (by kernel_rfl)


/- changeforge/lines.Two -/
def lines_Two_21_h : List (Nat × SS × Nat) := []
theorem lines_Two_21_ok : Fn.Ok Try.prog ⟨21, [(.sl .str), (.sl .str)], [(.p (.int .i64) (.p (.int .i64) .e))], lines_Two_21⟩ :=
  Fn.of (c := ⟨Try.prog, [(28, 1), (17, 1)], [], [], lines_Two_21_h⟩) (fs := [⟨28, [(.sl .str)], [(.p (.int .i64) (.p (.int .i64) .e))], lines_Validate_28⟩, ⟨17, [(.sl .str)], [(.int .i64)], lines_Code_17⟩]) (gs := []) (an := [(.int .i64), (.int .i64), (.p (.int .i64) (.p (.int .i64) .e)), (.p (.int .i64) (.p (.int .i64) .e)), .bool, (.p (.int .i64) (.p (.int .i64) .e)), .bool, (.int .i64), (.p (.int .i64) (.p (.int .i64) .e)), (.p (.int .i64) (.p (.int .i64) .e))]) (by kernel_rfl) Try.func21 (by kernel_rfl) (by kernel_rfl) (by simp only [List.forall_mem_cons, List.not_mem_nil, false_implies, implies_true, and_true]; exact ⟨lines_Validate_28_ok, lines_Code_17_ok⟩) (fun _ h => by cases h) (by kernel_rfl)


/- changeforge/diff.Script$2 -/
def diff_Script_2_24_h : List (Nat × SS × Nat) := []
def diff_Script_2_24_g : Sg := ⟨24, [.d (.v 0), .box 2000 0], [(2000, .cs ([.grow 42 3 1]))], 2, [], [(2000, .cs ([.grow 42 3 0]))], 1, []⟩
theorem diff_Script_2_24_ok : Gn.Ok Try.prog ⟨diff_Script_2_24_g, [(.p (.int .i64) (.p (.sl .str) (.p (.sl .str) .e))), (.sl (.p (.int .i64) (.p (.sl .str) (.p (.sl .str) .e))))], [(.sl (.p (.int .i64) (.p (.sl .str) (.p (.sl .str) .e))))], diff_Script_2_24⟩ :=
  Gn.of' (c := ⟨Try.prog, [], [], [], diff_Script_2_24_h⟩) (fs := []) (gs := []) (an := [(.int .i64), (.sl .str), (.sl .str), (.p (.int .i64) (.p (.sl .str) (.p (.sl .str) .e))), (.sl (.p (.int .i64) (.p (.sl .str) (.p (.sl .str) .e)))), (.sl (.p (.int .i64) (.p (.sl .str) (.p (.sl .str) .e))))]) (by kernel_rfl) Try.func24 (by kernel_rfl) (by kernel_rfl) (fun _ h => by cases h) (fun _ h => by cases h) (by kernel_rfl)


/- changeforge/diff.Script$1 -/
def diff_Script_1_23_h : List (Nat × SS × Nat) := []
theorem diff_Script_1_23_ok : Fn.Ok Try.prog ⟨23, [(.int .i64)], [], diff_Script_1_23⟩ :=
  Fn.of (c := ⟨Try.prog, [], [], [], diff_Script_1_23_h⟩) (fs := []) (gs := []) (an := []) (by kernel_rfl) Try.func23 (by kernel_rfl) (by kernel_rfl) (fun _ h => by cases h) (fun _ h => by cases h) (by kernel_rfl)


/- changeforge/diff.steps -/
def diff_steps_22_23_24_h : List (Nat × SS × Nat) := [(7, ⟨us 129, [(2000, .cs ([.grow 42 3 4]))], [.t 107, .t 96]⟩, 1), (57, ⟨[.d (.v 0), .d (.v 1), .fn 23 [], .fn 24 [(2000, 0)]] ++ us 4 ++ [.d (.v 3), .d (.v 11), .d (.v 12)] ++ us 118, [(2000, .cs ([.grow 42 3 13]))], [.t 107, .t 96]⟩, 3), (458, ⟨[.d (.v 0), .d (.v 1), .fn 23 [], .fn 24 [(2000, 0)]] ++ us 4 ++ [.d (.v 3), .d (.v 12), .d (.v 13), .box 11 0] ++ us 117, [(2000, .cs ([.grow 42 3 14])), (11, .cs ([.d (.v 15), .grow 9 1 16, .grow 9 1 17]))], [.t 107, .t 96]⟩, 6), (3665, ⟨[.d (.v 0), .d (.v 1), .fn 23 [], .fn 24 [(2000, 0)]] ++ us 4 ++ [.d (.v 3), .d (.v 25), .d (.v 26), .box 11 0] ++ us 117, [(2000, .cs ([.grow 42 3 27])), (11, .cs ([.d (.v 28), .grow 9 1 29, .grow 9 1 30]))], [.t 96, .t 107]⟩, 6), (14661, ⟨[.d (.v 0), .d (.v 1), .fn 23 [], .fn 24 [(2000, 0)]] ++ us 4 ++ [.d (.v 3), .d (.v 32), .d (.v 33), .box 11 0] ++ us 117, [(2000, .cs ([.grow 42 3 34])), (11, .cs ([.d (.v 35), .grow 9 1 36, .grow 9 1 37]))], [.t 96, .t 107]⟩, 6), (14660, ⟨[.d (.v 0), .d (.v 1), .fn 23 [], .fn 24 [(2000, 0)]] ++ us 4 ++ [.d (.v 3), .d (.v 25), .d (.v 26), .box 11 0] ++ us 76 ++ [.d (.v 27)] ++ us 40, [(2000, .cs ([.grow 42 3 28])), (11, .cs ([.d (.v 29), .grow 9 1 30, .grow 9 1 31]))], [.t 107, .t 96]⟩, 7), (7328, ⟨[.d (.v 0), .d (.v 1), .fn 23 [], .fn 24 [(2000, 0)]] ++ us 4 ++ [.d (.v 3), .d (.v 18), .d (.v 19), .box 11 0] ++ us 47 ++ [.d (.v 20)] ++ us 69, [(2000, .cs ([.grow 42 3 21])), (11, .cs ([.d (.v 22), .grow 9 1 23, .grow 9 1 24]))], [.t 107, .t 96]⟩, 7), (916, ⟨[.d (.v 0), .d (.v 1), .fn 23 [], .fn 24 [(2000, 0)]] ++ us 4 ++ [.d (.v 3), .d (.v 12), .d (.v 13), .box 11 0] ++ us 117, [(2000, .cs ([.grow 42 3 14])), (11, .cs ([.d (.v 15), .grow 9 1 16, .grow 9 1 17]))], [.t 107, .t 96]⟩, 6), (112, ⟨[.d (.v 0), .d (.v 1), .fn 23 [], .fn 24 [(2000, 0)]] ++ us 4 ++ [.d (.v 3), .d (.v 7), .d (.v 8)] ++ us 13 ++ [.d (.v 9)] ++ us 104, [(2000, .cs ([.grow 42 3 10]))], [.t 107, .t 96]⟩, 4), (14, ⟨[.d (.v 0), .d (.v 1), .fn 23 [], .fn 24 [(2000, 0)]] ++ us 4 ++ [.d (.v 3), .d (.v 4), .d (.v 5)] ++ us 118, [(2000, .cs ([.grow 42 3 6]))], [.t 107, .t 96]⟩, 3)]
def diff_steps_22_23_24_g : Sg := ⟨22, [.d (.v 0), .d (.v 1), .fn 23 [], .fn 24 [(2000, 0)]], [(2000, .cs ([.grow 42 3 2]))], 3, [], [(2000, .cs ([.grow 42 3 0]))], 1, []⟩
theorem diff_steps_22_23_24_ok : Gn.Ok Try.prog ⟨diff_steps_22_23_24_g, [(.sl .str), (.sl .str), (.sl (.p (.int .i64) (.p (.sl .str) (.p (.sl .str) .e))))], [(.sl (.p (.int .i64) (.p (.sl .str) (.p (.sl .str) .e))))], diff_steps_22_23_24⟩ :=
  Gn.of' (c := ⟨Try.prog, [(30, 1), (23, 0)], [diff_Script_2_24_g], [], diff_steps_22_23_24_h⟩) (fs := [⟨30, [(.sl .str), (.sl .str)], [(.sl (.sl (.int .i64)))], diff_measure_30⟩, ⟨23, [(.int .i64)], [], diff_Script_1_23⟩]) (gs := [⟨diff_Script_2_24_g, [(.p (.int .i64) (.p (.sl .str) (.p (.sl .str) .e))), (.sl (.p (.int .i64) (.p (.sl .str) (.p (.sl .str) .e))))], [(.sl (.p (.int .i64) (.p (.sl .str) (.p (.sl .str) .e))))], diff_Script_2_24⟩]) (an := [(.sl (.p (.int .i64) (.p (.sl .str) (.p (.sl .str) .e)))), (.int .i64), (.int .i64), (.sl (.p (.int .i64) (.p (.sl .str) (.p (.sl .str) .e)))), (.int .i64), (.int .i64), .bool, (.sl (.p (.int .i64) (.p (.sl .str) (.p (.sl .str) .e)))), (.int .i64), (.int .i64), (.sl (.p (.int .i64) (.p (.sl .str) (.p (.sl .str) .e)))), (.int .i64), (.int .i64), (.int .i64), (.sl (.p (.int .i64) (.p (.sl .str) (.p (.sl .str) .e)))), (.int .i64), (.sl .str), (.sl .str), (.int .i64), (.int .i64), (.int .i64), .bool, (.p (.int .i64) (.p (.sl .str) (.p (.sl .str) .e))), (.int .i64), (.int .i64), (.int .i64), (.int .i64), (.sl (.p (.int .i64) (.p (.sl .str) (.p (.sl .str) .e)))), (.int .i64), (.sl .str), (.sl .str), (.int .i64), (.int .i64), .bool, (.sl (.p (.int .i64) (.p (.sl .str) (.p (.sl .str) .e)))), (.int .i64), (.sl .str), (.sl .str), (.int .i64), (.int .i64), (.sl (.p (.int .i64) (.p (.sl .str) (.p (.sl .str) .e)))), (.int .i64), (.sl .str), (.sl .str), (.int .i64), (.int .i64), .bool, (.sl (.p (.int .i64) (.p (.sl .str) (.p (.sl .str) .e)))), (.int .i64), (.sl .str), (.sl .str), (.int .i64), (.int .i64), (.sl (.p (.int .i64) (.p (.sl .str) (.p (.sl .str) .e)))), (.int .i64), (.sl .str), (.sl .str), .str, .str, (.sl .str), (.sl .str), (.int .i64), .str, .str, (.sl .str), (.sl .str), (.int .i64), (.int .i64), .bool, (.int .i64), .bool, (.int .i64), (.sl (.int .i64)), (.sl (.int .i64)), (.int .i64), (.int .i64), (.sl (.int .i64)), (.sl (.int .i64)), (.int .i64), (.int .i64), (.int .i64), .bool, (.int .i64), .bool, (.int .i64), .bool, (.int .i64), .bool, .str, .str, .str, .str, .bool, (.int .i64), .bool, (.int .i64), .bool, (.int .i64), .bool, .str, .str, .str, .str, .bool, (.int .i64), .bool, (.int .i64), .bool]) (by kernel_rfl) Try.func22 (by kernel_rfl) (by kernel_rfl) (by simp only [List.forall_mem_cons, List.not_mem_nil, false_implies, implies_true, and_true]; exact ⟨diff_measure_30_ok, diff_Script_1_23_ok⟩) (by simp only [List.forall_mem_cons, List.not_mem_nil, false_implies, implies_true, and_true]; exact diff_Script_2_24_ok) (by kernel_rfl)


end Go.Proofs.Ytidnkaopndmigaa.F
end
section
set_option linter.unusedSimpArgs false
set_option linter.unusedVariables false
/- That they do: printed by a program of ours. -/
namespace Go.Proofs.Ytidnkaopndmigaa.F
open Go Go.Proofs.Ytidnkaopndmigaa.V
set_option maxRecDepth 100000
set_option linter.unusedVariables false

/- changeforge/diff.Script -/
def diff_Script_15_h : List (Nat × SS × Nat) := []
theorem diff_Script_15_ok : Fn.Ok Try.prog ⟨15, [(.sl .str), (.sl .str)], [(.p (.sl (.p (.int .i64) (.p (.sl .str) (.p (.sl .str) .e)))) .e), (.p (.int .i64) (.p (.int .i64) .e))], diff_Script_15⟩ :=
  Fn.of (c := ⟨Try.prog, [(21, 1)], [diff_steps_22_23_24_g], [], diff_Script_15_h⟩) (fs := [⟨21, [(.sl .str), (.sl .str)], [(.p (.int .i64) (.p (.int .i64) .e))], lines_Two_21⟩]) (gs := [⟨diff_steps_22_23_24_g, [(.sl .str), (.sl .str), (.sl (.p (.int .i64) (.p (.sl .str) (.p (.sl .str) .e))))], [(.sl (.p (.int .i64) (.p (.sl .str) (.p (.sl .str) .e))))], diff_steps_22_23_24⟩]) (an := [(.int .i64), (.int .i64), (.p (.int .i64) (.p (.int .i64) .e)), (.p (.int .i64) (.p (.int .i64) .e)), .bool, (.p (.sl (.p (.int .i64) (.p (.sl .str) (.p (.sl .str) .e)))) .e), (.p (.int .i64) (.p (.int .i64) .e)), (.p (.sl (.p (.int .i64) (.p (.sl .str) (.p (.sl .str) .e)))) .e), (.p (.int .i64) (.p (.int .i64) .e))]) (by kernel_rfl) Try.func15 (by kernel_rfl) (by kernel_rfl) (by simp only [List.forall_mem_cons, List.not_mem_nil, false_implies, implies_true, and_true]; exact lines_Two_21_ok) (by simp only [List.forall_mem_cons, List.not_mem_nil, false_implies, implies_true, and_true]; exact diff_steps_22_23_24_ok) (by kernel_rfl)


/- changeforge/textpatch.End -/
def textpatch_End_26_h : List (Nat × SS × Nat) := []
theorem textpatch_End_26_ok : Fn.Ok Try.prog ⟨26, [(.p (.int .i64) (.p (.sl .str) (.p (.sl .str) .e)))], [(.int .i64)], textpatch_End_26⟩ :=
  Fn.of (c := ⟨Try.prog, [], [], [], textpatch_End_26_h⟩) (fs := []) (gs := []) (an := [(.int .i64), (.sl .str), (.sl .str), (.int .i64), (.int .i64)]) (by kernel_rfl) Try.func26 (by kernel_rfl) (by kernel_rfl) (fun _ h => by cases h) (fun _ h => by cases h) (by kernel_rfl)


/- changeforge/blame.Follow -/
def blame_Follow_18_h : List (Nat × SS × Nat) := [(61, ⟨[.d (.v 0)] ++ us 6 ++ [.grow 3 1 5, .d (.v 6)] ++ us 34, [], [.t 33, .t 24]⟩, 2), (62669, ⟨[.d (.v 0), .unk, .d (.v 2)] ++ us 4 ++ [.grow 3 1 17, .unk, .unk, .box 10 0, .unk, .d (.v 3), .d (.v 4), .d (.v 18)] ++ us 28, [(10, .cs ([.d (.v 19), .d (.v 20), .d (.v 21)]))], [.t 24, .t 33]⟩, 5), (125338, ⟨[.d (.v 0), .unk, .d (.v 2)] ++ us 4 ++ [.grow 3 1 17, .unk, .unk, .box 10 0, .unk, .d (.v 3), .d (.v 4), .d (.v 18)] ++ us 12 ++ [.d (.v 19), .d (.v 20)] ++ us 14, [(10, .cs ([.d (.v 21), .d (.v 22), .d (.v 23)]))], [.t 24, .t 33]⟩, 7), (122, ⟨[.d (.v 0), .unk, .d (.v 2)] ++ us 4 ++ [.grow 3 1 5, .d (.v 6), .unk, .unk, .unk, .d (.v 3), .d (.v 4), .d (.v 7)] ++ us 28, [], [.t 33, .t 24]⟩, 3)]
theorem blame_Follow_18_ok : Fn.Ok Try.prog ⟨18, [(.sl (.int .i64)), (.p (.sl (.p (.int .i64) (.p (.sl .str) (.p (.sl .str) .e)))) .e), (.int .i64)], [(.sl (.int .i64))], blame_Follow_18⟩ :=
  Fn.of (c := ⟨Try.prog, [(26, 1)], [], [], blame_Follow_18_h⟩) (fs := [⟨26, [(.p (.int .i64) (.p (.sl .str) (.p (.sl .str) .e)))], [(.int .i64)], textpatch_End_26⟩]) (gs := []) (an := [(.sl (.p (.int .i64) (.p (.sl .str) (.p (.sl .str) .e)))), (.int .i64), (.sl (.int .i64)), (.int .i64), (.sl (.int .i64)), (.sl (.int .i64)), (.sl (.int .i64)), (.int .i64), (.int .i64), .bool, (.p (.int .i64) (.p (.sl .str) (.p (.sl .str) .e))), (.p (.int .i64) (.p (.sl .str) (.p (.sl .str) .e))), (.int .i64), (.sl .str), (.sl .str), (.sl (.int .i64)), (.sl (.int .i64)), (.int .i64), (.sl (.int .i64)), (.int .i64), (.int .i64), (.sl .str), (.sl .str), (.p (.int .i64) (.p (.sl .str) (.p (.sl .str) .e))), (.int .i64), (.sl (.int .i64)), (.int .i64), (.int .i64), (.int .i64), (.int .i64), (.sl .str), (.sl .str), .bool, (.sl (.int .i64)), (.sl (.int .i64)), (.int .i64)]) (by kernel_rfl) Try.func18 (by kernel_rfl) (by kernel_rfl) (by simp only [List.forall_mem_cons, List.not_mem_nil, false_implies, implies_true, and_true]; exact textpatch_End_26_ok) (fun _ h => by cases h) (by kernel_rfl)


/- changeforge/blame.Annotate -/
def blame_Annotate_8_h : List (Nat × SS × Nat) := [(253, ⟨[.unk, .unk, .unk, .box 3 0, .unk, .unk, .unk, .d (.v 5)] ++ us 45, [(3, .cs ([.d (.k (.int .i64 0)), .d (.k (.int .i64 0))]))], []⟩, 1), (506, ⟨[.unk, .unk, .unk, .box 3 0, .unk, .unk, .unk, .d (.v 5), .d (.v 6)] ++ us 23 ++ [.d (.v 0), .d (.v 4), .d (.v 7)] ++ us 18, [(3, .cs ([.d (.k (.int .i64 0)), .d (.k (.int .i64 0))]))], []⟩, 3), (29, ⟨[.d (.v 0), .unk, .unk, .box 3 0] ++ us 49, [(3, .cs ([.d (.k (.int .i64 0)), .d (.k (.int .i64 0))]))], []⟩, 0), (58, ⟨[.d (.v 0), .unk, .unk, .box 3 0] ++ us 13 ++ [.d (.v 0), .d (.v 3), .d (.v 4)] ++ us 33, [(3, .cs ([.d (.k (.int .i64 0)), .d (.k (.int .i64 0))]))], []⟩, 1)]
theorem blame_Annotate_8_ok : Fn.Ok Try.prog ⟨8, [(.sl (.sl .str))], [(.sl (.int .i64)), (.p (.int .i64) (.p (.int .i64) .e))], blame_Annotate_8⟩ :=
  Fn.of (c := ⟨Try.prog, [(15, 2), (18, 1), (17, 1)], [], [], blame_Annotate_8_h⟩) (fs := [⟨15, [(.sl .str), (.sl .str)], [(.p (.sl (.p (.int .i64) (.p (.sl .str) (.p (.sl .str) .e)))) .e), (.p (.int .i64) (.p (.int .i64) .e))], diff_Script_15⟩, ⟨18, [(.sl (.int .i64)), (.p (.sl (.p (.int .i64) (.p (.sl .str) (.p (.sl .str) .e)))) .e), (.int .i64)], [(.sl (.int .i64))], blame_Follow_18⟩, ⟨17, [(.sl .str)], [(.int .i64)], lines_Code_17⟩]) (gs := []) (an := [(.int .i64), .bool, (.p (.int .i64) (.p (.int .i64) .e)), (.int .i64), (.int .i64), (.sl (.int .i64)), (.p (.int .i64) (.p (.int .i64) .e)), (.sl (.int .i64)), (.sl .str), (.int .i64), .bool, (.sl .str), (.sl .str), (.sl (.p (.int .i64) (.p (.sl .str) (.p (.sl .str) .e)))), (.int .i64), (.int .i64), (.p (.sl (.p (.int .i64) (.p (.sl .str) (.p (.sl .str) .e)))) .e), (.int .i64), (.int .i64), .bool, (.sl .str), (.sl .str), .bool, (.int .i64), (.int .i64), (.p (.int .i64) (.p (.int .i64) .e)), (.int .i64)]) (by kernel_rfl) Try.func8 (by kernel_rfl) (by kernel_rfl) (by simp only [List.forall_mem_cons, List.not_mem_nil, false_implies, implies_true, and_true]; exact ⟨diff_Script_15_ok, blame_Follow_18_ok, lines_Code_17_ok⟩) (fun _ h => by cases h) (by kernel_rfl)


/- changeforge/changeforgeequal.Ints -/
def changeforgeequal_Ints_12_h : List (Nat × SS × Nat) := [(29, ⟨us 26, [], []⟩, 0), (58, ⟨[.d (.v 0), .d (.v 1), .unk, .unk, .unk, .d (.v 5)] ++ us 20, [], []⟩, 1)]
theorem changeforgeequal_Ints_12_ok : Fn.Ok Try.prog ⟨12, [(.sl (.int .i64)), (.sl (.int .i64))], [.bool], changeforgeequal_Ints_12⟩ :=
  Fn.of (c := ⟨Try.prog, [], [], [], changeforgeequal_Ints_12_h⟩) (fs := []) (gs := []) (an := [(.int .i64), (.int .i64), .bool, (.int .i64), (.int .i64), .bool, (.int .i64), (.int .i64), (.int .i64), (.int .i64), .bool, (.int .i64)]) (by kernel_rfl) Try.func12 (by kernel_rfl) (by kernel_rfl) (fun _ h => by cases h) (fun _ h => by cases h) (by kernel_rfl)


/- changeforge/changeforgelaw2.added -/
def changeforgelaw2_added_10_h : List (Nat × SS × Nat) := [(14, ⟨[.d (.v 7)] ++ us 17, [], []⟩, 1)]
theorem changeforgelaw2_added_10_ok : Fn.Ok Try.prog ⟨10, [], [.bool], changeforgelaw2_added_10⟩ :=
  Fn.of (c := ⟨Try.prog, [(8, 2), (12, 1)], [], [], changeforgelaw2_added_10_h⟩) (fs := [⟨8, [(.sl (.sl .str))], [(.sl (.int .i64)), (.p (.int .i64) (.p (.int .i64) .e))], blame_Annotate_8⟩, ⟨12, [(.sl (.int .i64)), (.sl (.int .i64))], [.bool], changeforgeequal_Ints_12⟩]) (gs := []) (an := [(.sl .str), (.sl .str), (.sl (.sl .str)), (.int .i64), (.int .i64), .bool, .bool, (.sl (.int .i64))]) (by kernel_rfl) Try.func10 (by kernel_rfl) (by kernel_rfl) (by simp only [List.forall_mem_cons, List.not_mem_nil, false_implies, implies_true, and_true]; exact ⟨blame_Annotate_8_ok, changeforgeequal_Ints_12_ok⟩) (fun _ h => by cases h) (by kernel_rfl)


end Go.Proofs.Ytidnkaopndmigaa.F
end
section
set_option linter.unusedSimpArgs false
set_option linter.unusedVariables false
/- That they do: printed by a program of ours. -/
namespace Go.Proofs.Ytidnkaopndmigaa.F
open Go Go.Proofs.Ytidnkaopndmigaa.V
set_option maxRecDepth 100000
set_option linter.unusedVariables false

/- changeforge/changeforgelaw2.BlameUnchanged -/
def changeforgelaw2_BlameUnchanged_5_h : List (Nat × SS × Nat) := [(62, ⟨[.unk, .unk, .d (.v 18)] ++ us 49, [], [.t 29, .t 27]⟩, 1), (28, ⟨[.d (.v 0), .unk, .unk, .d (.v 1)] ++ us 20 ++ [.d (.v 5)] ++ us 27, [], []⟩, 1)]
theorem changeforgelaw2_BlameUnchanged_5_ok : Fn.Ok Try.prog ⟨5, [(.sl (.sl .str))], [.bool], changeforgelaw2_BlameUnchanged_5⟩ :=
  Fn.of (c := ⟨Try.prog, [(8, 2), (10, 1), (12, 1)], [], [], changeforgelaw2_BlameUnchanged_5_h⟩) (fs := [⟨8, [(.sl (.sl .str))], [(.sl (.int .i64)), (.p (.int .i64) (.p (.int .i64) .e))], blame_Annotate_8⟩, ⟨10, [], [.bool], changeforgelaw2_added_10⟩, ⟨12, [(.sl (.int .i64)), (.sl (.int .i64))], [.bool], changeforgeequal_Ints_12⟩]) (gs := []) (an := [(.int .i64), (.int .i64), .bool, (.sl (.sl .str)), (.sl (.sl .str)), (.int .i64), (.int .i64), (.sl .str), (.sl .str), (.sl (.sl .str)), (.sl (.sl .str)), (.int .i64), (.int .i64), .bool, .bool, .bool, (.int .i64), .bool, (.int .i64), .bool]) (by kernel_rfl) Try.func5 (by kernel_rfl) (by kernel_rfl) (by simp only [List.forall_mem_cons, List.not_mem_nil, false_implies, implies_true, and_true]; exact ⟨blame_Annotate_8_ok, changeforgelaw2_added_10_ok, changeforgeequal_Ints_12_ok⟩) (fun _ h => by cases h) (by kernel_rfl)


/- changeforge/textpatch.hunkCode -/
def textpatch_hunkCode_31_h : List (Nat × SS × Nat) := [(1662, ⟨[.unk, .unk, .box 2 0] ++ us 27 ++ [.d (.v 10)] ++ us 20, [(2, .cs ([.d (.v 2), .d (.v 3), .d (.v 4)]))], []⟩, 1), (24, ⟨[.unk, .d (.v 1), .box 2 0, .unk, .unk, .d (.v 5)] ++ us 45, [(2, .cs ([.d (.v 2), .d (.v 3), .d (.v 4)]))], []⟩, 1)]
theorem textpatch_hunkCode_31_ok : Fn.Ok Try.prog ⟨31, [(.p (.int .i64) (.p (.sl .str) (.p (.sl .str) .e))), (.int .i64)], [(.int .i64)], textpatch_hunkCode_31⟩ :=
  Fn.of (c := ⟨Try.prog, [(17, 1), (26, 1)], [], [], textpatch_hunkCode_31_h⟩) (fs := [⟨17, [(.sl .str)], [(.int .i64)], lines_Code_17⟩, ⟨26, [(.p (.int .i64) (.p (.sl .str) (.p (.sl .str) .e)))], [(.int .i64)], textpatch_End_26⟩]) (gs := []) (an := [(.int .i64), (.sl .str), (.sl .str), .bool, .bool, .bool, .bool, (.p (.int .i64) (.p (.sl .str) (.p (.sl .str) .e))), .bool, (.int .i64), .bool, (.int .i64), .bool, .bool, .bool, .bool, .bool]) (by kernel_rfl) Try.func31 (by kernel_rfl) (by kernel_rfl) (by simp only [List.forall_mem_cons, List.not_mem_nil, false_implies, implies_true, and_true]; exact ⟨lines_Code_17_ok, textpatch_End_26_ok⟩) (fun _ h => by cases h) (by kernel_rfl)


/- changeforge/textpatch.Validate -/
def textpatch_Validate_25_h : List (Nat × SS × Nat) := [(61, ⟨[.unk, .unk, .box 2 0] ++ us 30, [(2, .cs ([.d (.k (.int .i64 0)), .d (.k (.int .i64 0))]))], []⟩, 0), (122, ⟨[.unk, .unk, .box 2 0, .d (.v 5)] ++ us 9 ++ [.d (.v 1), .d (.v 4), .d (.v 6)] ++ us 17, [(2, .cs ([.d (.k (.int .i64 0)), .d (.k (.int .i64 0))]))], []⟩, 2)]
theorem textpatch_Validate_25_ok : Fn.Ok Try.prog ⟨25, [(.p (.sl (.p (.int .i64) (.p (.sl .str) (.p (.sl .str) .e)))) .e)], [(.p (.int .i64) (.p (.int .i64) .e))], textpatch_Validate_25⟩ :=
  Fn.of (c := ⟨Try.prog, [(31, 1), (26, 1)], [], [], textpatch_Validate_25_h⟩) (fs := [⟨31, [(.p (.int .i64) (.p (.sl .str) (.p (.sl .str) .e))), (.int .i64)], [(.int .i64)], textpatch_hunkCode_31⟩, ⟨26, [(.p (.int .i64) (.p (.sl .str) (.p (.sl .str) .e)))], [(.int .i64)], textpatch_End_26⟩]) (gs := []) (an := [(.sl (.p (.int .i64) (.p (.sl .str) (.p (.sl .str) .e)))), (.int .i64), .bool, (.p (.int .i64) (.p (.int .i64) .e)), (.int .i64), (.p (.int .i64) (.p (.int .i64) .e)), (.int .i64), (.int .i64), .bool, (.p (.int .i64) (.p (.sl .str) (.p (.sl .str) .e))), (.p (.int .i64) (.p (.sl .str) (.p (.sl .str) .e))), (.int .i64), (.sl .str), (.sl .str), (.p (.int .i64) (.p (.sl .str) (.p (.sl .str) .e))), .bool, (.int .i64), (.int .i64), (.p (.int .i64) (.p (.int .i64) .e)), (.p (.int .i64) (.p (.sl .str) (.p (.sl .str) .e))), (.int .i64), (.int .i64)]) (by kernel_rfl) Try.func25 (by kernel_rfl) (by kernel_rfl) (by simp only [List.forall_mem_cons, List.not_mem_nil, false_implies, implies_true, and_true]; exact ⟨textpatch_hunkCode_31_ok, textpatch_End_26_ok⟩) (fun _ h => by cases h) (by kernel_rfl)


/- slices.Equal[[]string,string] -/
def slices_Equal___string_string__27_h : List (Nat × SS × Nat) := [(29, ⟨us 26, [], []⟩, 0), (58, ⟨[.d (.v 0), .d (.v 1)] ++ us 10 ++ [.d (.v 5), .d (.v 6)] ++ us 12, [], []⟩, 1)]
theorem slices_Equal___string_string__27_ok : Fn.Ok Try.prog ⟨27, [(.sl .str), (.sl .str)], [.bool], slices_Equal___string_string__27⟩ :=
  Fn.of (c := ⟨Try.prog, [], [], [], slices_Equal___string_string__27_h⟩) (fs := []) (gs := []) (an := [(.int .i64), (.int .i64), .bool, (.int .i64), (.int .i64), .bool, .str, .str, .str, .str, .bool, (.int .i64)]) (by kernel_rfl) Try.func27 (by kernel_rfl) (by kernel_rfl) (fun _ h => by cases h) (fun _ h => by cases h) (by kernel_rfl)


/- changeforge/textpatch.Apply -/
def textpatch_Apply_16_h : List (Nat × SS × Nat) := [(253, ⟨[.unk, .d (.v 1), .unk, .unk, .unk, .box 5 0, .unk, .unk, .grow 9 1 13, .d (.v 14)] ++ us 65, [(5, .cs ([.d (.k (.int .i64 0)), .d (.k (.int .i64 0))]))], [.t 60, .t 57]⟩, 2), (129636, ⟨[.unk, .d (.v 1), .unk, .unk, .unk, .box 5 0, .unk, .unk, .grow 9 1 22, .d (.v 23), .d (.v 24), .box 11 0] ++ us 13 ++ [.d (.v 2), .d (.v 12), .d (.v 24)] ++ us 20 ++ [.d (.v 25)] ++ us 26, [(5, .cs ([.d (.k (.int .i64 0)), .d (.k (.int .i64 0))])), (11, .cs ([.d (.v 26), .d (.v 27), .d (.v 28)]))], [.t 60, .t 57]⟩, 7), (506, ⟨[.unk, .d (.v 1), .unk, .unk, .unk, .box 5 0, .unk, .unk, .grow 9 1 13, .d (.v 14)] ++ us 15 ++ [.d (.v 2), .d (.v 12), .d (.v 15)] ++ us 47, [(5, .cs ([.d (.k (.int .i64 0)), .d (.k (.int .i64 0))]))], [.t 60, .t 57]⟩, 3)]
theorem textpatch_Apply_16_ok : Fn.Ok Try.prog ⟨16, [(.p (.sl (.p (.int .i64) (.p (.sl .str) (.p (.sl .str) .e)))) .e), (.sl .str)], [(.sl .str), (.p (.int .i64) (.p (.int .i64) .e))], textpatch_Apply_16⟩ :=
  Fn.of (c := ⟨Try.prog, [(25, 1), (17, 1), (26, 1), (27, 1)], [], [], textpatch_Apply_16_h⟩) (fs := [⟨25, [(.p (.sl (.p (.int .i64) (.p (.sl .str) (.p (.sl .str) .e)))) .e)], [(.p (.int .i64) (.p (.int .i64) .e))], textpatch_Validate_25⟩, ⟨17, [(.sl .str)], [(.int .i64)], lines_Code_17⟩, ⟨26, [(.p (.int .i64) (.p (.sl .str) (.p (.sl .str) .e)))], [(.int .i64)], textpatch_End_26⟩, ⟨27, [(.sl .str), (.sl .str)], [.bool], slices_Equal___string_string__27⟩]) (gs := []) (an := [(.sl (.p (.int .i64) (.p (.sl .str) (.p (.sl .str) .e)))), (.p (.sl (.p (.int .i64) (.p (.sl .str) (.p (.sl .str) .e)))) .e), (.int .i64), (.int .i64), (.p (.int .i64) (.p (.int .i64) .e)), (.p (.int .i64) (.p (.int .i64) .e)), .bool, (.p (.int .i64) (.p (.int .i64) .e)), .bool, (.int .i64), (.p (.int .i64) (.p (.int .i64) .e)), (.int .i64), (.sl .str), (.int .i64), (.sl .str), (.sl .str), (.int .i64), .bool, (.p (.int .i64) (.p (.int .i64) .e)), (.p (.int .i64) (.p (.int .i64) .e)), (.sl .str), (.int .i64), (.int .i64), .bool, (.p (.int .i64) (.p (.sl .str) (.p (.sl .str) .e))), (.p (.int .i64) (.p (.sl .str) (.p (.sl .str) .e))), (.int .i64), (.sl .str), (.sl .str), (.sl .str), (.int .i64), (.int .i64), .bool, (.int .i64), (.sl .str), (.sl .str), (.int .i64), (.p (.int .i64) (.p (.int .i64) .e)), (.sl .str), (.sl .str), (.sl .str), (.p (.int .i64) (.p (.sl .str) (.p (.sl .str) .e))), (.int .i64), (.p (.int .i64) (.p (.sl .str) (.p (.sl .str) .e))), (.int .i64), .bool, (.p (.int .i64) (.p (.sl .str) (.p (.sl .str) .e))), (.sl .str), .bool]) (by kernel_rfl) Try.func16 (by kernel_rfl) (by kernel_rfl) (by simp only [List.forall_mem_cons, List.not_mem_nil, false_implies, implies_true, and_true]; exact ⟨textpatch_Validate_25_ok, lines_Code_17_ok, textpatch_End_26_ok, slices_Equal___string_string__27_ok⟩) (fun _ h => by cases h) (by kernel_rfl)


end Go.Proofs.Ytidnkaopndmigaa.F
end
section
set_option linter.unusedSimpArgs false
set_option linter.unusedVariables false
/- That they do: printed by a program of ours. -/
namespace Go.Proofs.Ytidnkaopndmigaa.F
open Go Go.Proofs.Ytidnkaopndmigaa.V
set_option maxRecDepth 100000
set_option linter.unusedVariables false

/- changeforge/changeforgelaw2.follows -/
def changeforgelaw2_follows_14_h : List (Nat × SS × Nat) := [(29, ⟨[.d (.v 0)] ++ us 4 ++ [.d (.v 2)] ++ us 28, [], []⟩, 1), (466, ⟨[.d (.v 0), .d (.v 1), .unk, .unk, .unk, .d (.v 7), .d (.v 8)] ++ us 27, [], []⟩, 2), (1865, ⟨[.d (.v 0), .d (.v 1), .unk, .unk, .unk, .d (.v 12), .d (.v 13)] ++ us 27, [], []⟩, 2), (464, ⟨[.d (.v 0), .d (.v 1), .unk, .unk, .unk, .d (.v 4), .d (.v 5)] ++ us 9 ++ [.d (.v 6)] ++ us 17, [], []⟩, 3), (58, ⟨[.d (.v 0), .d (.v 1), .unk, .unk, .unk, .d (.v 2), .d (.v 3)] ++ us 27, [], []⟩, 2)]
theorem changeforgelaw2_follows_14_ok : Fn.Ok Try.prog ⟨14, [(.sl .str), (.sl .str)], [.bool], changeforgelaw2_follows_14⟩ :=
  Fn.of (c := ⟨Try.prog, [], [], [], changeforgelaw2_follows_14_h⟩) (fs := []) (gs := []) (an := [(.int .i64), (.int .i64), .bool, (.int .i64), (.int .i64), (.int .i64), (.int .i64), .bool, (.int .i64), (.int .i64), (.int .i64), .str, .str, .str, .str, .bool, (.int .i64), (.int .i64), (.int .i64), (.int .i64), .bool, (.int .i64), .bool]) (by kernel_rfl) Try.func14 (by kernel_rfl) (by kernel_rfl) (fun _ h => by cases h) (fun _ h => by cases h) (by kernel_rfl)


/- changeforge/changeforgelaw2.BlameEdited -/
def changeforgelaw2_BlameEdited_7_h : List (Nat × SS × Nat) := [(509, ⟨us 100, [], []⟩, 0), (1018, ⟨[.d (.v 0)] ++ us 4 ++ [.d (.v 4), .unk, .unk, .unk, .d (.v 10), .unk, .d (.v 15)] ++ us 88, [], []⟩, 1), (252, ⟨[.d (.v 0)] ++ us 4 ++ [.d (.v 4), .unk, .unk, .unk, .d (.v 10)] ++ us 69 ++ [.d (.v 14)] ++ us 20, [], []⟩, 1), (61, ⟨[.d (.v 0)] ++ us 4 ++ [.d (.v 4)] ++ us 94, [], []⟩, 0), (978, ⟨[.d (.v 0), .unk, .unk, .box 3 0, .unk, .d (.v 4), .unk, .d (.v 12)] ++ us 92, [(3, .cs ([.d (.v 2)]))], []⟩, 1), (3913, ⟨[.d (.v 0), .unk, .unk, .box 3 0, .unk, .d (.v 4), .unk, .d (.v 12)] ++ us 92, [(3, .cs ([.d (.v 2)]))], []⟩, 1), (250440, ⟨[.d (.v 0), .unk, .unk, .box 3 0, .unk, .d (.v 4), .unk, .d (.v 16), .d (.v 17)] ++ us 52 ++ [.d (.v 18)] ++ us 38, [(3, .cs ([.d (.v 2)]))], []⟩, 3), (7826, ⟨[.d (.v 0), .unk, .unk, .box 3 0, .unk, .d (.v 4), .unk, .d (.v 12), .d (.v 13)] ++ us 91, [(3, .cs ([.d (.v 2)]))], []⟩, 2), (122, ⟨[.d (.v 0), .unk, .unk, .box 3 0, .unk, .d (.v 4), .unk, .d (.v 9)] ++ us 92, [(3, .cs ([.d (.v 2)]))], []⟩, 1)]
theorem changeforgelaw2_BlameEdited_7_ok : Fn.Ok Try.prog ⟨7, [(.sl .str), (.p (.sl (.p (.int .i64) (.p (.sl .str) (.p (.sl .str) .e)))) .e)], [.bool], changeforgelaw2_BlameEdited_7⟩ :=
  Fn.of (c := ⟨Try.prog, [(16, 2), (10, 1), (8, 2), (14, 1)], [], [], changeforgelaw2_BlameEdited_7_h⟩) (fs := [⟨16, [(.p (.sl (.p (.int .i64) (.p (.sl .str) (.p (.sl .str) .e)))) .e), (.sl .str)], [(.sl .str), (.p (.int .i64) (.p (.int .i64) .e))], textpatch_Apply_16⟩, ⟨10, [], [.bool], changeforgelaw2_added_10⟩, ⟨8, [(.sl (.sl .str))], [(.sl (.int .i64)), (.p (.int .i64) (.p (.int .i64) .e))], blame_Annotate_8⟩, ⟨14, [(.sl .str), (.sl .str)], [.bool], changeforgelaw2_follows_14⟩]) (gs := []) (an := [(.sl (.p (.int .i64) (.p (.sl .str) (.p (.sl .str) .e)))), (.p (.sl (.p (.int .i64) (.p (.sl .str) (.p (.sl .str) .e)))) .e), (.int .i64), (.int .i64), .bool, (.sl (.sl .str)), (.int .i64), (.int .i64), .bool, (.int .i64), (.int .i64), .bool, (.int .i64), (.int .i64), .bool, (.int .i64), (.sl .str), .bool, (.int .i64), .bool, (.int .i64), (.int .i64), .bool, (.int .i64), (.int .i64), .bool, (.int .i64), (.int .i64), (.int .i64), (.int .i64), (.int .i64), (.int .i64), .bool, (.int .i64), (.int .i64), .bool, (.int .i64), (.int .i64), (.sl .str), (.p (.int .i64) (.p (.sl .str) (.p (.sl .str) .e))), (.sl .str), .bool, (.int .i64), (.sl .str), (.sl .str)]) (by kernel_rfl) Try.func7 (by kernel_rfl) (by kernel_rfl) (by simp only [List.forall_mem_cons, List.not_mem_nil, false_implies, implies_true, and_true]; exact ⟨textpatch_Apply_16_ok, changeforgelaw2_added_10_ok, blame_Annotate_8_ok, changeforgelaw2_follows_14_ok⟩) (fun _ h => by cases h) (by kernel_rfl)

end Go.Proofs.Ytidnkaopndmigaa.F
end
