/- Texts of ours, put together: GD. -/
import Derived.Test.YtoagphhldhpnmaaK3
import Derived.Test.YtoagphhldhpnmaaShelf
section
set_option linter.unusedSimpArgs false
set_option linter.unusedVariables false
/- What the functions compute, as plain Lean functions: printed by a program of ours. -/
namespace Go.Proofs.Ytoagphhldhpnmaa.F
open Go Go.Proofs.Ytoagphhldhpnmaa.V
set_option maxRecDepth 100000
set_option linter.unusedVariables false

def cmpL : List Int → List Int → Int
  | [], [] => 0
  | [], _ :: _ => -1
  | _ :: _, [] => 1
  | a :: l, b :: m => if a < b then -1 else if b < a then 1 else cmpL l m
def leV (x y : Int × List Int × Unit) : Bool := decide (cmpL x.2.1 y.2.1 ≤ 0)
noncomputable def sortF (l : List (Int × List Int × Unit)) : List (Int × List Int × Unit) := l.mergeSort leV
def sortOk (l : List (Int × List Int × Unit)) : Prop := l.length ≤ 1000000 ∧ (∀ u ∈ l, u.2.1.length = 6) ∧ l.Pairwise fun u v => u.2.1 ≠ v.2.1
open Classical in
noncomputable def api_VersionedValue__27_28 (a : List (Int × List Int × Unit) × Unit) : Option (List (Int × List Int × Unit) × Unit) := if sortOk a.1 then some (sortF a.1, ()) else none
/- slices.Max[[]int,int] -/
noncomputable def slices_Max___int_int__36 (a : (List (Int)) × Unit) : Option ((Int) × Unit) :=
  let x0 := a.1
  let x1 : Int := (List.length x0 : Int)
  let x2 : Bool := decide ((x1 : Int) < 1)
  let j0 : Unit → _ := fun s0 =>
    atC x0 0 fun y3 =>
     let x3 : Int := y3
     let x4 : Int := x3
     let j0 : (Int) × Unit → _ := fun s0 =>
       let x5 := s0.1
       some (x5, ())
     loopC (fun (s1 : (Int) × (Int) × Unit) =>
       let x5 := s1.1
       let x6 := s1.2.1
       let x7 : Int := (List.length x0 : Int)
       let x8 : Bool := decide ((x6 : Int) < x7)
       if x8 = true then
        atC x0 x6 fun y9 =>
         let x9 : Int := y9
         let x10 : Int := x9
         let x11 : Int := (if (x10 : Int) > x5 then x10 else x5)
         let x12 : Int := IntKind.wrap .i64 (x6 + 1)
         some (.inl (x11, x12, ()))
       else
        Option.map .inr (j0 (x5, ())))
       (x4, 1, ())
  if x2 = true then
   none
  else
   j0 (())

/- cmp.isNaN[int] -/
noncomputable def cmp_isNaN_int__47 (a : (Int) × Unit) : Option ((Bool) × Unit) :=
  let x0 := a.1
  let x1 : Bool := ((x0 : Int) != x0)
  some (x1, ())

/- cmp.Compare[int] -/
noncomputable def cmp_Compare_int__35 (a : (Int) × (Int) × Unit) : Option ((Int) × Unit) :=
  let x0 := a.1
  let x1 := a.2.1
  Option.bind (cmp_isNaN_int__47 (x0, ())) fun r2 =>
   let x2 := r2.1
   Option.bind (cmp_isNaN_int__47 (x1, ())) fun r3 =>
    let x3 := r3.1
    if x2 = true then
     if x3 = true then
      some (0, ())
     else
      some ((-1), ())
    else
     if x3 = true then
      some (1, ())
     else
      let x4 : Bool := decide ((x0 : Int) < x1)
      if x4 = true then
       some ((-1), ())
      else
       let x5 : Bool := decide ((x0 : Int) > x1)
       if x5 = true then
        some (1, ())
       else
        some (0, ())

/- slices.Compare[[]int,int] -/
noncomputable def slices_Compare___int_int__29 (a : (List (Int)) × (List (Int)) × Unit) : Option ((Int) × Unit) :=
  let x0 := a.1
  let x1 := a.2.1
  let x2 : Int := (List.length x0 : Int)
  let j0 : Unit → _ := fun s0 =>
    let x3 : Int := (List.length x0 : Int)
    let x4 : Int := (List.length x1 : Int)
    let x5 : Bool := decide ((x3 : Int) < x4)
    if x5 = true then
     some ((-1), ())
    else
     some (0, ())
  loopC (fun (s1 : (Int) × Unit) =>
    let x3 := s1.1
    let x4 : Bool := decide ((x3 : Int) < x2)
    if x4 = true then
     atC x0 x3 fun y5 =>
      let x5 : Int := y5
      let x6 : Int := x5
      let x7 : Int := (List.length x1 : Int)
      let x8 : Bool := decide ((x3 : Int) ≥ x7)
      if x8 = true then
       some (.inr (1, ()))
      else
       atC x1 x3 fun y9 =>
        let x9 : Int := y9
        let x10 : Int := x9
        Option.bind (cmp_Compare_int__35 (x6, x10, ())) fun r11 =>
         let x11 := r11.1
         let x12 : Bool := ((x11 : Int) != 0)
         if x12 = true then
          some (.inr (x11, ()))
         else
          let x13 : Int := IntKind.wrap .i64 (x3 + 1)
          some (.inl (x13, ()))
    else
     Option.map .inr (j0 (())))
    (0, ())

/- changeforge/multivalue.covers -/
noncomputable def multivalue_covers_21 (a : (List (Int)) × (List (Int)) × Unit) : Option ((Bool) × Unit) :=
  let x0 := a.1
  let x1 := a.2.1
  let x2 : Int := (List.length x0 : Int)
  let j0 : Unit → _ := fun s0 =>
    some (true, ())
  loopC (fun (s1 : (Int) × Unit) =>
    let x3 := s1.1
    let x4 : Bool := decide ((x3 : Int) < x2)
    if x4 = true then
     atC x0 x3 fun y5 =>
      let x5 : Int := y5
      let x6 : Int := x5
      atC x1 x3 fun y7 =>
       let x7 : Int := y7
       let x8 : Int := x7
       let x9 : Bool := decide ((x6 : Int) < x8)
       if x9 = true then
        some (.inr (false, ()))
       else
        let x10 : Int := IntKind.wrap .i64 (x3 + 1)
        some (.inl (x10, ()))
    else
     Option.map .inr (j0 (())))
    (0, ())

/- changeforge/multivalue.code -/
noncomputable def multivalue_code_31 (a : (List ((Int) × (List (Int)) × Unit)) × (Int) × Unit) : Option ((Int) × Unit) :=
  let x0 := a.1
  let x1 := a.2.1
  atC x0 x1 fun y2 =>
   let x2 : (Int) × (List (Int)) × Unit := y2
   let x3 : (Int) × (List (Int)) × Unit := (x2.1, x2.2.1, ())
   let x4 : Int := x3.1
   let x5 : List (Int) := x3.2.1
   let j0 : (Bool) × Unit → _ := fun s0 =>
     let x6 := s0.1
     if x6 = true then
      some (3, ())
     else
      let x7 : Int := (List.length x5 : Int)
      let x8 : Bool := ((x7 : Int) != 6)
      if x8 = true then
       some (9, ())
      else
       let x9 : Int := (List.length x5 : Int)
       let j0 : Unit → _ := fun s0 =>
         let j0 : (Bool) × Unit → _ := fun s0 =>
           let x10 := s0.1
           if x10 = true then
            some (5, ())
           else
            if 0 ≤ (0 : Int) ∧ (0 : Int) ≤ x1 ∧ x1 ≤ (List.length x0 : Int) then
             let x11 : List ((Int) × (List (Int)) × Unit) := List.drop (Int.toNat (0 : Int)) (List.take (Int.toNat x1) x0)
             let x12 : Int := (List.length x11 : Int)
             let j0 : Unit → _ := fun s0 =>
               some (0, ())
             loopC (fun (s1 : (Int) × Unit) =>
               let x13 := s1.1
               let x14 : Bool := decide ((x13 : Int) < x12)
               if x14 = true then
                atC x11 x13 fun y15 =>
                 let x15 : (Int) × (List (Int)) × Unit := y15
                 let x16 : (Int) × (List (Int)) × Unit := (x15.1, x15.2.1, ())
                 let x17 : Int := x16.1
                 let x18 : List (Int) := x16.2.1
                 let j2 : (Int) × (Bool) × Unit → _ := fun s2 =>
                   let x19 := s2.1
                   let x20 := s2.2.1
                   if x20 = true then
                    some (.inr (19, ()))
                   else
                    let x21 : Int := IntKind.wrap .i64 (x19 + 1)
                    some (.inl (x21, ()))
                 Option.bind (multivalue_covers_21 (x18, x5, ())) fun r19 =>
                  let x19 := r19.1
                  if x19 = true then
                   j2 (x13, true, ())
                  else
                   Option.bind (multivalue_covers_21 (x5, x18, ())) fun r20 =>
                    let x20 := r20.1
                    j2 (x13, x20, ())
               else
                Option.map .inr (j0 (())))
               (0, ())
            else none
         Option.bind (slices_Max___int_int__36 (x5, ())) fun r10 =>
          let x10 := r10.1
          let x11 : Bool := ((x10 : Int) == 0)
          if x11 = true then
           j0 (true, ())
          else
           let x12 : Bool := decide ((x1 : Int) > 0)
           if x12 = true then
            let x13 : Int := IntKind.wrap .i64 (x1 - 1)
            atC x0 x13 fun y14 =>
             let x14 : (Int) × (List (Int)) × Unit := y14
             let x15 : List (Int) := x14.2.1
             Option.bind (slices_Compare___int_int__29 (x15, x5, ())) fun r16 =>
              let x16 := r16.1
              let x17 : Bool := decide ((x16 : Int) ≥ 0)
              j0 (x17, ())
           else
            j0 (false, ())
       loopC (fun (s1 : (Int) × Unit) =>
         let x10 := s1.1
         let x11 : Bool := decide ((x10 : Int) < x9)
         if x11 = true then
          atC x5 x10 fun y12 =>
           let x12 : Int := y12
           let x13 : Int := x12
           let j2 : (Int) × (Bool) × Unit → _ := fun s2 =>
             let x14 := s2.1
             let x15 := s2.2.1
             if x15 = true then
              some (.inr (3, ()))
             else
              let x16 : Int := IntKind.wrap .i64 (x14 + 1)
              some (.inl (x16, ()))
           let x14 : Bool := decide ((x13 : Int) < 0)
           if x14 = true then
            j2 (x10, true, ())
           else
            let x15 : Bool := decide ((x13 : Int) > 1000000000)
            j2 (x10, x15, ())
         else
          Option.map .inr (j0 (())))
         (0, ())
   let x6 : Bool := decide ((x4 : Int) < 0)
   if x6 = true then
    j0 (true, ())
   else
    let x7 : Bool := decide ((x4 : Int) > 1000000000)
    j0 (x7, ())

/- changeforge/multivalue.Validate -/
noncomputable def multivalue_Validate_13 (a : (List ((Int) × (List (Int)) × Unit)) × Unit) : Option (((Int) × (Int) × Unit) × Unit) :=
  let x0 := a.1
  let x1 : Int := (List.length x0 : Int)
  let x2 : Bool := decide ((x1 : Int) > 16)
  if x2 = true then
   let x3 : (Int) × (Int) × Unit := (2, (-1), ())
   some (x3, ())
  else
   let x3 : Int := (List.length x0 : Int)
   let j0 : Unit → _ := fun s0 =>
     let x4 : (Int) × (Int) × Unit := (0, 0, ())
     some (x4, ())
   loopC (fun (s1 : (Int) × Unit) =>
     let x4 := s1.1
     let x5 : Bool := decide ((x4 : Int) < x3)
     if x5 = true then
      Option.bind (multivalue_code_31 (x0, x4, ())) fun r6 =>
       let x6 := r6.1
       let x7 : Bool := ((x6 : Int) != 0)
       if x7 = true then
        let x8 : Int := x6
        let x9 : Int := x4
        let x10 : (Int) × (Int) × Unit := (x8, x9, ())
        some (.inr (x10, ()))
       else
        let x8 : Int := IntKind.wrap .i64 (x4 + 1)
        some (.inl (x8, ()))
     else
      Option.map .inr (j0 (())))
     (0, ())

/- changeforge/multivalue.Write -/
noncomputable def multivalue_Write_9 (a : (List ((Int) × (List (Int)) × Unit)) × (Int) × (Int) × Unit) : Option ((List ((Int) × (List (Int)) × Unit)) × ((Int) × (Int) × Unit) × Unit) :=
  let x0 := a.1
  let x1 := a.2.1
  let x2 := a.2.2.1
  Option.bind (multivalue_Validate_13 (x0, ())) fun r3 =>
   let x3 := r3.1
   let x4 : Int := x3.1
   let x5 : Int := x3.2.1
   let x6 : (Int) × (Int) × Unit := (x4, x5, ())
   let x7 : (Int) × (Int) × Unit := (0, 0, ())
   let x8 : Bool := (!((x6.1 : Int) == x7.1 && ((x6.2.1 : Int) == x7.2.1 && true)))
   if x8 = true then
    let x9 : (Int) × (Int) × Unit := (x4, x5, ())
    some (([] : List ((Int) × (List (Int)) × Unit)), x9, ())
   else
    let j0 : (Bool) × Unit → _ := fun s0 =>
      let x9 := s0.1
      if x9 = true then
       let x10 : (Int) × (Int) × Unit := (3, (-2), ())
       some (([] : List ((Int) × (List (Int)) × Unit)), x10, ())
      else
       let j0 : (Bool) × Unit → _ := fun s0 =>
         let x10 := s0.1
         if x10 = true then
          let x11 : (Int) × (Int) × Unit := (3, (-3), ())
          some (([] : List ((Int) × (List (Int)) × Unit)), x11, ())
         else
          if 0 ≤ (6 : Int) ∧ (8 : Int) * 6 ≤ 281474976710656 ∧ (6 : Int) ≤ 9223372036854775807 then
           let x11 : List (Int) := List.replicate (Int.toNat 6) (0 : Int)
           let x12 : Int := (List.length x0 : Int)
           let j0 : (List (Int)) × Unit → _ := fun s0 =>
             let x13 := s0.1
             if 0 ≤ (x1 : Int) ∧ x1 < ((List.length x13) : Int) then
              let x14 : Int := (x1 : Int)
              atC x13 x14 fun y15 =>
               let x15 : Int := y15
               let x16 : Bool := ((x15 : Int) == 1000000000)
               if x16 = true then
                let x17 : (Int) × (Int) × Unit := (10, (-1), ())
                some (([] : List ((Int) × (List (Int)) × Unit)), x17, ())
               else
                if 0 ≤ (x1 : Int) ∧ x1 < ((List.length x13) : Int) then
                 let x17 : Int := (x1 : Int)
                 atC x13 x17 fun y18 =>
                  let x18 : Int := y18
                  let x19 : Int := IntKind.wrap .i64 (x18 + 1)
                  if 0 ≤ (x1 : Int) ∧ x1 < ((List.length x13) : Int) then
                   let x20 : Int := (x1 : Int)
                   atC x13 x20 fun y21 =>
                    let x21 : List (Int) := List.set x13 (Int.toNat x20) x19
                    let x22 : Int := x2
                    let x23 : List (Int) := x21
                    let x24 : (Int) × (List (Int)) × Unit := (x22, x23, ())
                    let x25 : List ((Int) × (List (Int)) × Unit) := [x24]
                    let x26 : (Int) × (Int) × Unit := (0, 0, ())
                    some (x25, x26, ())
                  else none
                else none
             else none
           loopC (fun (s1 : (List (Int)) × (Int) × Unit) =>
             let x13 := s1.1
             let x14 := s1.2.1
             let x15 : Bool := decide ((x14 : Int) < x12)
             if x15 = true then
              let j2 : (List (Int)) × (Int) × Unit → _ := fun s2 =>
                let x16 := s2.1
                let x17 := s2.2.1
                let x18 : Int := IntKind.wrap .i64 (x17 + 1)
                some (.inl (x16, x18, ()))
              atC x0 x14 fun y16 =>
               let x16 : (Int) × (List (Int)) × Unit := y16
               let x17 : (Int) × (List (Int)) × Unit := (x16.1, x16.2.1, ())
               let x18 : Int := x17.1
               let x19 : List (Int) := x17.2.1
               let x20 : Int := (List.length x19 : Int)
               let j3 : (List (Int)) × (Int) × Unit → _ := fun s3 =>
                 let x21 := s3.1
                 let x22 := s3.2.1
                 j2 (x21, x22, ())
               loopC (fun (s4 : (List (Int)) × (Int) × (List (Int)) × (Int) × (Int) × Unit) =>
                 let x21 := s4.1
                 let x22 := s4.2.1
                 let x23 := s4.2.2.1
                 let x24 := s4.2.2.2.1
                 let x25 := s4.2.2.2.2.1
                 let x26 : Bool := decide ((x25 : Int) < x24)
                 if x26 = true then
                  atC x23 x25 fun y27 =>
                   let x27 : Int := y27
                   let x28 : Int := x27
                   if 0 ≤ (x25 : Int) ∧ x25 < ((List.length x21) : Int) then
                    let x29 : Int := (x25 : Int)
                    atC x21 x29 fun y30 =>
                     let x30 : Int := y30
                     let x31 : Int := (if (x28 : Int) > x30 then x28 else x30)
                     if 0 ≤ (x25 : Int) ∧ x25 < ((List.length x21) : Int) then
                      let x32 : Int := (x25 : Int)
                      atC x21 x32 fun y33 =>
                       let x33 : List (Int) := List.set x21 (Int.toNat x32) x31
                       let x34 : Int := IntKind.wrap .i64 (x25 + 1)
                       some (.inl (x33, x22, x23, x24, x34, ()))
                     else none
                   else none
                 else
                  Option.map .inr (j3 (x21, x22, ())))
                 (x13, x14, x19, x20, 0, ())
             else
              Option.map .inr (j0 (x13, ())))
             (x11, 0, ())
          else none
       let x10 : Bool := decide ((x2 : Int) < 0)
       if x10 = true then
        j0 (true, ())
       else
        let x11 : Bool := decide ((x2 : Int) > 1000000000)
        j0 (x11, ())
    let x9 : Bool := decide ((x1 : Int) < 0)
    if x9 = true then
     j0 (true, ())
    else
     let x10 : Bool := decide ((x1 : Int) ≥ 6)
     j0 (x10, ())

/- changeforge/changeforgeref1.At -/
noncomputable def changeforgeref1_At_18 (a : (Int) × (Int) × Unit) : Option (((Int) × (Int) × Unit) × Unit) :=
  let x0 := a.1
  let x1 := a.2.1
  let x2 : Int := x0
  let x3 : Int := x1
  let x4 : (Int) × (Int) × Unit := (x2, x3, ())
  some (x4, ())

/- changeforge/changeforgeref2.less -/
noncomputable def changeforgeref2_less_30 (a : (List (Int)) × (List (Int)) × Unit) : Option ((Bool) × Unit) :=
  let x0 := a.1
  let x1 := a.2.1
  let j0 : Unit → _ := fun s0 =>
    some (false, ())
  loopC (fun (s1 : (Int) × Unit) =>
    let x2 := s1.1
    let x3 : Int := (List.length x0 : Int)
    let x4 : Bool := decide ((x2 : Int) < x3)
    if x4 = true then
     atC x0 x2 fun y5 =>
      let x5 : Int := y5
      let x6 : Int := x5
      atC x1 x2 fun y7 =>
       let x7 : Int := y7
       let x8 : Int := x7
       let x9 : Bool := ((x6 : Int) != x8)
       if x9 = true then
        atC x0 x2 fun y10 =>
         let x10 : Int := y10
         let x11 : Int := x10
         atC x1 x2 fun y12 =>
          let x12 : Int := y12
          let x13 : Int := x12
          let x14 : Bool := decide ((x11 : Int) < x13)
          some (.inr (x14, ()))
       else
        let x10 : Int := IntKind.wrap .i64 (x2 + 1)
        some (.inl (x10, ()))
    else
     Option.map .inr (j0 (())))
    (0, ())

/- changeforge/changeforgeref2.Relation -/
noncomputable def changeforgeref2_Relation_17 (a : (List (Int)) × (List (Int)) × Unit) : Option ((Bool) × (Bool) × Unit) :=
  let x0 := a.1
  let x1 := a.2.1
  let j0 : (Bool) × (Bool) × Unit → _ := fun s0 =>
    let x2 := s0.1
    let x3 := s0.2.1
    some (x2, x3, ())
  loopC (fun (s1 : (Bool) × (Bool) × (Int) × Unit) =>
    let x2 := s1.1
    let x3 := s1.2.1
    let x4 := s1.2.2.1
    let x5 : Int := (List.length x0 : Int)
    let x6 : Bool := decide ((x4 : Int) < x5)
    if x6 = true then
     let j2 : (Bool) × (Bool) × (Int) × Unit → _ := fun s2 =>
       let x7 := s2.1
       let x8 := s2.2.1
       let x9 := s2.2.2.1
       let j2 : (Bool) × (Bool) × (Int) × Unit → _ := fun s2 =>
         let x10 := s2.1
         let x11 := s2.2.1
         let x12 := s2.2.2.1
         let x13 : Int := IntKind.wrap .i64 (x12 + 1)
         some (.inl (x10, x11, x13, ()))
       if x8 = true then
        atC x0 x9 fun y10 =>
         let x10 : Int := y10
         let x11 : Int := x10
         atC x1 x9 fun y12 =>
          let x12 : Int := y12
          let x13 : Int := x12
          let x14 : Bool := decide ((x11 : Int) ≤ x13)
          j2 (x7, x14, x9, ())
       else
        j2 (x7, false, x9, ())
     if x2 = true then
      atC x0 x4 fun y7 =>
       let x7 : Int := y7
       let x8 : Int := x7
       atC x1 x4 fun y9 =>
        let x9 : Int := y9
        let x10 : Int := x9
        let x11 : Bool := decide ((x8 : Int) ≥ x10)
        j2 (x11, x3, x4, ())
     else
      j2 (false, x3, x4, ())
    else
     Option.map .inr (j0 (x2, x3, ())))
    (true, true, 0, ())

/- changeforge/changeforgeref2.ValuesFault -/
noncomputable def changeforgeref2_ValuesFault_14 (a : (List ((Int) × (List (Int)) × Unit)) × Unit) : Option (((Int) × (Int) × Unit) × Unit) :=
  let x0 := a.1
  let x1 : Int := (List.length x0 : Int)
  let x2 : Bool := decide ((x1 : Int) > 16)
  if x2 = true then
   Option.bind (changeforgeref1_At_18 (2, (-1), ())) fun r3 =>
    let x3 := r3.1
    let x4 : Int := x3.1
    let x5 : Int := x3.2.1
    let x6 : (Int) × (Int) × Unit := (x4, x5, ())
    some (x6, ())
  else
   let j0 : Unit → _ := fun s0 =>
     let x3 : (Int) × (Int) × Unit := (0, 0, ())
     some (x3, ())
   loopC (fun (s1 : (Int) × Unit) =>
     let x3 := s1.1
     let x4 : Int := (List.length x0 : Int)
     let x5 : Bool := decide ((x3 : Int) < x4)
     if x5 = true then
      let j2 : (Int) × Unit → _ := fun s2 =>
        let x6 := s2.1
        let x7 : Int := IntKind.wrap .i64 (x6 + 1)
        some (.inl (x7, ()))
      atC x0 x3 fun y6 =>
       let x6 : (Int) × (List (Int)) × Unit := y6
       let x7 : (Int) × (List (Int)) × Unit := (x6.1, x6.2.1, ())
       let x8 : Int := x7.1
       let x9 : List (Int) := x7.2.1
       let j3 : (Int) × (Bool) × (Int) × (List (Int)) × Unit → _ := fun s3 =>
         let x10 := s3.1
         let x11 := s3.2.1
         let x12 := s3.2.2.1
         let x13 := s3.2.2.2.1
         if x11 = true then
          Option.bind (changeforgeref1_At_18 (3, x10, ())) fun r14 =>
           let x14 := r14.1
           let x15 : Int := x14.1
           let x16 : Int := x14.2.1
           let x17 : (Int) × (Int) × Unit := (x15, x16, ())
           some (.inr (x17, ()))
         else
          let x14 : Int := (List.length x13 : Int)
          let x15 : Bool := ((x14 : Int) != 6)
          if x15 = true then
           Option.bind (changeforgeref1_At_18 (9, x10, ())) fun r16 =>
            let x16 := r16.1
            let x17 : Int := x16.1
            let x18 : Int := x16.2.1
            let x19 : (Int) × (Int) × Unit := (x17, x18, ())
            some (.inr (x19, ()))
          else
           let j3 : (Int) × (Bool) × (Int) × (List (Int)) × Unit → _ := fun s3 =>
             let x16 := s3.1
             let x17 := s3.2.1
             let x18 := s3.2.2.1
             let x19 := s3.2.2.2.1
             let j3 : (Int) × (Bool) × (Int) × (List (Int)) × Unit → _ := fun s3 =>
               let x20 := s3.1
               let x21 := s3.2.1
               let x22 := s3.2.2.1
               let x23 := s3.2.2.2.1
               if x21 = true then
                Option.bind (changeforgeref1_At_18 (5, x20, ())) fun r24 =>
                 let x24 := r24.1
                 let x25 : Int := x24.1
                 let x26 : Int := x24.2.1
                 let x27 : (Int) × (Int) × Unit := (x25, x26, ())
                 some (.inr (x27, ()))
               else
                let j3 : (Int) × Unit → _ := fun s3 =>
                  let x24 := s3.1
                  j2 (x24, ())
                loopC (fun (s4 : (Int) × (Int) × (Int) × (List (Int)) × Unit) =>
                  let x24 := s4.1
                  let x25 := s4.2.1
                  let x26 := s4.2.2.1
                  let x27 := s4.2.2.2.1
                  let x28 : Bool := decide ((x25 : Int) < x24)
                  if x28 = true then
                   atC x0 x25 fun y29 =>
                    let x29 : (Int) × (List (Int)) × Unit := y29
                    let x30 : List (Int) := x29.2.1
                    Option.bind (changeforgeref2_Relation_17 (x27, x30, ())) fun r31 =>
                     let x31 := r31.1
                     let x32 := r31.2.1
                     let j5 : (Int) × (Int) × (Bool) × (Int) × (List (Int)) × Unit → _ := fun s5 =>
                       let x33 := s5.1
                       let x34 := s5.2.1
                       let x35 := s5.2.2.1
                       let x36 := s5.2.2.2.1
                       let x37 := s5.2.2.2.2.1
                       if x35 = true then
                        Option.bind (changeforgeref1_At_18 (19, x33, ())) fun r38 =>
                         let x38 := r38.1
                         let x39 : Int := x38.1
                         let x40 : Int := x38.2.1
                         let x41 : (Int) × (Int) × Unit := (x39, x40, ())
                         some (.inr (.inr (x41, ())))
                       else
                        let x38 : Int := IntKind.wrap .i64 (x34 + 1)
                        some (.inl (x33, x38, x36, x37, ()))
                     if x31 = true then
                      j5 (x24, x25, true, x26, x27, ())
                     else
                      j5 (x24, x25, x32, x26, x27, ())
                  else
                   Option.map .inr (j3 (x24, ())))
                  (x20, 0, x22, x23, ())
             if x17 = true then
              j3 (x16, true, x18, x19, ())
             else
              let x20 : Bool := decide ((x16 : Int) > 0)
              if x20 = true then
               let x21 : Int := IntKind.wrap .i64 (x16 - 1)
               atC x0 x21 fun y22 =>
                let x22 : (Int) × (List (Int)) × Unit := y22
                let x23 : List (Int) := x22.2.1
                Option.bind (changeforgeref2_less_30 (x23, x19, ())) fun r24 =>
                 let x24 := r24.1
                 let x25 : Bool := (!x24)
                 j3 (x16, x25, x18, x19, ())
              else
               j3 (x16, false, x18, x19, ())
           loopC (fun (s4 : (Int) × (Bool) × (Int) × (Int) × (List (Int)) × Unit) =>
             let x16 := s4.1
             let x17 := s4.2.1
             let x18 := s4.2.2.1
             let x19 := s4.2.2.2.1
             let x20 := s4.2.2.2.2.1
             let x21 : Int := (List.length x20 : Int)
             let x22 : Bool := decide ((x18 : Int) < x21)
             if x22 = true then
              let j5 : (Int) × (Bool) × (Int) × (Bool) × (Int) × (List (Int)) × Unit → _ := fun s5 =>
                let x23 := s5.1
                let x24 := s5.2.1
                let x25 := s5.2.2.1
                let x26 := s5.2.2.2.1
                let x27 := s5.2.2.2.2.1
                let x28 := s5.2.2.2.2.2.1
                if x26 = true then
                 Option.bind (changeforgeref1_At_18 (3, x23, ())) fun r29 =>
                  let x29 := r29.1
                  let x30 : Int := x29.1
                  let x31 : Int := x29.2.1
                  let x32 : (Int) × (Int) × Unit := (x30, x31, ())
                  some (.inr (.inr (x32, ())))
                else
                 let j5 : (Int) × (Bool) × (Int) × (Int) × (List (Int)) × Unit → _ := fun s5 =>
                   let x29 := s5.1
                   let x30 := s5.2.1
                   let x31 := s5.2.2.1
                   let x32 := s5.2.2.2.1
                   let x33 := s5.2.2.2.2.1
                   let x34 : Int := IntKind.wrap .i64 (x31 + 1)
                   some (.inl (x29, x30, x34, x32, x33, ()))
                 if x24 = true then
                  atC x28 x25 fun y29 =>
                   let x29 : Int := y29
                   let x30 : Int := x29
                   let x31 : Bool := ((x30 : Int) == 0)
                   j5 (x23, x31, x25, x27, x28, ())
                 else
                  j5 (x23, false, x25, x27, x28, ())
              atC x20 x18 fun y23 =>
               let x23 : Int := y23
               let x24 : Int := x23
               let x25 : Bool := decide ((x24 : Int) < 0)
               if x25 = true then
                j5 (x16, x17, x18, true, x19, x20, ())
               else
                atC x20 x18 fun y26 =>
                 let x26 : Int := y26
                 let x27 : Int := x26
                 let x28 : Bool := decide ((x27 : Int) > 1000000000)
                 j5 (x16, x17, x18, x28, x19, x20, ())
             else
              Option.map .inr (j3 (x16, x17, x19, x20, ())))
             (x10, true, 0, x12, x13, ())
       let x10 : Bool := decide ((x8 : Int) < 0)
       if x10 = true then
        j3 (x3, true, x8, x9, ())
       else
        let x11 : Bool := decide ((x8 : Int) > 1000000000)
        j3 (x3, x11, x8, x9, ())
     else
      Option.map .inr (j0 (())))
     (0, ())

/- changeforge/changeforgeref2.Written -/
noncomputable def changeforgeref2_Written_10 (a : (List ((Int) × (List (Int)) × Unit)) × (Int) × (Int) × Unit) : Option ((List ((Int) × (List (Int)) × Unit)) × ((Int) × (Int) × Unit) × Unit) :=
  let x0 := a.1
  let x1 := a.2.1
  let x2 := a.2.2.1
  Option.bind (changeforgeref2_ValuesFault_14 (x0, ())) fun r3 =>
   let x3 := r3.1
   let x4 : Int := x3.1
   let x5 : Int := x3.2.1
   let x6 : Bool := ((x4 : Int) != 0)
   if x6 = true then
    let x7 : (Int) × (Int) × Unit := (x4, x5, ())
    some (([] : List ((Int) × (List (Int)) × Unit)), x7, ())
   else
    let j0 : (Bool) × Unit → _ := fun s0 =>
      let x7 := s0.1
      if x7 = true then
       Option.bind (changeforgeref1_At_18 (3, (-2), ())) fun r8 =>
        let x8 := r8.1
        let x9 : Int := x8.1
        let x10 : Int := x8.2.1
        let x11 : (Int) × (Int) × Unit := (x9, x10, ())
        some (([] : List ((Int) × (List (Int)) × Unit)), x11, ())
      else
       let j0 : (Bool) × Unit → _ := fun s0 =>
         let x8 := s0.1
         if x8 = true then
          Option.bind (changeforgeref1_At_18 (3, (-3), ())) fun r9 =>
           let x9 := r9.1
           let x10 : Int := x9.1
           let x11 : Int := x9.2.1
           let x12 : (Int) × (Int) × Unit := (x10, x11, ())
           some (([] : List ((Int) × (List (Int)) × Unit)), x12, ())
         else
          let j0 : (List (Int)) × Unit → _ := fun s0 =>
            let x9 := s0.1
            atC x9 x1 fun y10 =>
             let x10 : Int := y10
             let x11 : Int := x10
             let x12 : Bool := decide ((x11 : Int) > 1000000000)
             if x12 = true then
              Option.bind (changeforgeref1_At_18 (10, (-1), ())) fun r13 =>
               let x13 := r13.1
               let x14 : Int := x13.1
               let x15 : Int := x13.2.1
               let x16 : (Int) × (Int) × Unit := (x14, x15, ())
               some (([] : List ((Int) × (List (Int)) × Unit)), x16, ())
             else
              let x13 : Int := x2
              let x14 : List (Int) := x9
              let x15 : (Int) × (List (Int)) × Unit := (x13, x14, ())
              let x16 : List ((Int) × (List (Int)) × Unit) := [x15]
              let x17 : (Int) × (Int) × Unit := (0, 0, ())
              some (x16, x17, ())
          loopC (fun (s1 : (List (Int)) × (Int) × Unit) =>
            let x9 := s1.1
            let x10 := s1.2.1
            let x11 : Bool := decide ((x10 : Int) < 6)
            if x11 = true then
             let j2 : (List (Int)) × (Int) × (Int) × Unit → _ := fun s2 =>
               let x12 := s2.1
               let x13 := s2.2.1
               let x14 := s2.2.2.1
               let x15 : Bool := ((x13 : Int) == x1)
               let j2 : (List (Int)) × (Int) × (Int) × Unit → _ := fun s2 =>
                 let x16 := s2.1
                 let x17 := s2.2.1
                 let x18 := s2.2.2.1
                 let x19 : List (Int) := [x18]
                 if (List.length x16 + List.length x19) * 8 ≤ 140737488355328 ∧ List.length x16 + List.length x19 ≤ maxLen then
                  let x20 : List (Int) := x16 ++ x19
                  let x21 : Int := IntKind.wrap .i64 (x17 + 1)
                  some (.inl (x20, x21, ()))
                 else none
               if x15 = true then
                let x16 : Int := IntKind.wrap .i64 (x14 + 1)
                j2 (x12, x13, x16, ())
               else
                j2 (x12, x13, x14, ())
             loopC (fun (s3 : (List (Int)) × (Int) × (Int) × (Int) × Unit) =>
               let x12 := s3.1
               let x13 := s3.2.1
               let x14 := s3.2.2.1
               let x15 := s3.2.2.2.1
               let x16 : Int := (List.length x0 : Int)
               let x17 : Bool := decide ((x15 : Int) < x16)
               if x17 = true then
                let j4 : (List (Int)) × (Int) × (Int) × (Int) × Unit → _ := fun s4 =>
                  let x18 := s4.1
                  let x19 := s4.2.1
                  let x20 := s4.2.2.1
                  let x21 := s4.2.2.2.1
                  let x22 : Int := IntKind.wrap .i64 (x21 + 1)
                  some (.inl (x18, x19, x20, x22, ()))
                atC x0 x15 fun y18 =>
                 let x18 : (Int) × (List (Int)) × Unit := y18
                 let x19 : List (Int) := x18.2.1
                 atC x19 x13 fun y20 =>
                  let x20 : Int := y20
                  let x21 : Int := x20
                  let x22 : Bool := decide ((x21 : Int) > x14)
                  let j5 : (List (Int)) × (Int) × (Int) × (Int) × Unit → _ := fun s5 =>
                    let x23 := s5.1
                    let x24 := s5.2.1
                    let x25 := s5.2.2.1
                    let x26 := s5.2.2.2.1
                    j4 (x23, x24, x25, x26, ())
                  if x22 = true then
                   atC x0 x15 fun y23 =>
                    let x23 : (Int) × (List (Int)) × Unit := y23
                    let x24 : List (Int) := x23.2.1
                    atC x24 x13 fun y25 =>
                     let x25 : Int := y25
                     let x26 : Int := x25
                     j5 (x12, x13, x26, x15, ())
                  else
                   j5 (x12, x13, x14, x15, ())
               else
                Option.map .inr (j2 (x12, x13, x14, ())))
               (x9, x10, 0, 0, ())
            else
             Option.map .inr (j0 (x9, ())))
            (([] : List (Int)), 0, ())
       let x8 : Bool := decide ((x2 : Int) < 0)
       if x8 = true then
        j0 (true, ())
       else
        let x9 : Bool := decide ((x2 : Int) > 1000000000)
        j0 (x9, ())
    let x7 : Bool := decide ((x1 : Int) < 0)
    if x7 = true then
     j0 (true, ())
    else
     let x8 : Bool := decide ((x1 : Int) ≥ 6)
     j0 (x8, ())

/- slices.Equal[[]int,int] -/
noncomputable def slices_Equal___int_int__22 (a : (List (Int)) × (List (Int)) × Unit) : Option ((Bool) × Unit) :=
  let x0 := a.1
  let x1 := a.2.1
  let x2 : Int := (List.length x0 : Int)
  let x3 : Int := (List.length x1 : Int)
  let x4 : Bool := ((x2 : Int) != x3)
  if x4 = true then
   some (false, ())
  else
   let x5 : Int := (List.length x0 : Int)
   let j0 : Unit → _ := fun s0 =>
     some (true, ())
   loopC (fun (s1 : (Int) × Unit) =>
     let x6 := s1.1
     let x7 : Bool := decide ((x6 : Int) < x5)
     if x7 = true then
      atC x0 x6 fun y8 =>
       let x8 : Int := y8
       let x9 : Int := x8
       atC x1 x6 fun y10 =>
        let x10 : Int := y10
        let x11 : Int := x10
        let x12 : Bool := ((x9 : Int) != x11)
        if x12 = true then
         some (.inr (false, ()))
        else
         let x13 : Int := IntKind.wrap .i64 (x6 + 1)
         some (.inl (x13, ()))
     else
      Option.map .inr (j0 (())))
     (0, ())

/- changeforge/multivalue.Merge$1 -/
noncomputable def multivalue_Merge_1_20 (a : ((Int) × (List (Int)) × Unit) × (Int) × (List (Int)) × Unit) : Option ((Bool) × (Int) × (List (Int)) × Unit) :=
  let x0 := a.1
  let x1 := a.2.1
  let x2 := a.2.2.1
  let x3 : Int := x0.1
  let x4 : List (Int) := x0.2.1
  let j0 : (Bool) × Unit → _ := fun s0 =>
    let x5 := s0.1
    some (x5, x1, x2, ())
  Option.bind (multivalue_covers_21 (x4, x2, ())) fun r5 =>
   let x5 := r5.1
   if x5 = true then
    Option.bind (slices_Equal___int_int__22 (x4, x2, ())) fun r6 =>
     let x6 := r6.1
     let x7 : Bool := (!x6)
     j0 (x7, ())
   else
    j0 (false, ())

/- slices.IndexFunc[[]changeforge/api.VersionedValue,changeforge/api.VersionedValue] -/
noncomputable def api_VersionedValue__24_20 (a : (List ((Int) × (List (Int)) × Unit)) × (Int) × (List (Int)) × Unit) : Option ((Int) × (Int) × (List (Int)) × Unit) :=
  let x0 := a.1
  let x1 := a.2.1
  let x2 := a.2.2.1
  let x3 : Int := (List.length x0 : Int)
  let j0 : (Int) × (List (Int)) × Unit → _ := fun s0 =>
    let x4 := s0.1
    let x5 := s0.2.1
    some ((-1), x4, x5, ())
  loopC (fun (s1 : (Int) × (Int) × (List (Int)) × Unit) =>
    let x4 := s1.1
    let x5 := s1.2.1
    let x6 := s1.2.2.1
    let x7 : Bool := decide ((x4 : Int) < x3)
    if x7 = true then
     atC x0 x4 fun y8 =>
      let x8 : (Int) × (List (Int)) × Unit := y8
      let x9 : (Int) × (List (Int)) × Unit := (x8.1, x8.2.1, ())
      Option.bind (multivalue_Merge_1_20 (x9, x5, x6, ())) fun r10 =>
       let x10 := r10.1
       let x11 := r10.2.1
       let x12 := r10.2.2.1
       if x10 = true then
        some (.inr (x4, x11, x12, ()))
       else
        let x13 : Int := IntKind.wrap .i64 (x4 + 1)
        some (.inl (x13, x11, x12, ()))
    else
     Option.map .inr (j0 (x5, x6, ())))
    (0, x1, x2, ())

/- slices.ContainsFunc[[]changeforge/api.VersionedValue,changeforge/api.VersionedValue] -/
noncomputable def api_VersionedValue__19_20 (a : (List ((Int) × (List (Int)) × Unit)) × (Int) × (List (Int)) × Unit) : Option ((Bool) × (Int) × (List (Int)) × Unit) :=
  let x0 := a.1
  let x1 := a.2.1
  let x2 := a.2.2.1
  Option.bind (api_VersionedValue__24_20 (x0, x1, x2, ())) fun r3 =>
   let x3 := r3.1
   let x4 := r3.2.1
   let x5 := r3.2.2.1
   let x6 : Bool := decide ((x3 : Int) ≥ 0)
   some (x6, x4, x5, ())

/- slices.Clone[[]int,int] -/
noncomputable def slices_Clone___int_int__23 (a : (List (Int)) × Unit) : Option ((List (Int)) × Unit) :=
  let x0 := a.1
  nilC x0 fun x1 =>
   if x1 = true then
    some (([] : List (Int)), ())
   else
    let x2 : List (Int) := []
    if (List.length x2 + List.length x0) * 8 ≤ 140737488355328 ∧ List.length x2 + List.length x0 ≤ maxLen then
     let x3 : List (Int) := x2 ++ x0
     some (x3, ())
    else none

/- changeforge/multivalue.Merge$2 -/
noncomputable def multivalue_Merge_2_25 (a : ((Int) × (List (Int)) × Unit) × (Int) × (List (Int)) × Unit) : Option ((Bool) × (Int) × (List (Int)) × Unit) :=
  let x0 := a.1
  let x1 := a.2.1
  let x2 := a.2.2.1
  let x3 : Int := x0.1
  let x4 : List (Int) := x0.2.1
  Option.bind (slices_Equal___int_int__22 (x4, x2, ())) fun r5 =>
   let x5 := r5.1
   some (x5, x1, x2, ())

/- slices.IndexFunc[[]changeforge/api.VersionedValue,changeforge/api.VersionedValue] -/
noncomputable def api_VersionedValue__24_25 (a : (List ((Int) × (List (Int)) × Unit)) × (Int) × (List (Int)) × Unit) : Option ((Int) × (Int) × (List (Int)) × Unit) :=
  let x0 := a.1
  let x1 := a.2.1
  let x2 := a.2.2.1
  let x3 : Int := (List.length x0 : Int)
  let j0 : (Int) × (List (Int)) × Unit → _ := fun s0 =>
    let x4 := s0.1
    let x5 := s0.2.1
    some ((-1), x4, x5, ())
  loopC (fun (s1 : (Int) × (Int) × (List (Int)) × Unit) =>
    let x4 := s1.1
    let x5 := s1.2.1
    let x6 := s1.2.2.1
    let x7 : Bool := decide ((x4 : Int) < x3)
    if x7 = true then
     atC x0 x4 fun y8 =>
      let x8 : (Int) × (List (Int)) × Unit := y8
      let x9 : (Int) × (List (Int)) × Unit := (x8.1, x8.2.1, ())
      Option.bind (multivalue_Merge_2_25 (x9, x5, x6, ())) fun r10 =>
       let x10 := r10.1
       let x11 := r10.2.1
       let x12 := r10.2.2.1
       if x10 = true then
        some (.inr (x4, x11, x12, ()))
       else
        let x13 : Int := IntKind.wrap .i64 (x4 + 1)
        some (.inl (x13, x11, x12, ()))
    else
     Option.map .inr (j0 (x5, x6, ())))
    (0, x1, x2, ())

/- changeforge/multivalue.Merge$3 -/
noncomputable def multivalue_Merge_3_26 (a : ((Int) × (List (Int)) × Unit) × (Int) × (List (Int)) × Unit) : Option ((Bool) × (Int) × (List (Int)) × Unit) :=
  let x0 := a.1
  let x1 := a.2.1
  let x2 := a.2.2.1
  let x3 : Int := x0.1
  let x4 : List (Int) := x0.2.1
  Option.bind (multivalue_covers_21 (x4, x2, ())) fun r5 =>
   let x5 := r5.1
   some (x5, x1, x2, ())

/- slices.IndexFunc[[]changeforge/api.VersionedValue,changeforge/api.VersionedValue] -/
noncomputable def api_VersionedValue__24_26 (a : (List ((Int) × (List (Int)) × Unit)) × (Int) × (List (Int)) × Unit) : Option ((Int) × (Int) × (List (Int)) × Unit) :=
  let x0 := a.1
  let x1 := a.2.1
  let x2 := a.2.2.1
  let x3 : Int := (List.length x0 : Int)
  let j0 : (Int) × (List (Int)) × Unit → _ := fun s0 =>
    let x4 := s0.1
    let x5 := s0.2.1
    some ((-1), x4, x5, ())
  loopC (fun (s1 : (Int) × (Int) × (List (Int)) × Unit) =>
    let x4 := s1.1
    let x5 := s1.2.1
    let x6 := s1.2.2.1
    let x7 : Bool := decide ((x4 : Int) < x3)
    if x7 = true then
     atC x0 x4 fun y8 =>
      let x8 : (Int) × (List (Int)) × Unit := y8
      let x9 : (Int) × (List (Int)) × Unit := (x8.1, x8.2.1, ())
      Option.bind (multivalue_Merge_3_26 (x9, x5, x6, ())) fun r10 =>
       let x10 := r10.1
       let x11 := r10.2.1
       let x12 := r10.2.2.1
       if x10 = true then
        some (.inr (x4, x11, x12, ()))
       else
        let x13 : Int := IntKind.wrap .i64 (x4 + 1)
        some (.inl (x13, x11, x12, ()))
    else
     Option.map .inr (j0 (x5, x6, ())))
    (0, x1, x2, ())

/- slices.ContainsFunc[[]changeforge/api.VersionedValue,changeforge/api.VersionedValue] -/
noncomputable def api_VersionedValue__19_26 (a : (List ((Int) × (List (Int)) × Unit)) × (Int) × (List (Int)) × Unit) : Option ((Bool) × (Int) × (List (Int)) × Unit) :=
  let x0 := a.1
  let x1 := a.2.1
  let x2 := a.2.2.1
  Option.bind (api_VersionedValue__24_26 (x0, x1, x2, ())) fun r3 =>
   let x3 := r3.1
   let x4 := r3.2.1
   let x5 := r3.2.2.1
   let x6 : Bool := decide ((x3 : Int) ≥ 0)
   some (x6, x4, x5, ())

/- changeforge/multivalue.Merge$4 -/
noncomputable def multivalue_Merge_4_28 (a : ((Int) × (List (Int)) × Unit) × ((Int) × (List (Int)) × Unit) × Unit) : Option ((Int) × Unit) :=
  let x0 := a.1
  let x1 := a.2.1
  let x2 : Int := x0.1
  let x3 : List (Int) := x0.2.1
  let x4 : Int := x1.1
  let x5 : List (Int) := x1.2.1
  Option.bind (slices_Compare___int_int__29 (x3, x5, ())) fun r6 =>
   let x6 := r6.1
   some (x6, ())

/- changeforge/multivalue.Merge -/
noncomputable def multivalue_Merge_11 (a : (List ((Int) × (List (Int)) × Unit)) × (List ((Int) × (List (Int)) × Unit)) × Unit) : Option ((List ((Int) × (List (Int)) × Unit)) × ((Int) × (Int) × Unit) × Unit) :=
  let x0 := a.1
  let x1 := a.2.1
  Option.bind (multivalue_Validate_13 (x0, ())) fun r2 =>
   let x2 := r2.1
   let x3 : Int := x2.1
   let x4 : Int := x2.2.1
   let x5 : (Int) × (Int) × Unit := (x3, x4, ())
   let x6 : (Int) × (Int) × Unit := (0, 0, ())
   let x7 : Bool := (!((x5.1 : Int) == x6.1 && ((x5.2.1 : Int) == x6.2.1 && true)))
   if x7 = true then
    let x8 : (Int) × (Int) × Unit := (x3, x4, ())
    some (([] : List ((Int) × (List (Int)) × Unit)), x8, ())
   else
    Option.bind (multivalue_Validate_13 (x1, ())) fun r8 =>
     let x8 := r8.1
     let x9 : Int := x8.1
     let x10 : Int := x8.2.1
     let x11 : (Int) × (Int) × Unit := (x9, x10, ())
     let x12 : (Int) × (Int) × Unit := (0, 0, ())
     let x13 : Bool := (!((x11.1 : Int) == x12.1 && ((x11.2.1 : Int) == x12.2.1 && true)))
     if x13 = true then
      let x14 : Int := x9
      let x15 : (Int) × (Int) × Unit := (x14, (-2), ())
      some (([] : List ((Int) × (List (Int)) × Unit)), x15, ())
     else
      let x14 : Int := (List.length x0 : Int)
      let j0 : (List ((Int) × (List (Int)) × Unit)) × Unit → _ := fun s0 =>
        let x15 := s0.1
        let x16 : Int := (List.length x1 : Int)
        let j0 : (List ((Int) × (List (Int)) × Unit)) × Unit → _ := fun s0 =>
          let x17 := s0.1
          let x18 : Int := (List.length x17 : Int)
          let x19 : Bool := decide ((x18 : Int) > 16)
          if x19 = true then
           let x20 : (Int) × (Int) × Unit := (10, (-1), ())
           some (([] : List ((Int) × (List (Int)) × Unit)), x20, ())
          else
           Option.bind (api_VersionedValue__27_28 (x17, ())) fun r20 =>
            let x20 := r20.1
            let x21 : (Int) × (Int) × Unit := (0, 0, ())
            some (x20, x21, ())
        loopC (fun (s1 : (List ((Int) × (List (Int)) × Unit)) × (Int) × Unit) =>
          let x17 := s1.1
          let x18 := s1.2.1
          let x19 : Bool := decide ((x18 : Int) < x16)
          if x19 = true then
           let j2 : (List ((Int) × (List (Int)) × Unit)) × (Int) × Unit → _ := fun s2 =>
             let x20 := s2.1
             let x21 := s2.2.1
             let x22 : Int := IntKind.wrap .i64 (x21 + 1)
             some (.inl (x20, x22, ()))
           atC x1 x18 fun y20 =>
            let x20 : (Int) × (List (Int)) × Unit := y20
            let x21 : (Int) × (List (Int)) × Unit := (x20.1, x20.2.1, ())
            let x22 : Int := x21.1
            let x23 : List (Int) := x21.2.1
            Option.bind (api_VersionedValue__24_25 (x0, x22, x23, ())) fun r24 =>
             let x24 := r24.1
             let x25 := r24.2.1
             let x26 := r24.2.2.1
             let j3 : (List ((Int) × (List (Int)) × Unit)) × (Int) × (Bool) × (Int) × (List (Int)) × Unit → _ := fun s3 =>
               let x27 := s3.1
               let x28 := s3.2.1
               let x29 := s3.2.2.1
               let x30 := s3.2.2.2.1
               let x31 := s3.2.2.2.2.1
               if x29 = true then
                let x32 : Int := x28
                let x33 : (Int) × (Int) × Unit := (19, x32, ())
                some (.inr (([] : List ((Int) × (List (Int)) × Unit)), x33, ()))
               else
                Option.bind (api_VersionedValue__19_26 (x0, x30, x31, ())) fun r32 =>
                 let x32 := r32.1
                 let x33 := r32.2.1
                 let x34 := r32.2.2.1
                 let x35 : Bool := (!x32)
                 let j3 : (List ((Int) × (List (Int)) × Unit)) × (Int) × Unit → _ := fun s3 =>
                   let x36 := s3.1
                   let x37 := s3.2.1
                   j2 (x36, x37, ())
                 if x35 = true then
                  Option.bind (slices_Clone___int_int__23 (x34, ())) fun r36 =>
                   let x36 := r36.1
                   let x37 : Int := x33
                   let x38 : List (Int) := x36
                   let x39 : (Int) × (List (Int)) × Unit := (x37, x38, ())
                   let x40 : List ((Int) × (List (Int)) × Unit) := [x39]
                   if (List.length x27 + List.length x40) * 32 ≤ 140737488355328 ∧ List.length x27 + List.length x40 ≤ maxLen then
                    let x41 : List ((Int) × (List (Int)) × Unit) := x27 ++ x40
                    j3 (x41, x28, ())
                   else none
                 else
                  j3 (x27, x28, ())
             let x27 : Bool := decide ((x24 : Int) ≥ 0)
             if x27 = true then
              atC x0 x24 fun y28 =>
               let x28 : (Int) × (List (Int)) × Unit := y28
               let x29 : Int := x28.1
               let x30 : Bool := ((x29 : Int) != x25)
               j3 (x17, x18, x30, x25, x26, ())
             else
              j3 (x17, x18, false, x25, x26, ())
          else
           Option.map .inr (j0 (x17, ())))
          (x15, 0, ())
      loopC (fun (s1 : (List ((Int) × (List (Int)) × Unit)) × (Int) × Unit) =>
        let x15 := s1.1
        let x16 := s1.2.1
        let x17 : Bool := decide ((x16 : Int) < x14)
        if x17 = true then
         let j2 : (List ((Int) × (List (Int)) × Unit)) × (Int) × Unit → _ := fun s2 =>
           let x18 := s2.1
           let x19 := s2.2.1
           let x20 : Int := IntKind.wrap .i64 (x19 + 1)
           some (.inl (x18, x20, ()))
         atC x0 x16 fun y18 =>
          let x18 : (Int) × (List (Int)) × Unit := y18
          let x19 : (Int) × (List (Int)) × Unit := (x18.1, x18.2.1, ())
          let x20 : Int := x19.1
          let x21 : List (Int) := x19.2.1
          Option.bind (api_VersionedValue__19_20 (x1, x20, x21, ())) fun r22 =>
           let x22 := r22.1
           let x23 := r22.2.1
           let x24 := r22.2.2.1
           let x25 : Bool := (!x22)
           let j3 : (List ((Int) × (List (Int)) × Unit)) × (Int) × Unit → _ := fun s3 =>
             let x26 := s3.1
             let x27 := s3.2.1
             j2 (x26, x27, ())
           if x25 = true then
            Option.bind (slices_Clone___int_int__23 (x24, ())) fun r26 =>
             let x26 := r26.1
             let x27 : Int := x23
             let x28 : List (Int) := x26
             let x29 : (Int) × (List (Int)) × Unit := (x27, x28, ())
             let x30 : List ((Int) × (List (Int)) × Unit) := [x29]
             if (List.length x15 + List.length x30) * 32 ≤ 140737488355328 ∧ List.length x15 + List.length x30 ≤ maxLen then
              let x31 : List ((Int) × (List (Int)) × Unit) := x15 ++ x30
              j3 (x31, x16, ())
             else none
           else
            j3 (x15, x16, ())
        else
         Option.map .inr (j0 (x15, ())))
        (([] : List ((Int) × (List (Int)) × Unit)), 0, ())

/- changeforge/changeforgeref2.MergedValues -/
noncomputable def changeforgeref2_MergedValues_12 (a : (List ((Int) × (List (Int)) × Unit)) × (List ((Int) × (List (Int)) × Unit)) × Unit) : Option ((List ((Int) × (List (Int)) × Unit)) × ((Int) × (Int) × Unit) × Unit) :=
  let x0 := a.1
  let x1 := a.2.1
  Option.bind (changeforgeref2_ValuesFault_14 (x0, ())) fun r2 =>
   let x2 := r2.1
   let x3 : Int := x2.1
   let x4 : Int := x2.2.1
   let x5 : Bool := ((x3 : Int) != 0)
   if x5 = true then
    let x6 : (Int) × (Int) × Unit := (x3, x4, ())
    some (([] : List ((Int) × (List (Int)) × Unit)), x6, ())
   else
    Option.bind (changeforgeref2_ValuesFault_14 (x1, ())) fun r6 =>
     let x6 := r6.1
     let x7 : Int := x6.1
     let x8 : Int := x6.2.1
     let x9 : Bool := ((x7 : Int) != 0)
     if x9 = true then
      Option.bind (changeforgeref1_At_18 (x7, (-2), ())) fun r10 =>
       let x10 := r10.1
       let x11 : Int := x10.1
       let x12 : Int := x10.2.1
       let x13 : (Int) × (Int) × Unit := (x11, x12, ())
       some (([] : List ((Int) × (List (Int)) × Unit)), x13, ())
     else
      let x10 : List ((Int) × (List (Int)) × Unit) := []
      if (List.length x10 + List.length x0) * 32 ≤ 140737488355328 ∧ List.length x10 + List.length x0 ≤ maxLen then
       let x11 : List ((Int) × (List (Int)) × Unit) := x10 ++ x0
       if (List.length x11 + List.length x1) * 32 ≤ 140737488355328 ∧ List.length x11 + List.length x1 ≤ maxLen then
        let x12 : List ((Int) × (List (Int)) × Unit) := x11 ++ x1
        let j0 : (List ((Int) × (List (Int)) × Unit)) × Unit → _ := fun s0 =>
          let x13 := s0.1
          let x14 : Int := (List.length x13 : Int)
          let x15 : Bool := decide ((x14 : Int) > 16)
          if x15 = true then
           Option.bind (changeforgeref1_At_18 (10, (-1), ())) fun r16 =>
            let x16 := r16.1
            let x17 : Int := x16.1
            let x18 : Int := x16.2.1
            let x19 : (Int) × (Int) × Unit := (x17, x18, ())
            some (([] : List ((Int) × (List (Int)) × Unit)), x19, ())
          else
           let x16 : (Int) × (Int) × Unit := (0, 0, ())
           some (x13, x16, ())
        loopC (fun (s1 : (List ((Int) × (List (Int)) × Unit)) × (Int) × Unit) =>
          let x13 := s1.1
          let x14 := s1.2.1
          let x15 : Int := (List.length x12 : Int)
          let x16 : Bool := decide ((x14 : Int) < x15)
          if x16 = true then
           let j2 : (List ((Int) × (List (Int)) × Unit)) × (Int) × Unit → _ := fun s2 =>
             let x17 := s2.1
             let x18 := s2.2.1
             let x19 : Int := IntKind.wrap .i64 (x18 + 1)
             some (.inl (x17, x19, ()))
           let j3 : (List ((Int) × (List (Int)) × Unit)) × (Int) × (Bool) × Unit → _ := fun s3 =>
             let x17 := s3.1
             let x18 := s3.2.1
             let x19 := s3.2.2.1
             let x20 : Bool := (!x19)
             if x20 = true then
              j2 (x17, x18, ())
             else
              let x21 : Int := (List.length x17 : Int)
              atC x12 x18 fun y22 =>
               let x22 : (Int) × (List (Int)) × Unit := y22
               let x23 : (Int) × (List (Int)) × Unit := (x22.1, x22.2.1, ())
               let x24 : List ((Int) × (List (Int)) × Unit) := [x23]
               if (List.length x17 + List.length x24) * 32 ≤ 140737488355328 ∧ List.length x17 + List.length x24 ≤ maxLen then
                let x25 : List ((Int) × (List (Int)) × Unit) := x17 ++ x24
                let j3 : (List ((Int) × (List (Int)) × Unit)) × (Int) × (Int) × Unit → _ := fun s3 =>
                  let x26 := s3.1
                  let x27 := s3.2.1
                  let x28 := s3.2.2.1
                  atC x12 x27 fun y29 =>
                   let x29 : (Int) × (List (Int)) × Unit := y29
                   let x30 : (Int) × (List (Int)) × Unit := (x29.1, x29.2.1, ())
                   if 0 ≤ (x28 : Int) ∧ x28 < ((List.length x26) : Int) then
                    let x31 : Int := (x28 : Int)
                    atC x26 x31 fun y32 =>
                     let x32 : List ((Int) × (List (Int)) × Unit) := List.set x26 (Int.toNat x31) (x30.1, x30.2.1, y32.2.2)
                     j2 (x32, x27, ())
                   else none
                loopC (fun (s4 : (List ((Int) × (List (Int)) × Unit)) × (Int) × (Int) × Unit) =>
                  let x26 := s4.1
                  let x27 := s4.2.1
                  let x28 := s4.2.2.1
                  let j5 : (List ((Int) × (List (Int)) × Unit)) × (Int) × (Int) × (Bool) × Unit → _ := fun s5 =>
                    let x29 := s5.1
                    let x30 := s5.2.1
                    let x31 := s5.2.2.1
                    let x32 := s5.2.2.2.1
                    if x32 = true then
                     let x33 : Int := IntKind.wrap .i64 (x31 - 1)
                     if 0 ≤ (x33 : Int) ∧ x33 < ((List.length x29) : Int) then
                      let x34 : Int := (x33 : Int)
                      atC x29 x34 fun y35 =>
                       let x35 : (Int) × (List (Int)) × Unit := (y35.1, y35.2.1, ())
                       if 0 ≤ (x31 : Int) ∧ x31 < ((List.length x29) : Int) then
                        let x36 : Int := (x31 : Int)
                        atC x29 x36 fun y37 =>
                         let x37 : List ((Int) × (List (Int)) × Unit) := List.set x29 (Int.toNat x36) (x35.1, x35.2.1, y37.2.2)
                         let x38 : Int := IntKind.wrap .i64 (x31 - 1)
                         some (.inl (x37, x30, x38, ()))
                       else none
                     else none
                    else
                     Option.map .inr (j3 (x29, x30, x31, ()))
                  let x29 : Bool := decide ((x28 : Int) > 0)
                  if x29 = true then
                   atC x12 x27 fun y30 =>
                    let x30 : (Int) × (List (Int)) × Unit := y30
                    let x31 : List (Int) := x30.2.1
                    let x32 : Int := IntKind.wrap .i64 (x28 - 1)
                    if 0 ≤ (x32 : Int) ∧ x32 < ((List.length x26) : Int) then
                     let x33 : Int := (x32 : Int)
                     atC x26 x33 fun y34 =>
                      let x34 : List (Int) := y34.2.1
                      Option.bind (changeforgeref2_less_30 (x31, x34, ())) fun r35 =>
                       let x35 := r35.1
                       j5 (x26, x27, x28, x35, ())
                    else none
                  else
                   j5 (x26, x27, x28, false, ()))
                  (x25, x18, x21, ())
               else none
           loopC (fun (s4 : (List ((Int) × (List (Int)) × Unit)) × (Int) × (Bool) × (Int) × Unit) =>
             let x17 := s4.1
             let x18 := s4.2.1
             let x19 := s4.2.2.1
             let x20 := s4.2.2.2.1
             let x21 : Int := (List.length x12 : Int)
             let x22 : Bool := decide ((x20 : Int) < x21)
             if x22 = true then
              let j5 : (List ((Int) × (List (Int)) × Unit)) × (Int) × (Bool) × (Int) × Unit → _ := fun s5 =>
                let x23 := s5.1
                let x24 := s5.2.1
                let x25 := s5.2.2.1
                let x26 := s5.2.2.2.1
                let x27 : Int := IntKind.wrap .i64 (x26 + 1)
                some (.inl (x23, x24, x25, x27, ()))
              atC x12 x20 fun y23 =>
               let x23 : (Int) × (List (Int)) × Unit := y23
               let x24 : List (Int) := x23.2.1
               atC x12 x18 fun y25 =>
                let x25 : (Int) × (List (Int)) × Unit := y25
                let x26 : List (Int) := x25.2.1
                Option.bind (changeforgeref2_Relation_17 (x24, x26, ())) fun r27 =>
                 let x27 := r27.1
                 let x28 := r27.2.1
                 let j6 : (List ((Int) × (List (Int)) × Unit)) × (Int) × (Bool) × (Int) × (Bool) × Unit → _ := fun s6 =>
                   let x29 := s6.1
                   let x30 := s6.2.1
                   let x31 := s6.2.2.1
                   let x32 := s6.2.2.2.1
                   let x33 := s6.2.2.2.2.1
                   let j6 : (List ((Int) × (List (Int)) × Unit)) × (Int) × (Bool) × (Int) × (Bool) × (Bool) × Unit → _ := fun s6 =>
                     let x34 := s6.1
                     let x35 := s6.2.1
                     let x36 := s6.2.2.1
                     let x37 := s6.2.2.2.1
                     let x38 := s6.2.2.2.2.1
                     let x39 := s6.2.2.2.2.2.1
                     let j6 : (List ((Int) × (List (Int)) × Unit)) × (Int) × (Bool) × (Int) × (Bool) × Unit → _ := fun s6 =>
                       let x40 := s6.1
                       let x41 := s6.2.1
                       let x42 := s6.2.2.1
                       let x43 := s6.2.2.2.1
                       let x44 := s6.2.2.2.2.1
                       let j6 : (List ((Int) × (List (Int)) × Unit)) × (Int) × (Bool) × (Int) × Unit → _ := fun s6 =>
                         let x45 := s6.1
                         let x46 := s6.2.1
                         let x47 := s6.2.2.1
                         let x48 := s6.2.2.2.1
                         j5 (x45, x46, x47, x48, ())
                       if x44 = true then
                        j6 (x40, x41, false, x43, ())
                       else
                        j6 (x40, x41, x42, x43, ())
                     if x38 = true then
                      let x40 : Bool := (!x39)
                      j6 (x34, x35, x36, x37, x40, ())
                     else
                      j6 (x34, x35, x36, x37, false, ())
                   if x33 = true then
                    atC x12 x32 fun y34 =>
                     let x34 : (Int) × (List (Int)) × Unit := y34
                     let x35 : Int := x34.1
                     atC x12 x30 fun y36 =>
                      let x36 : (Int) × (List (Int)) × Unit := y36
                      let x37 : Int := x36.1
                      let x38 : Bool := ((x35 : Int) != x37)
                      if x38 = true then
                       let x39 : Int := (List.length x0 : Int)
                       let x40 : Int := IntKind.wrap .i64 (x30 - x39)
                       Option.bind (changeforgeref1_At_18 (19, x40, ())) fun r41 =>
                        let x41 := r41.1
                        let x42 : Int := x41.1
                        let x43 : Int := x41.2.1
                        let x44 : (Int) × (Int) × Unit := (x42, x43, ())
                        some (.inr (.inr (([] : List ((Int) × (List (Int)) × Unit)), x44, ())))
                      else
                       j6 (x29, x30, false, x32, x27, x28, ())
                   else
                    j6 (x29, x30, x31, x32, x27, x28, ())
                 if x27 = true then
                  if x28 = true then
                   let x29 : Bool := decide ((x20 : Int) < x18)
                   j6 (x17, x18, x19, x20, x29, ())
                  else
                   j6 (x17, x18, x19, x20, false, ())
                 else
                  j6 (x17, x18, x19, x20, false, ())
             else
              Option.map .inr (j3 (x17, x18, x19, ())))
             (x13, x14, true, 0, ())
          else
           Option.map .inr (j0 (x13, ())))
          (([] : List ((Int) × (List (Int)) × Unit)), 0, ())
       else none
      else none

/- changeforge/changeforgeequal.Ints -/
noncomputable def changeforgeequal_Ints_32 (a : (List (Int)) × (List (Int)) × Unit) : Option ((Bool) × Unit) :=
  let x0 := a.1
  let x1 := a.2.1
  let x2 : Int := (List.length x0 : Int)
  let x3 : Int := (List.length x1 : Int)
  let x4 : Bool := ((x2 : Int) != x3)
  if x4 = true then
   some (false, ())
  else
   let j0 : Unit → _ := fun s0 =>
     some (true, ())
   loopC (fun (s1 : (Int) × Unit) =>
     let x5 := s1.1
     let x6 : Int := (List.length x0 : Int)
     let x7 : Bool := decide ((x5 : Int) < x6)
     if x7 = true then
      atC x0 x5 fun y8 =>
       let x8 : Int := y8
       let x9 : Int := x8
       atC x1 x5 fun y10 =>
        let x10 : Int := y10
        let x11 : Int := x10
        let x12 : Bool := ((x9 : Int) != x11)
        if x12 = true then
         some (.inr (false, ()))
        else
         let x13 : Int := IntKind.wrap .i64 (x5 + 1)
         some (.inl (x13, ()))
     else
      Option.map .inr (j0 (())))
     (0, ())

/- changeforge/changeforgeequal.Values -/
noncomputable def changeforgeequal_Values_15 (a : (List ((Int) × (List (Int)) × Unit)) × (List ((Int) × (List (Int)) × Unit)) × Unit) : Option ((Bool) × Unit) :=
  let x0 := a.1
  let x1 := a.2.1
  let x2 : Int := (List.length x0 : Int)
  let x3 : Int := (List.length x1 : Int)
  let x4 : Bool := ((x2 : Int) != x3)
  if x4 = true then
   some (false, ())
  else
   let j0 : Unit → _ := fun s0 =>
     some (true, ())
   loopC (fun (s1 : (Int) × Unit) =>
     let x5 := s1.1
     let x6 : Int := (List.length x0 : Int)
     let x7 : Bool := decide ((x5 : Int) < x6)
     if x7 = true then
      let j2 : (Int) × (Bool) × Unit → _ := fun s2 =>
        let x8 := s2.1
        let x9 := s2.2.1
        if x9 = true then
         some (.inr (false, ()))
        else
         let x10 : Int := IntKind.wrap .i64 (x8 + 1)
         some (.inl (x10, ()))
      atC x0 x5 fun y8 =>
       let x8 : (Int) × (List (Int)) × Unit := y8
       let x9 : Int := x8.1
       atC x1 x5 fun y10 =>
        let x10 : (Int) × (List (Int)) × Unit := y10
        let x11 : Int := x10.1
        let x12 : Bool := ((x9 : Int) != x11)
        if x12 = true then
         j2 (x5, true, ())
        else
         atC x0 x5 fun y13 =>
          let x13 : (Int) × (List (Int)) × Unit := y13
          let x14 : List (Int) := x13.2.1
          atC x1 x5 fun y15 =>
           let x15 : (Int) × (List (Int)) × Unit := y15
           let x16 : List (Int) := x15.2.1
           Option.bind (changeforgeequal_Ints_32 (x14, x16, ())) fun r17 =>
            let x17 := r17.1
            let x18 : Bool := (!x17)
            j2 (x5, x18, ())
     else
      Option.map .inr (j0 (())))
     (0, ())

/- changeforge/changeforgelaw2.first -/
noncomputable def changeforgelaw2_first_16 (a : Unit) : Option ((Bool) × Unit) :=
  Option.bind (multivalue_Write_9 (([] : List ((Int) × (List (Int)) × Unit)), 0, 7, ())) fun r0 =>
   let x0 := r0.1
   let x1 := r0.2.1
   let x2 : Int := x1.1
   let x3 : Int := x1.2.1
   let j0 : (Bool) × Unit → _ := fun s0 =>
     let x4 := s0.1
     some (x4, ())
   let x4 : Bool := ((x2 : Int) == 0)
   if x4 = true then
    let x5 : List (Int) := [1, 0, 0, 0, 0, 0]
    let x6 : List (Int) := x5
    let x7 : (Int) × (List (Int)) × Unit := (7, x6, ())
    let x8 : List ((Int) × (List (Int)) × Unit) := [x7]
    Option.bind (changeforgeequal_Values_15 (x0, x8, ())) fun r9 =>
     let x9 := r9.1
     j0 (x9, ())
   else
    j0 (false, ())

/- changeforge/changeforgelaw2.MultivalueMatchesSpec -/
noncomputable def changeforgelaw2_MultivalueMatchesSpec_3 (a : (List ((Int) × (List (Int)) × Unit)) × (List ((Int) × (List (Int)) × Unit)) × (Int) × (Int) × Unit) : Option ((Bool) × Unit) :=
  let x0 := a.1
  let x1 := a.2.1
  let x2 := a.2.2.1
  let x3 := a.2.2.2.1
  Option.bind (multivalue_Write_9 (x0, x2, x3, ())) fun r4 =>
   let x4 := r4.1
   let x5 := r4.2.1
   let x6 : Int := x5.1
   let x7 : Int := x5.2.1
   Option.bind (changeforgeref2_Written_10 (x0, x2, x3, ())) fun r8 =>
    let x8 := r8.1
    let x9 := r8.2.1
    let x10 : Int := x9.1
    let x11 : Int := x9.2.1
    Option.bind (multivalue_Merge_11 (x0, x1, ())) fun r12 =>
     let x12 := r12.1
     let x13 := r12.2.1
     let x14 : Int := x13.1
     let x15 : Int := x13.2.1
     Option.bind (changeforgeref2_MergedValues_12 (x0, x1, ())) fun r16 =>
      let x16 := r16.1
      let x17 := r16.2.1
      let x18 : Int := x17.1
      let x19 : Int := x17.2.1
      let j0 : (Bool) × Unit → _ := fun s0 =>
        let x20 := s0.1
        some (x20, ())
      Option.bind (multivalue_Validate_13 (x0, ())) fun r20 =>
       let x20 := r20.1
       Option.bind (changeforgeref2_ValuesFault_14 (x0, ())) fun r21 =>
        let x21 := r21.1
        let x22 : Bool := ((x20.1 : Int) == x21.1 && ((x20.2.1 : Int) == x21.2.1 && true))
        if x22 = true then
         Option.bind (changeforgeequal_Values_15 (x4, x8, ())) fun r23 =>
          let x23 := r23.1
          if x23 = true then
           let x24 : (Int) × (Int) × Unit := (x6, x7, ())
           let x25 : (Int) × (Int) × Unit := (x10, x11, ())
           let x26 : Bool := ((x24.1 : Int) == x25.1 && ((x24.2.1 : Int) == x25.2.1 && true))
           if x26 = true then
            Option.bind (changeforgeequal_Values_15 (x12, x16, ())) fun r27 =>
             let x27 := r27.1
             if x27 = true then
              let x28 : (Int) × (Int) × Unit := (x14, x15, ())
              let x29 : (Int) × (Int) × Unit := (x18, x19, ())
              let x30 : Bool := ((x28.1 : Int) == x29.1 && ((x28.2.1 : Int) == x29.2.1 && true))
              if x30 = true then
               Option.bind (changeforgelaw2_first_16 (())) fun r31 =>
                let x31 := r31.1
                j0 (x31, ())
              else
               j0 (false, ())
             else
              j0 (false, ())
           else
            j0 (false, ())
          else
           j0 (false, ())
        else
         j0 (false, ())

/- changeforge/changeforgelaw2.MultivalueSemilattice -/
noncomputable def changeforgelaw2_MultivalueSemilattice_4 (a : (List ((Int) × (List (Int)) × Unit)) × (List ((Int) × (List (Int)) × Unit)) × (List ((Int) × (List (Int)) × Unit)) × Unit) : Option ((Bool) × Unit) :=
  let x0 := a.1
  let x1 := a.2.1
  let x2 := a.2.2.1
  Option.bind (multivalue_Merge_11 (x0, x1, ())) fun r3 =>
   let x3 := r3.1
   let x4 := r3.2.1
   let x5 : Int := x4.1
   let x6 : Int := x4.2.1
   Option.bind (multivalue_Merge_11 (x1, x0, ())) fun r7 =>
    let x7 := r7.1
    let x8 := r7.2.1
    let x9 : Int := x8.1
    let x10 : Int := x8.2.1
    let j0 : (Bool) × Unit → _ := fun s0 =>
      let x11 := s0.1
      if x11 = true then
       let j0 : (Bool) × Unit → _ := fun s0 =>
         let x12 := s0.1
         some (x12, ())
       let x12 : Bool := ((x5 : Int) == 0)
       let x13 : Bool := ((x9 : Int) == 0)
       let x14 : Bool := ((x12 : Bool) == x13)
       if x14 = true then
        Option.bind (changeforgelaw2_first_16 (())) fun r15 =>
         let x15 := r15.1
         j0 (x15, ())
       else
        j0 (false, ())
      else
       Option.bind (multivalue_Merge_11 (x3, x3, ())) fun r12 =>
        let x12 := r12.1
        let x13 := r12.2.1
        let x14 : Int := x13.1
        let x15 : Int := x13.2.1
        Option.bind (multivalue_Merge_11 (x3, x2, ())) fun r16 =>
         let x16 := r16.1
         let x17 := r16.2.1
         let x18 : Int := x17.1
         let x19 : Int := x17.2.1
         Option.bind (multivalue_Merge_11 (x1, x2, ())) fun r20 =>
          let x20 := r20.1
          let x21 := r20.2.1
          let x22 : Int := x21.1
          let x23 : Int := x21.2.1
          Option.bind (multivalue_Merge_11 (x0, x20, ())) fun r24 =>
           let x24 := r24.1
           let x25 := r24.2.1
           let x26 : Int := x25.1
           let x27 : Int := x25.2.1
           let j0 : (Bool) × Unit → _ := fun s0 =>
             let x28 := s0.1
             if x28 = true then
              some (false, ())
             else
              let j0 : (Bool) × Unit → _ := fun s0 =>
                let x29 := s0.1
                if x29 = true then
                 Option.bind (changeforgelaw2_first_16 (())) fun r30 =>
                  let x30 := r30.1
                  some (x30, ())
                else
                 let j0 : (Bool) × Unit → _ := fun s0 =>
                   let x30 := s0.1
                   some (x30, ())
                 Option.bind (changeforgeequal_Values_15 (x16, x24, ())) fun r30 =>
                  let x30 := r30.1
                  if x30 = true then
                   Option.bind (changeforgelaw2_first_16 (())) fun r31 =>
                    let x31 := r31.1
                    j0 (x31, ())
                  else
                   j0 (false, ())
              let x29 : Bool := ((x18 : Int) != 0)
              if x29 = true then
               j0 (true, ())
              else
               let x30 : Bool := ((x22 : Int) != 0)
               if x30 = true then
                j0 (true, ())
               else
                let x31 : Bool := ((x26 : Int) != 0)
                j0 (x31, ())
           Option.bind (changeforgeequal_Values_15 (x3, x7, ())) fun r28 =>
            let x28 := r28.1
            let x29 : Bool := (!x28)
            if x29 = true then
             j0 (true, ())
            else
             let x30 : Bool := ((x14 : Int) != 0)
             if x30 = true then
              j0 (true, ())
             else
              Option.bind (changeforgeequal_Values_15 (x12, x3, ())) fun r31 =>
               let x31 := r31.1
               let x32 : Bool := (!x31)
               j0 (x32, ())
    let x11 : Bool := ((x5 : Int) != 0)
    if x11 = true then
     j0 (true, ())
    else
     let x12 : Bool := ((x9 : Int) != 0)
     j0 (x12, ())

/- changeforge/changeforgelaw2.MultivalueWriteWins -/
noncomputable def changeforgelaw2_MultivalueWriteWins_5 (a : (List ((Int) × (List (Int)) × Unit)) × (Int) × (Int) × Unit) : Option ((Bool) × Unit) :=
  let x0 := a.1
  let x1 := a.2.1
  let x2 := a.2.2.1
  Option.bind (multivalue_Write_9 (x0, x1, x2, ())) fun r3 =>
   let x3 := r3.1
   let x4 := r3.2.1
   let x5 : Int := x4.1
   let x6 : Int := x4.2.1
   let x7 : Bool := ((x5 : Int) != 0)
   if x7 = true then
    Option.bind (changeforgelaw2_first_16 (())) fun r8 =>
     let x8 := r8.1
     some (x8, ())
   else
    Option.bind (multivalue_Merge_11 (x0, x3, ())) fun r8 =>
     let x8 := r8.1
     let x9 := r8.2.1
     let x10 : Int := x9.1
     let x11 : Int := x9.2.1
     let j0 : (Bool) × Unit → _ := fun s0 =>
       let x12 := s0.1
       some (x12, ())
     let x12 : Bool := ((x10 : Int) == 0)
     if x12 = true then
      Option.bind (changeforgeequal_Values_15 (x8, x3, ())) fun r13 =>
       let x13 := r13.1
       if x13 = true then
        let x14 : Int := (List.length x3 : Int)
        let x15 : Bool := ((x14 : Int) == 1)
        if x15 = true then
         atC x3 0 fun y16 =>
          let x16 : (Int) × (List (Int)) × Unit := y16
          let x17 : Int := x16.1
          let x18 : Bool := ((x17 : Int) == x2)
          if x18 = true then
           Option.bind (changeforgelaw2_first_16 (())) fun r19 =>
            let x19 := r19.1
            j0 (x19, ())
          else
           j0 (false, ())
        else
         j0 (false, ())
       else
        j0 (false, ())
     else
      j0 (false, ())

/- changeforge/changeforgelaw2.MultivalueConcurrent -/
noncomputable def changeforgelaw2_MultivalueConcurrent_6 (a : (List ((Int) × (List (Int)) × Unit)) × (Int) × (Int) × (Int) × (Int) × Unit) : Option ((Bool) × Unit) :=
  let x0 := a.1
  let x1 := a.2.1
  let x2 := a.2.2.1
  let x3 := a.2.2.2.1
  let x4 := a.2.2.2.2.1
  Option.bind (multivalue_Write_9 (x0, x1, x2, ())) fun r5 =>
   let x5 := r5.1
   let x6 := r5.2.1
   let x7 : Int := x6.1
   let x8 : Int := x6.2.1
   Option.bind (multivalue_Write_9 (x0, x3, x4, ())) fun r9 =>
    let x9 := r9.1
    let x10 := r9.2.1
    let x11 : Int := x10.1
    let x12 : Int := x10.2.1
    let j0 : (Bool) × Unit → _ := fun s0 =>
      let x13 := s0.1
      if x13 = true then
       Option.bind (changeforgelaw2_first_16 (())) fun r14 =>
        let x14 := r14.1
        some (x14, ())
      else
       Option.bind (multivalue_Merge_11 (x5, x9, ())) fun r14 =>
        let x14 := r14.1
        let x15 := r14.2.1
        let x16 : Int := x15.1
        let x17 : Int := x15.2.1
        let x18 : Bool := ((x1 : Int) == x3)
        if x18 = true then
         let j0 : (Bool) × Unit → _ := fun s0 =>
           let x19 := s0.1
           some (x19, ())
         let x19 : Bool := ((x16 : Int) == 0)
         let x20 : Bool := ((x2 : Int) == x4)
         let x21 : Bool := ((x19 : Bool) == x20)
         if x21 = true then
          let x22 : Bool := ((x2 : Int) != x4)
          if x22 = true then
           Option.bind (changeforgelaw2_first_16 (())) fun r23 =>
            let x23 := r23.1
            j0 (x23, ())
          else
           Option.bind (changeforgeequal_Values_15 (x14, x5, ())) fun r23 =>
            let x23 := r23.1
            if x23 = true then
             Option.bind (changeforgelaw2_first_16 (())) fun r24 =>
              let x24 := r24.1
              j0 (x24, ())
            else
             j0 (false, ())
         else
          j0 (false, ())
        else
         let j0 : (Bool) × Unit → _ := fun s0 =>
           let x19 := s0.1
           some (x19, ())
         let x19 : Bool := ((x16 : Int) == 0)
         if x19 = true then
          let x20 : Int := (List.length x14 : Int)
          let x21 : Bool := ((x20 : Int) == 2)
          if x21 = true then
           Option.bind (multivalue_Validate_13 (x14, ())) fun r22 =>
            let x22 := r22.1
            let x23 : Int := x22.1
            let x24 : Bool := ((x23 : Int) == 0)
            if x24 = true then
             Option.bind (changeforgelaw2_first_16 (())) fun r25 =>
              let x25 := r25.1
              j0 (x25, ())
            else
             j0 (false, ())
          else
           j0 (false, ())
         else
          j0 (false, ())
    let x13 : Bool := ((x7 : Int) != 0)
    if x13 = true then
     j0 (true, ())
    else
     let x14 : Bool := ((x11 : Int) != 0)
     j0 (x14, ())

/- changeforge/changeforgelaw2.MultivalueCovers -/
noncomputable def changeforgelaw2_MultivalueCovers_7 (a : (List ((Int) × (List (Int)) × Unit)) × (List ((Int) × (List (Int)) × Unit)) × (Int) × Unit) : Option ((Bool) × Unit) :=
  let x0 := a.1
  let x1 := a.2.1
  let x2 := a.2.2.1
  Option.bind (multivalue_Merge_11 (x0, x1, ())) fun r3 =>
   let x3 := r3.1
   let x4 := r3.2.1
   let x5 : Int := x4.1
   let x6 : Int := x4.2.1
   let x7 : List ((Int) × (List (Int)) × Unit) := []
   if (List.length x7 + List.length x0) * 32 ≤ 140737488355328 ∧ List.length x7 + List.length x0 ≤ maxLen then
    let x8 : List ((Int) × (List (Int)) × Unit) := x7 ++ x0
    if (List.length x8 + List.length x1) * 32 ≤ 140737488355328 ∧ List.length x8 + List.length x1 ≤ maxLen then
     let x9 : List ((Int) × (List (Int)) × Unit) := x8 ++ x1
     let j0 : (Bool) × Unit → _ := fun s0 =>
       let x10 := s0.1
       if x10 = true then
        Option.bind (changeforgelaw2_first_16 (())) fun r11 =>
         let x11 := r11.1
         some (x11, ())
       else
        let j0 : Unit → _ := fun s0 =>
          some (false, ())
        loopC (fun (s1 : (Int) × Unit) =>
          let x11 := s1.1
          let x12 : Int := (List.length x3 : Int)
          let x13 : Bool := decide ((x11 : Int) < x12)
          if x13 = true then
           atC x3 x11 fun y14 =>
            let x14 : (Int) × (List (Int)) × Unit := y14
            let x15 : List (Int) := x14.2.1
            atC x9 x2 fun y16 =>
             let x16 : (Int) × (List (Int)) × Unit := y16
             let x17 : List (Int) := x16.2.1
             Option.bind (changeforgeref2_Relation_17 (x15, x17, ())) fun r18 =>
              let x18 := r18.1
              let x19 := r18.2.1
              if x18 = true then
               Option.bind (changeforgelaw2_first_16 (())) fun r20 =>
                let x20 := r20.1
                some (.inr (x20, ()))
              else
               let x20 : Int := IntKind.wrap .i64 (x11 + 1)
               some (.inl (x20, ()))
          else
           Option.map .inr (j0 (())))
          (0, ())
     let x10 : Bool := ((x5 : Int) != 0)
     if x10 = true then
      j0 (true, ())
     else
      let x11 : Bool := decide ((x2 : Int) < 0)
      if x11 = true then
       j0 (true, ())
      else
       let x12 : Int := (List.length x9 : Int)
       let x13 : Bool := decide ((x2 : Int) ≥ x12)
       j0 (x13, ())
    else none
   else none

/- changeforge/changeforgelaw2.MultivalueResolves -/
noncomputable def changeforgelaw2_MultivalueResolves_8 (a : (List ((Int) × (List (Int)) × Unit)) × (List ((Int) × (List (Int)) × Unit)) × (Int) × (Int) × Unit) : Option ((Bool) × Unit) :=
  let x0 := a.1
  let x1 := a.2.1
  let x2 := a.2.2.1
  let x3 := a.2.2.2.1
  Option.bind (multivalue_Merge_11 (x0, x1, ())) fun r4 =>
   let x4 := r4.1
   let x5 := r4.2.1
   let x6 : Int := x5.1
   let x7 : Int := x5.2.1
   Option.bind (multivalue_Write_9 (x4, x2, x3, ())) fun r8 =>
    let x8 := r8.1
    let x9 := r8.2.1
    let x10 : Int := x9.1
    let x11 : Int := x9.2.1
    let j0 : (Bool) × Unit → _ := fun s0 =>
      let x12 := s0.1
      if x12 = true then
       Option.bind (changeforgelaw2_first_16 (())) fun r13 =>
        let x13 := r13.1
        some (x13, ())
      else
       Option.bind (multivalue_Merge_11 (x8, x0, ())) fun r13 =>
        let x13 := r13.1
        let x14 := r13.2.1
        let x15 : Int := x14.1
        let x16 : Int := x14.2.1
        Option.bind (multivalue_Merge_11 (x1, x8, ())) fun r17 =>
         let x17 := r17.1
         let x18 := r17.2.1
         let x19 : Int := x18.1
         let x20 : Int := x18.2.1
         let j0 : (Bool) × Unit → _ := fun s0 =>
           let x21 := s0.1
           some (x21, ())
         let x21 : Bool := ((x15 : Int) == 0)
         if x21 = true then
          let x22 : Bool := ((x19 : Int) == 0)
          if x22 = true then
           Option.bind (changeforgeequal_Values_15 (x13, x8, ())) fun r23 =>
            let x23 := r23.1
            if x23 = true then
             Option.bind (changeforgeequal_Values_15 (x17, x8, ())) fun r24 =>
              let x24 := r24.1
              if x24 = true then
               Option.bind (changeforgelaw2_first_16 (())) fun r25 =>
                let x25 := r25.1
                j0 (x25, ())
              else
               j0 (false, ())
            else
             j0 (false, ())
          else
           j0 (false, ())
         else
          j0 (false, ())
    let x12 : Bool := ((x6 : Int) != 0)
    if x12 = true then
     j0 (true, ())
    else
     let x13 : Bool := ((x10 : Int) != 0)
     j0 (x13, ())

end Go.Proofs.Ytoagphhldhpnmaa.F
end
