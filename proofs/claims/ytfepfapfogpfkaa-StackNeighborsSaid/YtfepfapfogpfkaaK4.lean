/- Texts of ours, put together: GD, GP0, GP1, GP2, GP3, PA, PB, PC, PD, PE, PF. -/
import Derived.Test.YtfepfapfogpfkaaK3
import Derived.Test.YtfepfapfogpfkaaShelf
section
/- What the functions compute, as plain Lean functions: printed by a program of ours. -/
namespace Go.Proofs.Ytfepfapfogpfkaa.F
open Go Go.Proofs.Ytfepfapfogpfkaa.V
set_option maxRecDepth 100000
set_option linter.unusedVariables false

noncomputable def strings_ContainsRune_68 (a : ByteArray × Int × Unit) : Option (Bool × Unit) := if 0 ≤ a.2.1 ∧ a.2.1 < 128 then some (decide (0 ≤ Go.Lib.indexByte a.1.data.toList a.2.1.toNat.toUInt8), ()) else none
/- unicode/utf8.ValidRune -/
noncomputable def utf8_ValidRune_77 (a : (Int) × Unit) : Option ((Bool) × Unit) :=
  let x0 := a.1
  let j0 : (Bool) × Unit → _ := fun s0 =>
    let x1 := s0.1
    if x1 = true then
     some (true, ())
    else
     let j0 : (Bool) × Unit → _ := fun s0 =>
       let x2 := s0.1
       if x2 = true then
        some (true, ())
       else
        some (false, ())
     let x2 : Bool := decide ((57343 : Int) < x0)
     if x2 = true then
      let x3 : Bool := decide ((x0 : Int) ≤ 1114111)
      j0 (x3, ())
     else
      j0 (false, ())
  let x1 : Bool := decide ((0 : Int) ≤ x0)
  if x1 = true then
   let x2 : Bool := decide ((x0 : Int) < 55296)
   j0 (x2, ())
  else
   j0 (false, ())

/- internal/bytealg.Cutover -/
noncomputable def bytealg_Cutover_78 (a : (Int) × Unit) : Option ((Int) × Unit) :=
  let x0 := a.1
  let x1 : Int := IntKind.wrap .i64 (x0 + 16)
  if (8 : Int) ≠ 0 then
   let x2 : Int := IntKind.wrap .i64 (Int.tdiv x1 8)
   some (x2, ())
  else none

/- changeforge/lines.Validate -/
noncomputable def lines_Validate_52 (a : (List (ByteArray)) × Unit) : Option (((Int) × (Int) × Unit) × Unit) :=
  let x0 := a.1
  let x1 : Int := (List.length x0 : Int)
  let x2 : Bool := decide ((x1 : Int) > 120)
  if x2 = true then
   let x3 : (Int) × (Int) × Unit := (2, (-1), ())
   some (x3, ())
  else
   let x3 : Int := (List.length x0 : Int)
   let j0 : Unit → _ := fun s0 =>
     let x4 : (Int) × (Int) × Unit := (0, 0, ())
     some (x4, ())
   loopC (fun (s1 : (Int) × Unit) =>
     let x4 := s1.1
     let x5 : Bool := decide ((x4 : Int) < x3)
     if x5 = true then
      atC x0 x4 fun y6 =>
       let x6 : ByteArray := y6
       let x7 : ByteArray := x6
       let x8 : Int := (ByteArray.size x7 : Int)
       let x9 : Bool := decide ((x8 : Int) > 80)
       if x9 = true then
        let x10 : Int := x4
        let x11 : (Int) × (Int) × Unit := (2, x10, ())
        some (.inr (x11, ()))
       else
        Option.bind (strings_ContainsRune_68 (x7, 10, ())) fun r10 =>
         let x10 := r10.1
         if x10 = true then
          let x11 : Int := x4
          let x12 : (Int) × (Int) × Unit := (5, x11, ())
          some (.inr (x12, ()))
         else
          let x11 : Int := IntKind.wrap .i64 (x4 + 1)
          some (.inl (x11, ()))
     else
      Option.map .inr (j0 (())))
     (0, ())

/- changeforge/lines.Code -/
noncomputable def lines_Code_33 (a : (List (ByteArray)) × Unit) : Option ((Int) × Unit) :=
  let x0 := a.1
  Option.bind (lines_Validate_52 (x0, ())) fun r1 =>
   let x1 := r1.1
   let x2 : Int := x1.1
   some (x2, ())

/- changeforge/textpatch.End -/
noncomputable def textpatch_End_42 (a : ((Int) × (List (ByteArray)) × (List (ByteArray)) × Unit) × Unit) : Option ((Int) × Unit) :=
  let x0 := a.1
  let x1 : Int := x0.1
  let x2 : List (ByteArray) := x0.2.1
  let x3 : List (ByteArray) := x0.2.2.1
  let x4 : Int := (List.length x2 : Int)
  let x5 : Int := IntKind.wrap .i64 (x1 + x4)
  some (x5, ())

/- changeforge/textpatch.hunkCode -/
noncomputable def textpatch_hunkCode_55 (a : ((Int) × (List (ByteArray)) × (List (ByteArray)) × Unit) × (Int) × Unit) : Option ((Int) × Unit) :=
  let x0 := a.1
  let x1 := a.2.1
  let x2 : Int := x0.1
  let x3 : List (ByteArray) := x0.2.1
  let x4 : List (ByteArray) := x0.2.2.1
  let j0 : (Bool) × Unit → _ := fun s0 =>
    let x5 := s0.1
    if x5 = true then
     some (3, ())
    else
     Option.bind (lines_Code_33 (x3, ())) fun r6 =>
      let x6 := r6.1
      let x7 : Bool := ((x6 : Int) != 0)
      if x7 = true then
       Option.bind (lines_Code_33 (x3, ())) fun r8 =>
        let x8 := r8.1
        some (x8, ())
      else
       Option.bind (lines_Code_33 (x4, ())) fun r8 =>
        let x8 := r8.1
        let x9 : Bool := ((x8 : Int) != 0)
        if x9 = true then
         Option.bind (lines_Code_33 (x4, ())) fun r10 =>
          let x10 := r10.1
          some (x10, ())
        else
         let j0 : (Bool) × Unit → _ := fun s0 =>
           let x10 := s0.1
           if x10 = true then
            some (5, ())
           else
            let x11 : (Int) × (List (ByteArray)) × (List (ByteArray)) × Unit := (x2, x3, x4, ())
            Option.bind (textpatch_End_42 (x11, ())) fun r12 =>
             let x12 := r12.1
             let x13 : Bool := decide ((x12 : Int) > 120)
             if x13 = true then
              some (3, ())
             else
              some (0, ())
         let x10 : Int := (List.length x3 : Int)
         let x11 : Bool := ((x10 : Int) == 0)
         if x11 = true then
          let x12 : Int := (List.length x4 : Int)
          let x13 : Bool := ((x12 : Int) == 0)
          if x13 = true then
           j0 (true, ())
          else
           let x14 : Bool := decide ((x2 : Int) < x1)
           j0 (x14, ())
         else
          let x12 : Bool := decide ((x2 : Int) < x1)
          j0 (x12, ())
  let x5 : Bool := decide ((x2 : Int) < 0)
  if x5 = true then
   j0 (true, ())
  else
   let x6 : Bool := decide ((x2 : Int) > 120)
   j0 (x6, ())

/- changeforge/textpatch.Validate -/
noncomputable def textpatch_Validate_41 (a : ((List ((Int) × (List (ByteArray)) × (List (ByteArray)) × Unit)) × Unit) × Unit) : Option (((Int) × (Int) × Unit) × Unit) :=
  let x0 := a.1
  let x1 : List ((Int) × (List (ByteArray)) × (List (ByteArray)) × Unit) := x0.1
  let x2 : Int := (List.length x1 : Int)
  let x3 : Bool := decide ((x2 : Int) > 130)
  if x3 = true then
   let x4 : (Int) × (Int) × Unit := (2, (-1), ())
   some (x4, ())
  else
   let x4 : Int := (List.length x1 : Int)
   let j0 : Unit → _ := fun s0 =>
     let x5 : (Int) × (Int) × Unit := (0, 0, ())
     some (x5, ())
   loopC (fun (s1 : (Int) × (Int) × Unit) =>
     let x5 := s1.1
     let x6 := s1.2.1
     let x7 : Bool := decide ((x6 : Int) < x4)
     if x7 = true then
      atC x1 x6 fun y8 =>
       let x8 : (Int) × (List (ByteArray)) × (List (ByteArray)) × Unit := y8
       let x9 : (Int) × (List (ByteArray)) × (List (ByteArray)) × Unit := (x8.1, x8.2.1, x8.2.2.1, ())
       let x10 : Int := x9.1
       let x11 : List (ByteArray) := x9.2.1
       let x12 : List (ByteArray) := x9.2.2.1
       let x13 : (Int) × (List (ByteArray)) × (List (ByteArray)) × Unit := (x10, x11, x12, ())
       Option.bind (textpatch_hunkCode_55 (x13, x5, ())) fun r14 =>
        let x14 := r14.1
        let x15 : Bool := ((x14 : Int) != 0)
        if x15 = true then
         let x16 : Int := x14
         let x17 : Int := x6
         let x18 : (Int) × (Int) × Unit := (x16, x17, ())
         some (.inr (x18, ()))
        else
         let x16 : (Int) × (List (ByteArray)) × (List (ByteArray)) × Unit := (x10, x11, x12, ())
         Option.bind (textpatch_End_42 (x16, ())) fun r17 =>
          let x17 := r17.1
          let x18 : Int := IntKind.wrap .i64 (x17 + 1)
          let x19 : Int := IntKind.wrap .i64 (x6 + 1)
          some (.inl (x18, x19, ()))
     else
      Option.map .inr (j0 (())))
     (0, 0, ())

/- changeforge/stack.Validate -/
noncomputable def stack_Validate_23 (a : (List ((List ((Int) × (List (ByteArray)) × (List (ByteArray)) × Unit)) × Unit)) × Unit) : Option (((Int) × (Int) × Unit) × Unit) :=
  let x0 := a.1
  let x1 : Int := (List.length x0 : Int)
  let x2 : Bool := decide ((x1 : Int) > 12)
  if x2 = true then
   let x3 : (Int) × (Int) × Unit := (2, (-1), ())
   some (x3, ())
  else
   let x3 : Int := (List.length x0 : Int)
   let j0 : Unit → _ := fun s0 =>
     let x4 : (Int) × (Int) × Unit := (0, 0, ())
     some (x4, ())
   loopC (fun (s1 : (Int) × Unit) =>
     let x4 := s1.1
     let x5 : Bool := decide ((x4 : Int) < x3)
     if x5 = true then
      atC x0 x4 fun y6 =>
       let x6 : (List ((Int) × (List (ByteArray)) × (List (ByteArray)) × Unit)) × Unit := y6
       let x7 : (List ((Int) × (List (ByteArray)) × (List (ByteArray)) × Unit)) × Unit := (x6.1, ())
       let x8 : List ((Int) × (List (ByteArray)) × (List (ByteArray)) × Unit) := x7.1
       let x9 : (List ((Int) × (List (ByteArray)) × (List (ByteArray)) × Unit)) × Unit := (x8, ())
       Option.bind (textpatch_Validate_41 (x9, ())) fun r10 =>
        let x10 := r10.1
        let x11 : Int := x10.1
        let x12 : Int := x10.2.1
        let x13 : (Int) × (Int) × Unit := (x11, x12, ())
        let x14 : (Int) × (Int) × Unit := (0, 0, ())
        let x15 : Bool := (!((x13.1 : Int) == x14.1 && ((x13.2.1 : Int) == x14.2.1 && true)))
        if x15 = true then
         let x16 : Int := x11
         let x17 : Int := x4
         let x18 : (Int) × (Int) × Unit := (x16, x17, ())
         some (.inr (x18, ()))
        else
         let x16 : Int := IntKind.wrap .i64 (x4 + 1)
         some (.inl (x16, ()))
     else
      Option.map .inr (j0 (())))
     (0, ())

/- changeforge/stack.position -/
noncomputable def stack_position_24 (a : (List ((List ((Int) × (List (ByteArray)) × (List (ByteArray)) × Unit)) × Unit)) × (Int) × (Int) × Unit) : Option (((Int) × (Int) × Unit) × Unit) :=
  let x0 := a.1
  let x1 := a.2.1
  let x2 := a.2.2.1
  let j0 : (Bool) × Unit → _ := fun s0 =>
    let x3 := s0.1
    if x3 = true then
     let x4 : Int := x2
     let x5 : (Int) × (Int) × Unit := (3, x4, ())
     some (x5, ())
    else
     let x4 : (Int) × (Int) × Unit := (0, 0, ())
     some (x4, ())
  let x3 : Bool := decide ((x1 : Int) < 0)
  if x3 = true then
   j0 (true, ())
  else
   let x4 : Int := (List.length x0 : Int)
   let x5 : Bool := decide ((x1 : Int) ≥ x4)
   j0 (x5, ())

/- slices.Clone[[]string,string] -/
noncomputable def slices_Clone___string_string__34 (a : (List (ByteArray)) × Unit) : Option ((List (ByteArray)) × Unit) :=
  let x0 := a.1
  nilC x0 fun x1 =>
   if x1 = true then
    some (([] : List (ByteArray)), ())
   else
    let x2 : List (ByteArray) := []
    if (List.length x2 + List.length x0) * 16 ≤ 140737488355328 ∧ List.length x2 + List.length x0 ≤ maxLen then
     let x3 : List (ByteArray) := x2 ++ x0
     some (x3, ())
    else none

/- changeforge/textpatch.Moved -/
noncomputable def textpatch_Moved_49 (a : ((Int) × (List (ByteArray)) × (List (ByteArray)) × Unit) × (Int) × Unit) : Option (((Int) × (List (ByteArray)) × (List (ByteArray)) × Unit) × Unit) :=
  let x0 := a.1
  let x1 := a.2.1
  let x2 : Int := x0.1
  let x3 : List (ByteArray) := x0.2.1
  let x4 : List (ByteArray) := x0.2.2.1
  Option.bind (slices_Clone___string_string__34 (x3, ())) fun r5 =>
   let x5 := r5.1
   Option.bind (slices_Clone___string_string__34 (x4, ())) fun r6 =>
    let x6 := r6.1
    let x7 : Int := x1
    let x8 : List (ByteArray) := x5
    let x9 : List (ByteArray) := x6
    let x10 : (Int) × (List (ByteArray)) × (List (ByteArray)) × Unit := (x7, x8, x9, ())
    some (x10, ())

/- changeforge/stack.clone -/
noncomputable def stack_clone_25 (a : (List ((List ((Int) × (List (ByteArray)) × (List (ByteArray)) × Unit)) × Unit)) × Unit) : Option ((List ((List ((Int) × (List (ByteArray)) × (List (ByteArray)) × Unit)) × Unit)) × Unit) :=
  let x0 := a.1
  let x1 : Int := (List.length x0 : Int)
  let j0 : (List ((List ((Int) × (List (ByteArray)) × (List (ByteArray)) × Unit)) × Unit)) × Unit → _ := fun s0 =>
    let x2 := s0.1
    some (x2, ())
  loopC (fun (s1 : (List ((List ((Int) × (List (ByteArray)) × (List (ByteArray)) × Unit)) × Unit)) × (Int) × Unit) =>
    let x2 := s1.1
    let x3 := s1.2.1
    let x4 : Bool := decide ((x3 : Int) < x1)
    if x4 = true then
     atC x0 x3 fun y5 =>
      let x5 : (List ((Int) × (List (ByteArray)) × (List (ByteArray)) × Unit)) × Unit := y5
      let x6 : (List ((Int) × (List (ByteArray)) × (List (ByteArray)) × Unit)) × Unit := (x5.1, ())
      let x7 : List ((Int) × (List (ByteArray)) × (List (ByteArray)) × Unit) := x6.1
      let x8 : Int := (List.length x7 : Int)
      let j2 : (List ((List ((Int) × (List (ByteArray)) × (List (ByteArray)) × Unit)) × Unit)) × (Int) × (List ((Int) × (List (ByteArray)) × (List (ByteArray)) × Unit)) × Unit → _ := fun s2 =>
        let x9 := s2.1
        let x10 := s2.2.1
        let x11 := s2.2.2.1
        let x12 : (List ((Int) × (List (ByteArray)) × (List (ByteArray)) × Unit)) × Unit := (x11, ())
        let x13 : List ((List ((Int) × (List (ByteArray)) × (List (ByteArray)) × Unit)) × Unit) := [x12]
        if (List.length x9 + List.length x13) * 24 ≤ 140737488355328 ∧ List.length x9 + List.length x13 ≤ maxLen then
         let x14 : List ((List ((Int) × (List (ByteArray)) × (List (ByteArray)) × Unit)) × Unit) := x9 ++ x13
         let x15 : Int := IntKind.wrap .i64 (x10 + 1)
         some (.inl (x14, x15, ()))
        else none
      loopC (fun (s3 : (List ((List ((Int) × (List (ByteArray)) × (List (ByteArray)) × Unit)) × Unit)) × (Int) × (List ((Int) × (List (ByteArray)) × (List (ByteArray)) × Unit)) × (Int) × (Int) × (List ((Int) × (List (ByteArray)) × (List (ByteArray)) × Unit)) × Unit) =>
        let x9 := s3.1
        let x10 := s3.2.1
        let x11 := s3.2.2.1
        let x12 := s3.2.2.2.1
        let x13 := s3.2.2.2.2.1
        let x14 := s3.2.2.2.2.2.1
        let x15 : Bool := decide ((x13 : Int) < x12)
        if x15 = true then
         atC x11 x13 fun y16 =>
          let x16 : (Int) × (List (ByteArray)) × (List (ByteArray)) × Unit := y16
          let x17 : (Int) × (List (ByteArray)) × (List (ByteArray)) × Unit := (x16.1, x16.2.1, x16.2.2.1, ())
          let x18 : Int := x17.1
          let x19 : List (ByteArray) := x17.2.1
          let x20 : List (ByteArray) := x17.2.2.1
          let x21 : (Int) × (List (ByteArray)) × (List (ByteArray)) × Unit := (x18, x19, x20, ())
          Option.bind (textpatch_Moved_49 (x21, x18, ())) fun r22 =>
           let x22 := r22.1
           let x23 : List ((Int) × (List (ByteArray)) × (List (ByteArray)) × Unit) := [x22]
           if (List.length x14 + List.length x23) * 56 ≤ 140737488355328 ∧ List.length x14 + List.length x23 ≤ maxLen then
            let x24 : List ((Int) × (List (ByteArray)) × (List (ByteArray)) × Unit) := x14 ++ x23
            let x25 : Int := IntKind.wrap .i64 (x13 + 1)
            some (.inl (x9, x10, x11, x12, x25, x24, ()))
           else none
        else
         Option.map .inr (j2 (x9, x10, x14, ())))
        (x2, x3, x7, x8, 0, ([] : List ((Int) × (List (ByteArray)) × (List (ByteArray)) × Unit)), ())
    else
     Option.map .inr (j0 (x2, ())))
    (([] : List ((List ((Int) × (List (ByteArray)) × (List (ByteArray)) × Unit)) × Unit)), 0, ())

/- changeforge/commute.check -/
noncomputable def commute_check_35 (a : ((List ((Int) × (List (ByteArray)) × (List (ByteArray)) × Unit)) × Unit) × ((List ((Int) × (List (ByteArray)) × (List (ByteArray)) × Unit)) × Unit) × Unit) : Option (((Int) × (Int) × Unit) × Unit) :=
  let x0 := a.1
  let x1 := a.2.1
  let x2 : List ((Int) × (List (ByteArray)) × (List (ByteArray)) × Unit) := x0.1
  let x3 : List ((Int) × (List (ByteArray)) × (List (ByteArray)) × Unit) := x1.1
  let x4 : (List ((Int) × (List (ByteArray)) × (List (ByteArray)) × Unit)) × Unit := (x2, ())
  Option.bind (textpatch_Validate_41 (x4, ())) fun r5 =>
   let x5 := r5.1
   let x6 : Int := x5.1
   let x7 : Int := x5.2.1
   let x8 : (Int) × (Int) × Unit := (x6, x7, ())
   let x9 : (Int) × (Int) × Unit := (0, 0, ())
   let x10 : Bool := (!((x8.1 : Int) == x9.1 && ((x8.2.1 : Int) == x9.2.1 && true)))
   if x10 = true then
    let x11 : (Int) × (Int) × Unit := (x6, x7, ())
    some (x11, ())
   else
    let x11 : (List ((Int) × (List (ByteArray)) × (List (ByteArray)) × Unit)) × Unit := (x3, ())
    Option.bind (textpatch_Validate_41 (x11, ())) fun r12 =>
     let x12 := r12.1
     let x13 : Int := x12.1
     let x14 : Int := x12.2.1
     let x15 : (Int) × (Int) × Unit := (x13, x14, ())
     let x16 : (Int) × (Int) × Unit := (0, 0, ())
     let x17 : Bool := (!((x15.1 : Int) == x16.1 && ((x15.2.1 : Int) == x16.2.1 && true)))
     if x17 = true then
      let x18 : Int := x13
      let x19 : (Int) × (Int) × Unit := (x18, (-2), ())
      some (x19, ())
     else
      let x18 : (Int) × (Int) × Unit := (0, 0, ())
      some (x18, ())

/- changeforge/commute.news -/
noncomputable def commute_news_37 (a : ((List ((Int) × (List (ByteArray)) × (List (ByteArray)) × Unit)) × Unit) × Unit) : Option ((List ((Int) × (Int) × Unit)) × Unit) :=
  let x0 := a.1
  let x1 : List ((Int) × (List (ByteArray)) × (List (ByteArray)) × Unit) := x0.1
  let x2 : Int := (List.length x1 : Int)
  let j0 : (List ((Int) × (Int) × Unit)) × Unit → _ := fun s0 =>
    let x3 := s0.1
    some (x3, ())
  loopC (fun (s1 : (List ((Int) × (Int) × Unit)) × (Int) × (Int) × Unit) =>
    let x3 := s1.1
    let x4 := s1.2.1
    let x5 := s1.2.2.1
    let x6 : Bool := decide ((x5 : Int) < x2)
    if x6 = true then
     atC x1 x5 fun y7 =>
      let x7 : (Int) × (List (ByteArray)) × (List (ByteArray)) × Unit := y7
      let x8 : (Int) × (List (ByteArray)) × (List (ByteArray)) × Unit := (x7.1, x7.2.1, x7.2.2.1, ())
      let x9 : Int := x8.1
      let x10 : List (ByteArray) := x8.2.1
      let x11 : List (ByteArray) := x8.2.2.1
      let x12 : Int := IntKind.wrap .i64 (x9 + x4)
      let x13 : Int := IntKind.wrap .i64 (x9 + x4)
      let x14 : Int := (List.length x11 : Int)
      let x15 : Int := IntKind.wrap .i64 (x13 + x14)
      let x16 : Int := x12
      let x17 : Int := x15
      let x18 : (Int) × (Int) × Unit := (x16, x17, ())
      let x19 : List ((Int) × (Int) × Unit) := [x18]
      if (List.length x3 + List.length x19) * 16 ≤ 140737488355328 ∧ List.length x3 + List.length x19 ≤ maxLen then
       let x20 : List ((Int) × (Int) × Unit) := x3 ++ x19
       let x21 : Int := (List.length x11 : Int)
       let x22 : Int := (List.length x10 : Int)
       let x23 : Int := IntKind.wrap .i64 (x21 - x22)
       let x24 : Int := IntKind.wrap .i64 (x4 + x23)
       let x25 : Int := IntKind.wrap .i64 (x5 + 1)
       some (.inl (x20, x24, x25, ()))
      else none
    else
     Option.map .inr (j0 (x3, ())))
    (([] : List ((Int) × (Int) × Unit)), 0, 0, ())

/- changeforge/commute.olds -/
noncomputable def commute_olds_38 (a : ((List ((Int) × (List (ByteArray)) × (List (ByteArray)) × Unit)) × Unit) × Unit) : Option ((List ((Int) × (Int) × Unit)) × Unit) :=
  let x0 := a.1
  let x1 : List ((Int) × (List (ByteArray)) × (List (ByteArray)) × Unit) := x0.1
  let x2 : Int := (List.length x1 : Int)
  let j0 : (List ((Int) × (Int) × Unit)) × Unit → _ := fun s0 =>
    let x3 := s0.1
    some (x3, ())
  loopC (fun (s1 : (List ((Int) × (Int) × Unit)) × (Int) × Unit) =>
    let x3 := s1.1
    let x4 := s1.2.1
    let x5 : Bool := decide ((x4 : Int) < x2)
    if x5 = true then
     atC x1 x4 fun y6 =>
      let x6 : (Int) × (List (ByteArray)) × (List (ByteArray)) × Unit := y6
      let x7 : (Int) × (List (ByteArray)) × (List (ByteArray)) × Unit := (x6.1, x6.2.1, x6.2.2.1, ())
      let x8 : Int := x7.1
      let x9 : List (ByteArray) := x7.2.1
      let x10 : List (ByteArray) := x7.2.2.1
      let x11 : (Int) × (List (ByteArray)) × (List (ByteArray)) × Unit := (x8, x9, x10, ())
      Option.bind (textpatch_End_42 (x11, ())) fun r12 =>
       let x12 := r12.1
       let x13 : Int := x8
       let x14 : Int := x12
       let x15 : (Int) × (Int) × Unit := (x13, x14, ())
       let x16 : List ((Int) × (Int) × Unit) := [x15]
       if (List.length x3 + List.length x16) * 16 ≤ 140737488355328 ∧ List.length x3 + List.length x16 ≤ maxLen then
        let x17 : List ((Int) × (Int) × Unit) := x3 ++ x16
        let x18 : Int := IntKind.wrap .i64 (x4 + 1)
        some (.inl (x17, x18, ()))
       else none
    else
     Option.map .inr (j0 (x3, ())))
    (([] : List ((Int) × (Int) × Unit)), 0, ())

/- changeforge/commute.apart -/
noncomputable def commute_apart_53 (a : ((Int) × (Int) × Unit) × ((Int) × (Int) × Unit) × Unit) : Option ((Bool) × Unit) :=
  let x0 := a.1
  let x1 := a.2.1
  let x2 : Int := x0.1
  let x3 : Int := x0.2.1
  let x4 : Int := x1.1
  let x5 : Int := x1.2.1
  let j0 : (Bool) × Unit → _ := fun s0 =>
    let x6 := s0.1
    some (x6, ())
  let x6 : Bool := decide ((x3 : Int) < x4)
  if x6 = true then
   j0 (true, ())
  else
   let x7 : Bool := decide ((x5 : Int) < x2)
   j0 (x7, ())

/- changeforge/commute.independent -/
noncomputable def commute_independent_36 (a : (List ((Int) × (Int) × Unit)) × (List ((Int) × (Int) × Unit)) × Unit) : Option ((Bool) × Unit) :=
  let x0 := a.1
  let x1 := a.2.1
  let x2 : Int := (List.length x0 : Int)
  let j0 : Unit → _ := fun s0 =>
    some (true, ())
  loopC (fun (s1 : (Int) × Unit) =>
    let x3 := s1.1
    let x4 : Bool := decide ((x3 : Int) < x2)
    if x4 = true then
     let j2 : (Int) × Unit → _ := fun s2 =>
       let x5 := s2.1
       let x6 : Int := IntKind.wrap .i64 (x5 + 1)
       some (.inl (x6, ()))
     atC x0 x3 fun y5 =>
      let x5 : (Int) × (Int) × Unit := y5
      let x6 : (Int) × (Int) × Unit := (x5.1, x5.2.1, ())
      let x7 : Int := x6.1
      let x8 : Int := x6.2.1
      let x9 : Int := (List.length x1 : Int)
      let j3 : (Int) × Unit → _ := fun s3 =>
        let x10 := s3.1
        j2 (x10, ())
      loopC (fun (s4 : (Int) × (Int) × (Int) × (Int) × (Int) × Unit) =>
        let x10 := s4.1
        let x11 := s4.2.1
        let x12 := s4.2.2.1
        let x13 := s4.2.2.2.1
        let x14 := s4.2.2.2.2.1
        let x15 : Bool := decide ((x12 : Int) < x11)
        if x15 = true then
         atC x1 x12 fun y16 =>
          let x16 : (Int) × (Int) × Unit := y16
          let x17 : (Int) × (Int) × Unit := (x16.1, x16.2.1, ())
          let x18 : Int := x17.1
          let x19 : Int := x17.2.1
          let x20 : (Int) × (Int) × Unit := (x13, x14, ())
          let x21 : (Int) × (Int) × Unit := (x18, x19, ())
          Option.bind (commute_apart_53 (x20, x21, ())) fun r22 =>
           let x22 := r22.1
           let x23 : Bool := (!x22)
           if x23 = true then
            some (.inr (.inr (false, ())))
           else
            let x24 : Int := IntKind.wrap .i64 (x12 + 1)
            some (.inl (x10, x11, x24, x13, x14, ()))
        else
         Option.map .inr (j3 (x10, ())))
        (x3, x9, 0, x7, x8, ())
    else
     Option.map .inr (j0 (())))
    (0, ())

/- changeforge/commute.growth -/
noncomputable def commute_growth_54 (a : ((List ((Int) × (List (ByteArray)) × (List (ByteArray)) × Unit)) × Unit) × (List ((Int) × (Int) × Unit)) × (Int) × Unit) : Option ((Int) × Unit) :=
  let x0 := a.1
  let x1 := a.2.1
  let x2 := a.2.2.1
  let x3 : List ((Int) × (List (ByteArray)) × (List (ByteArray)) × Unit) := x0.1
  let x4 : Int := (List.length x3 : Int)
  let j0 : (Int) × Unit → _ := fun s0 =>
    let x5 := s0.1
    some (x5, ())
  loopC (fun (s1 : (Int) × (Int) × Unit) =>
    let x5 := s1.1
    let x6 := s1.2.1
    let x7 : Bool := decide ((x6 : Int) < x4)
    if x7 = true then
     let j2 : (Int) × (Int) × Unit → _ := fun s2 =>
       let x8 := s2.1
       let x9 := s2.2.1
       let x10 : Int := IntKind.wrap .i64 (x9 + 1)
       some (.inl (x8, x10, ()))
     atC x3 x6 fun y8 =>
      let x8 : (Int) × (List (ByteArray)) × (List (ByteArray)) × Unit := y8
      let x9 : (Int) × (List (ByteArray)) × (List (ByteArray)) × Unit := (x8.1, x8.2.1, x8.2.2.1, ())
      let x10 : Int := x9.1
      let x11 : List (ByteArray) := x9.2.1
      let x12 : List (ByteArray) := x9.2.2.1
      atC x1 x6 fun y13 =>
       let x13 : (Int) × (Int) × Unit := y13
       let x14 : Int := x13.2.1
       let x15 : Bool := decide ((x14 : Int) < x2)
       let j3 : (Int) × (Int) × Unit → _ := fun s3 =>
         let x16 := s3.1
         let x17 := s3.2.1
         j2 (x16, x17, ())
       if x15 = true then
        let x16 : Int := (List.length x12 : Int)
        let x17 : Int := (List.length x11 : Int)
        let x18 : Int := IntKind.wrap .i64 (x16 - x17)
        let x19 : Int := IntKind.wrap .i64 (x5 + x18)
        j3 (x19, x6, ())
       else
        j3 (x5, x6, ())
    else
     Option.map .inr (j0 (x5, ())))
    (0, 0, ())

/- changeforge/commute.shifted -/
noncomputable def commute_shifted_40 (a : ((List ((Int) × (List (ByteArray)) × (List (ByteArray)) × Unit)) × Unit) × ((List ((Int) × (List (ByteArray)) × (List (ByteArray)) × Unit)) × Unit) × (List ((Int) × (Int) × Unit)) × (Int) × Unit) : Option (((List ((Int) × (List (ByteArray)) × (List (ByteArray)) × Unit)) × Unit) × Unit) :=
  let x0 := a.1
  let x1 := a.2.1
  let x2 := a.2.2.1
  let x3 := a.2.2.2.1
  let x4 : List ((Int) × (List (ByteArray)) × (List (ByteArray)) × Unit) := x0.1
  let x5 : List ((Int) × (List (ByteArray)) × (List (ByteArray)) × Unit) := x1.1
  let x6 : Int := (List.length x4 : Int)
  let j0 : (List ((Int) × (List (ByteArray)) × (List (ByteArray)) × Unit)) × Unit → _ := fun s0 =>
    let x7 := s0.1
    let x8 : (List ((Int) × (List (ByteArray)) × (List (ByteArray)) × Unit)) × Unit := (x7, ())
    some (x8, ())
  loopC (fun (s1 : (Int) × (List ((Int) × (List (ByteArray)) × (List (ByteArray)) × Unit)) × Unit) =>
    let x7 := s1.1
    let x8 := s1.2.1
    let x9 : Bool := decide ((x7 : Int) < x6)
    if x9 = true then
     atC x4 x7 fun y10 =>
      let x10 : (Int) × (List (ByteArray)) × (List (ByteArray)) × Unit := y10
      let x11 : (Int) × (List (ByteArray)) × (List (ByteArray)) × Unit := (x10.1, x10.2.1, x10.2.2.1, ())
      let x12 : Int := x11.1
      let x13 : List (ByteArray) := x11.2.1
      let x14 : List (ByteArray) := x11.2.2.1
      let x15 : (List ((Int) × (List (ByteArray)) × (List (ByteArray)) × Unit)) × Unit := (x5, ())
      Option.bind (commute_growth_54 (x15, x2, x12, ())) fun r16 =>
       let x16 := r16.1
       let x17 : Int := IntKind.wrap .i64 (x3 * x16)
       let x18 : Int := IntKind.wrap .i64 (x12 + x17)
       let x19 : (Int) × (List (ByteArray)) × (List (ByteArray)) × Unit := (x12, x13, x14, ())
       Option.bind (textpatch_Moved_49 (x19, x18, ())) fun r20 =>
        let x20 := r20.1
        let x21 : List ((Int) × (List (ByteArray)) × (List (ByteArray)) × Unit) := [x20]
        if (List.length x8 + List.length x21) * 56 ≤ 140737488355328 ∧ List.length x8 + List.length x21 ≤ maxLen then
         let x22 : List ((Int) × (List (ByteArray)) × (List (ByteArray)) × Unit) := x8 ++ x21
         let x23 : Int := IntKind.wrap .i64 (x7 + 1)
         some (.inl (x23, x22, ()))
        else none
    else
     Option.map .inr (j0 (x8, ())))
    (0, ([] : List ((Int) × (List (ByteArray)) × (List (ByteArray)) × Unit)), ())

/- changeforge/textpatch.Fit -/
noncomputable def textpatch_Fit_39 (a : ((List ((Int) × (List (ByteArray)) × (List (ByteArray)) × Unit)) × Unit) × Unit) : Option (((List ((Int) × (List (ByteArray)) × (List (ByteArray)) × Unit)) × Unit) × ((Int) × (Int) × Unit) × Unit) :=
  let x0 := a.1
  let x1 : List ((Int) × (List (ByteArray)) × (List (ByteArray)) × Unit) := x0.1
  let x2 : (List ((Int) × (List (ByteArray)) × (List (ByteArray)) × Unit)) × Unit := (x1, ())
  Option.bind (textpatch_Validate_41 (x2, ())) fun r3 =>
   let x3 := r3.1
   let x4 : (Int) × (Int) × Unit := (0, 0, ())
   let x5 : Bool := (!((x3.1 : Int) == x4.1 && ((x3.2.1 : Int) == x4.2.1 && true)))
   if x5 = true then
    let x6 : (List ((Int) × (List (ByteArray)) × (List (ByteArray)) × Unit)) × Unit := (([] : List ((Int) × (List (ByteArray)) × (List (ByteArray)) × Unit)), ())
    let x7 : (Int) × (Int) × Unit := (10, (-1), ())
    some (x6, x7, ())
   else
    let x6 : (List ((Int) × (List (ByteArray)) × (List (ByteArray)) × Unit)) × Unit := (x1, ())
    let x7 : (Int) × (Int) × Unit := (0, 0, ())
    some (x6, x7, ())

/- changeforge/commute.Commute -/
noncomputable def commute_Commute_18 (a : ((List ((Int) × (List (ByteArray)) × (List (ByteArray)) × Unit)) × Unit) × ((List ((Int) × (List (ByteArray)) × (List (ByteArray)) × Unit)) × Unit) × Unit) : Option (((List ((Int) × (List (ByteArray)) × (List (ByteArray)) × Unit)) × Unit) × ((List ((Int) × (List (ByteArray)) × (List (ByteArray)) × Unit)) × Unit) × (Bool) × ((Int) × (Int) × Unit) × Unit) :=
  let x0 := a.1
  let x1 := a.2.1
  let x2 : List ((Int) × (List (ByteArray)) × (List (ByteArray)) × Unit) := x0.1
  let x3 : List ((Int) × (List (ByteArray)) × (List (ByteArray)) × Unit) := x1.1
  let x4 : (List ((Int) × (List (ByteArray)) × (List (ByteArray)) × Unit)) × Unit := (x2, ())
  let x5 : (List ((Int) × (List (ByteArray)) × (List (ByteArray)) × Unit)) × Unit := (x3, ())
  Option.bind (commute_check_35 (x4, x5, ())) fun r6 =>
   let x6 := r6.1
   let x7 : Int := x6.1
   let x8 : Int := x6.2.1
   let x9 : (Int) × (Int) × Unit := (x7, x8, ())
   let x10 : (Int) × (Int) × Unit := (0, 0, ())
   let x11 : Bool := (!((x9.1 : Int) == x10.1 && ((x9.2.1 : Int) == x10.2.1 && true)))
   if x11 = true then
    let x12 : (List ((Int) × (List (ByteArray)) × (List (ByteArray)) × Unit)) × Unit := (([] : List ((Int) × (List (ByteArray)) × (List (ByteArray)) × Unit)), ())
    let x13 : (List ((Int) × (List (ByteArray)) × (List (ByteArray)) × Unit)) × Unit := (([] : List ((Int) × (List (ByteArray)) × (List (ByteArray)) × Unit)), ())
    let x14 : (Int) × (Int) × Unit := (x7, x8, ())
    some (x12, x13, false, x14, ())
   else
    let x12 : (List ((Int) × (List (ByteArray)) × (List (ByteArray)) × Unit)) × Unit := (x2, ())
    Option.bind (commute_news_37 (x12, ())) fun r13 =>
     let x13 := r13.1
     let x14 : (List ((Int) × (List (ByteArray)) × (List (ByteArray)) × Unit)) × Unit := (x3, ())
     Option.bind (commute_olds_38 (x14, ())) fun r15 =>
      let x15 := r15.1
      Option.bind (commute_independent_36 (x13, x15, ())) fun r16 =>
       let x16 := r16.1
       let x17 : Bool := (!x16)
       if x17 = true then
        let x18 : (List ((Int) × (List (ByteArray)) × (List (ByteArray)) × Unit)) × Unit := (([] : List ((Int) × (List (ByteArray)) × (List (ByteArray)) × Unit)), ())
        let x19 : (List ((Int) × (List (ByteArray)) × (List (ByteArray)) × Unit)) × Unit := (([] : List ((Int) × (List (ByteArray)) × (List (ByteArray)) × Unit)), ())
        let x20 : (Int) × (Int) × Unit := (0, 0, ())
        some (x18, x19, false, x20, ())
       else
        let x18 : (List ((Int) × (List (ByteArray)) × (List (ByteArray)) × Unit)) × Unit := (x2, ())
        Option.bind (commute_news_37 (x18, ())) fun r19 =>
         let x19 := r19.1
         let x20 : (List ((Int) × (List (ByteArray)) × (List (ByteArray)) × Unit)) × Unit := (x3, ())
         let x21 : (List ((Int) × (List (ByteArray)) × (List (ByteArray)) × Unit)) × Unit := (x2, ())
         Option.bind (commute_shifted_40 (x20, x21, x19, (-1), ())) fun r22 =>
          let x22 := r22.1
          Option.bind (textpatch_Fit_39 (x22, ())) fun r23 =>
           let x23 := r23.1
           let x24 := r23.2.1
           let x25 : List ((Int) × (List (ByteArray)) × (List (ByteArray)) × Unit) := x23.1
           let x26 : Int := x24.1
           let x27 : Int := x24.2.1
           let x28 : (Int) × (Int) × Unit := (x26, x27, ())
           let x29 : (Int) × (Int) × Unit := (0, 0, ())
           let x30 : Bool := (!((x28.1 : Int) == x29.1 && ((x28.2.1 : Int) == x29.2.1 && true)))
           if x30 = true then
            let x31 : (List ((Int) × (List (ByteArray)) × (List (ByteArray)) × Unit)) × Unit := (([] : List ((Int) × (List (ByteArray)) × (List (ByteArray)) × Unit)), ())
            let x32 : (List ((Int) × (List (ByteArray)) × (List (ByteArray)) × Unit)) × Unit := (([] : List ((Int) × (List (ByteArray)) × (List (ByteArray)) × Unit)), ())
            let x33 : (Int) × (Int) × Unit := (x26, x27, ())
            some (x31, x32, false, x33, ())
           else
            let x31 : (List ((Int) × (List (ByteArray)) × (List (ByteArray)) × Unit)) × Unit := (x25, ())
            Option.bind (commute_olds_38 (x31, ())) fun r32 =>
             let x32 := r32.1
             let x33 : (List ((Int) × (List (ByteArray)) × (List (ByteArray)) × Unit)) × Unit := (x2, ())
             let x34 : (List ((Int) × (List (ByteArray)) × (List (ByteArray)) × Unit)) × Unit := (x25, ())
             Option.bind (commute_shifted_40 (x33, x34, x32, 1, ())) fun r35 =>
              let x35 := r35.1
              Option.bind (textpatch_Fit_39 (x35, ())) fun r36 =>
               let x36 := r36.1
               let x37 := r36.2.1
               let x38 : List ((Int) × (List (ByteArray)) × (List (ByteArray)) × Unit) := x36.1
               let x39 : Int := x37.1
               let x40 : Int := x37.2.1
               let x41 : (Int) × (Int) × Unit := (x39, x40, ())
               let x42 : (Int) × (Int) × Unit := (0, 0, ())
               let x43 : Bool := (!((x41.1 : Int) == x42.1 && ((x41.2.1 : Int) == x42.2.1 && true)))
               if x43 = true then
                let x44 : (List ((Int) × (List (ByteArray)) × (List (ByteArray)) × Unit)) × Unit := (([] : List ((Int) × (List (ByteArray)) × (List (ByteArray)) × Unit)), ())
                let x45 : (List ((Int) × (List (ByteArray)) × (List (ByteArray)) × Unit)) × Unit := (([] : List ((Int) × (List (ByteArray)) × (List (ByteArray)) × Unit)), ())
                let x46 : (Int) × (Int) × Unit := (x39, x40, ())
                some (x44, x45, false, x46, ())
               else
                let x44 : (List ((Int) × (List (ByteArray)) × (List (ByteArray)) × Unit)) × Unit := (x25, ())
                let x45 : (List ((Int) × (List (ByteArray)) × (List (ByteArray)) × Unit)) × Unit := (x38, ())
                let x46 : (Int) × (Int) × Unit := (0, 0, ())
                some (x44, x45, true, x46, ())

/- changeforge/stack.swap -/
noncomputable def stack_swap_26 (a : (List ((List ((Int) × (List (ByteArray)) × (List (ByteArray)) × Unit)) × Unit)) × (Int) × Unit) : Option ((Bool) × ((Int) × (Int) × Unit) × (List ((List ((Int) × (List (ByteArray)) × (List (ByteArray)) × Unit)) × Unit)) × Unit) :=
  let x0 := a.1
  let x1 := a.2.1
  Option.bind (
  if 0 ≤ (x1 : Int) ∧ x1 < ((List.length x0) : Int) then
   let x2 : Int := (x1 : Int)
   atC x0 x2 fun y3 =>
    let x3 : (List ((Int) × (List (ByteArray)) × (List (ByteArray)) × Unit)) × Unit := (y3.1, ())
    let x4 : Int := IntKind.wrap .i64 (x1 + 1)
    if 0 ≤ (x4 : Int) ∧ x4 < ((List.length x0) : Int) then
     let x5 : Int := (x4 : Int)
     atC x0 x5 fun y6 =>
      let x6 : (List ((Int) × (List (ByteArray)) × (List (ByteArray)) × Unit)) × Unit := (y6.1, ())
      Option.bind (commute_Commute_18 (x3, x6, ())) fun r7 =>
       let x7 := r7.1
       let x8 := r7.2.1
       let x9 := r7.2.2.1
       let x10 := r7.2.2.2.1
       let x11 : List ((Int) × (List (ByteArray)) × (List (ByteArray)) × Unit) := x7.1
       let x12 : List ((Int) × (List (ByteArray)) × (List (ByteArray)) × Unit) := x8.1
       let x13 : Int := x10.1
       let x14 : Int := x10.2.1
       let j0 : (List ((List ((Int) × (List (ByteArray)) × (List (ByteArray)) × Unit)) × Unit)) × Unit → _ := fun s0 =>
         let x15 := s0.1
         let x16 : (Int) × (Int) × Unit := (x13, x14, ())
         some (x9, x16, x15, ())
       if x9 = true then
        let x15 : Int := IntKind.wrap .i64 (x1 + 1)
        if 0 ≤ (x1 : Int) ∧ x1 < ((List.length x0) : Int) then
         let x16 : Int := (x1 : Int)
         let x17 : (List ((Int) × (List (ByteArray)) × (List (ByteArray)) × Unit)) × Unit := (x11, ())
         atC x0 x16 fun y18 =>
          let x18 : List ((List ((Int) × (List (ByteArray)) × (List (ByteArray)) × Unit)) × Unit) := List.set x0 (Int.toNat x16) (x17.1, y18.2)
          if 0 ≤ (x15 : Int) ∧ x15 < ((List.length x18) : Int) then
           let x19 : Int := (x15 : Int)
           let x20 : (List ((Int) × (List (ByteArray)) × (List (ByteArray)) × Unit)) × Unit := (x12, ())
           atC x18 x19 fun y21 =>
            let x21 : List ((List ((Int) × (List (ByteArray)) × (List (ByteArray)) × Unit)) × Unit) := List.set x18 (Int.toNat x19) (x20.1, y21.2)
            j0 (x21, ())
          else none
        else none
       else
        j0 (x0, ())
    else none
  else none) fun r =>
  if List.length r.2.2.1 = List.length a.1 then some r else none

/- changeforge/stack.fault -/
noncomputable def stack_fault_27 (a : ((Int) × (Int) × Unit) × Unit) : Option (((Int) × (Int) × Unit) × Unit) :=
  let x0 := a.1
  let x1 : Int := x0.1
  let x2 : Int := x0.2.1
  let x3 : (Int) × (Int) × Unit := (x1, x2, ())
  let x4 : (Int) × (Int) × Unit := (0, 0, ())
  let x5 : Bool := (!((x3.1 : Int) == x4.1 && ((x3.2.1 : Int) == x4.2.1 && true)))
  let j0 : (Int) × Unit → _ := fun s0 =>
    let x6 := s0.1
    let x7 : (Int) × (Int) × Unit := (x1, x6, ())
    some (x7, ())
  if x5 = true then
   j0 ((-1), ())
  else
   j0 (x2, ())

/- changeforge/stack.Move -/
noncomputable def stack_Move_10 (a : (List ((List ((Int) × (List (ByteArray)) × (List (ByteArray)) × Unit)) × Unit)) × (Int) × (Int) × Unit) : Option ((List ((List ((Int) × (List (ByteArray)) × (List (ByteArray)) × Unit)) × Unit)) × (Bool) × ((Int) × (Int) × Unit) × Unit) :=
  let x0 := a.1
  let x1 := a.2.1
  let x2 := a.2.2.1
  Option.bind (stack_Validate_23 (x0, ())) fun r3 =>
   let x3 := r3.1
   let x4 : Int := x3.1
   let x5 : Int := x3.2.1
   let x6 : (Int) × (Int) × Unit := (x4, x5, ())
   let x7 : (Int) × (Int) × Unit := (0, 0, ())
   let x8 : Bool := ((x6.1 : Int) == x7.1 && ((x6.2.1 : Int) == x7.2.1 && true))
   let j0 : (Int) × (Int) × Unit → _ := fun s0 =>
     let x9 := s0.1
     let x10 := s0.2.1
     let x11 : (Int) × (Int) × Unit := (x9, x10, ())
     let x12 : (Int) × (Int) × Unit := (0, 0, ())
     let x13 : Bool := ((x11.1 : Int) == x12.1 && ((x11.2.1 : Int) == x12.2.1 && true))
     let j0 : (Int) × (Int) × Unit → _ := fun s0 =>
       let x14 := s0.1
       let x15 := s0.2.1
       let x16 : (Int) × (Int) × Unit := (x14, x15, ())
       let x17 : (Int) × (Int) × Unit := (0, 0, ())
       let x18 : Bool := (!((x16.1 : Int) == x17.1 && ((x16.2.1 : Int) == x17.2.1 && true)))
       if x18 = true then
        let x19 : (Int) × (Int) × Unit := (x14, x15, ())
        some (([] : List ((List ((Int) × (List (ByteArray)) × (List (ByteArray)) × Unit)) × Unit)), false, x19, ())
       else
        Option.bind (stack_clone_25 (x0, ())) fun r19 =>
         let x19 := r19.1
         let j0 : (List ((List ((Int) × (List (ByteArray)) × (List (ByteArray)) × Unit)) × Unit)) × Unit → _ := fun s0 =>
           let x20 := s0.1
           let x21 : (Int) × (Int) × Unit := (0, 0, ())
           some (x20, true, x21, ())
         loopC (fun (s1 : (Int) × (List ((List ((Int) × (List (ByteArray)) × (List (ByteArray)) × Unit)) × Unit)) × Unit) =>
           let x20 := s1.1
           let x21 := s1.2.1
           let x22 : Bool := ((x20 : Int) != x2)
           if x22 = true then
            let x23 : Int := IntKind.wrap .i64 (x20 + 1)
            let x24 : Bool := decide ((x2 : Int) < x20)
            let j2 : (List ((List ((Int) × (List (ByteArray)) × (List (ByteArray)) × Unit)) × Unit)) × (Int) × (Int) × Unit → _ := fun s2 =>
              let x25 := s2.1
              let x26 := s2.2.1
              let x27 := s2.2.2.1
              Option.bind (stack_swap_26 (x25, x26, ())) fun r28 =>
               let x28 := r28.1
               let x29 := r28.2.1
               let x30 := r28.2.2.1
               let x31 : Int := x29.1
               let x32 : Int := x29.2.1
               let x33 : Bool := (!x28)
               if x33 = true then
                let x34 : (Int) × (Int) × Unit := (x31, x32, ())
                Option.bind (stack_fault_27 (x34, ())) fun r35 =>
                 let x35 := r35.1
                 let x36 : Int := x35.1
                 let x37 : Int := x35.2.1
                 let x38 : (Int) × (Int) × Unit := (x36, x37, ())
                 some (.inr (([] : List ((List ((Int) × (List (ByteArray)) × (List (ByteArray)) × Unit)) × Unit)), false, x38, ()))
               else
                some (.inl (x27, x30, ()))
            if x24 = true then
             let x25 : Int := IntKind.wrap .i64 (x20 - 1)
             let x26 : Int := IntKind.wrap .i64 (x20 - 1)
             j2 (x21, x25, x26, ())
            else
             j2 (x21, x20, x23, ())
           else
            Option.map .inr (j0 (x21, ())))
           (x1, x19, ())
     if x13 = true then
      Option.bind (stack_position_24 (x0, x2, (-3), ())) fun r14 =>
       let x14 := r14.1
       let x15 : Int := x14.1
       let x16 : Int := x14.2.1
       j0 (x15, x16, ())
     else
      j0 (x9, x10, ())
   if x8 = true then
    Option.bind (stack_position_24 (x0, x1, (-2), ())) fun r9 =>
     let x9 := r9.1
     let x10 : Int := x9.1
     let x11 : Int := x9.2.1
     j0 (x10, x11, ())
   else
    j0 (x4, x5, ())

/- changeforge/changeforgeref1.At -/
noncomputable def changeforgeref1_At_29 (a : (Int) × (Int) × Unit) : Option (((Int) × (Int) × Unit) × Unit) :=
  let x0 := a.1
  let x1 := a.2.1
  let x2 : Int := x0
  let x3 : Int := x1
  let x4 : (Int) × (Int) × Unit := (x2, x3, ())
  some (x4, ())

/- changeforge/changeforgeref1.LinesFault -/
noncomputable def changeforgeref1_LinesFault_56 (a : (List (ByteArray)) × Unit) : Option (((Int) × (Int) × Unit) × Unit) :=
  let x0 := a.1
  let x1 : Int := (List.length x0 : Int)
  let x2 : Bool := decide ((x1 : Int) > 120)
  if x2 = true then
   Option.bind (changeforgeref1_At_29 (2, (-1), ())) fun r3 =>
    let x3 := r3.1
    let x4 : Int := x3.1
    let x5 : Int := x3.2.1
    let x6 : (Int) × (Int) × Unit := (x4, x5, ())
    some (x6, ())
  else
   let j0 : Unit → _ := fun s0 =>
     let x3 : (Int) × (Int) × Unit := (0, 0, ())
     some (x3, ())
   loopC (fun (s1 : (Int) × Unit) =>
     let x3 := s1.1
     let x4 : Int := (List.length x0 : Int)
     let x5 : Bool := decide ((x3 : Int) < x4)
     if x5 = true then
      let j2 : (Int) × Unit → _ := fun s2 =>
        let x6 := s2.1
        let x7 : Int := IntKind.wrap .i64 (x6 + 1)
        some (.inl (x7, ()))
      atC x0 x3 fun y6 =>
       let x6 : ByteArray := y6
       let x7 : ByteArray := x6
       let x8 : Int := (ByteArray.size x7 : Int)
       let x9 : Bool := decide ((x8 : Int) > 80)
       if x9 = true then
        Option.bind (changeforgeref1_At_29 (2, x3, ())) fun r10 =>
         let x10 := r10.1
         let x11 : Int := x10.1
         let x12 : Int := x10.2.1
         let x13 : (Int) × (Int) × Unit := (x11, x12, ())
         some (.inr (x13, ()))
       else
        let j3 : (Int) × Unit → _ := fun s3 =>
          let x10 := s3.1
          j2 (x10, ())
        loopC (fun (s4 : (Int) × (Int) × Unit) =>
          let x10 := s4.1
          let x11 := s4.2.1
          atC x0 x10 fun y12 =>
           let x12 : ByteArray := y12
           let x13 : ByteArray := x12
           let x14 : Int := (ByteArray.size x13 : Int)
           let x15 : Bool := decide ((x11 : Int) < x14)
           if x15 = true then
            atC x0 x10 fun y16 =>
             let x16 : ByteArray := y16
             let x17 : ByteArray := x16
             if 0 ≤ x11 ∧ x11 < (ByteArray.size x17 : Int) then
              let x18 : Int := (((ByteArray.data x17).getD (Int.toNat x11) 0).toNat : Int)
              let x19 : Bool := ((x18 : Int) == 10)
              if x19 = true then
               Option.bind (changeforgeref1_At_29 (5, x10, ())) fun r20 =>
                let x20 := r20.1
                let x21 : Int := x20.1
                let x22 : Int := x20.2.1
                let x23 : (Int) × (Int) × Unit := (x21, x22, ())
                some (.inr (.inr (x23, ())))
              else
               let x20 : Int := IntKind.wrap .i64 (x11 + 1)
               some (.inl (x10, x20, ()))
             else none
           else
            Option.map .inr (j3 (x10, ())))
          (x3, 0, ())
     else
      Option.map .inr (j0 (())))
     (0, ())

/- changeforge/changeforgeref1.LinesCode -/
noncomputable def changeforgeref1_LinesCode_44 (a : (List (ByteArray)) × Unit) : Option ((Int) × Unit) :=
  let x0 := a.1
  Option.bind (changeforgeref1_LinesFault_56 (x0, ())) fun r1 =>
   let x1 := r1.1
   let x2 : Int := x1.1
   some (x2, ())

/- changeforge/changeforgeref1.End -/
noncomputable def changeforgeref1_End_58 (a : ((Int) × (List (ByteArray)) × (List (ByteArray)) × Unit) × Unit) : Option ((Int) × Unit) :=
  let x0 := a.1
  let x1 : Int := x0.1
  let x2 : List (ByteArray) := x0.2.1
  let x3 : List (ByteArray) := x0.2.2.1
  let x4 : Int := (List.length x2 : Int)
  let x5 : Int := IntKind.wrap .i64 (x1 + x4)
  some (x5, ())

/- changeforge/changeforgeref1.PatchFault -/
noncomputable def changeforgeref1_PatchFault_50 (a : ((List ((Int) × (List (ByteArray)) × (List (ByteArray)) × Unit)) × Unit) × Unit) : Option (((Int) × (Int) × Unit) × Unit) :=
  let x0 := a.1
  let x1 : List ((Int) × (List (ByteArray)) × (List (ByteArray)) × Unit) := x0.1
  let x2 : Int := (List.length x1 : Int)
  let x3 : Bool := decide ((x2 : Int) > 130)
  if x3 = true then
   Option.bind (changeforgeref1_At_29 (2, (-1), ())) fun r4 =>
    let x4 := r4.1
    let x5 : Int := x4.1
    let x6 : Int := x4.2.1
    let x7 : (Int) × (Int) × Unit := (x5, x6, ())
    some (x7, ())
  else
   let j0 : Unit → _ := fun s0 =>
     let x4 : (Int) × (Int) × Unit := (0, 0, ())
     some (x4, ())
   loopC (fun (s1 : (Int) × Unit) =>
     let x4 := s1.1
     let x5 : Int := (List.length x1 : Int)
     let x6 : Bool := decide ((x4 : Int) < x5)
     if x6 = true then
      atC x1 x4 fun y7 =>
       let x7 : (Int) × (List (ByteArray)) × (List (ByteArray)) × Unit := y7
       let x8 : (Int) × (List (ByteArray)) × (List (ByteArray)) × Unit := (x7.1, x7.2.1, x7.2.2.1, ())
       let x9 : Int := x8.1
       let x10 : List (ByteArray) := x8.2.1
       let x11 : List (ByteArray) := x8.2.2.1
       let j2 : (Int) × (Bool) × (Int) × (List (ByteArray)) × (List (ByteArray)) × Unit → _ := fun s2 =>
         let x12 := s2.1
         let x13 := s2.2.1
         let x14 := s2.2.2.1
         let x15 := s2.2.2.2.1
         let x16 := s2.2.2.2.2.1
         if x13 = true then
          Option.bind (changeforgeref1_At_29 (3, x12, ())) fun r17 =>
           let x17 := r17.1
           let x18 : Int := x17.1
           let x19 : Int := x17.2.1
           let x20 : (Int) × (Int) × Unit := (x18, x19, ())
           some (.inr (x20, ()))
         else
          Option.bind (changeforgeref1_LinesCode_44 (x15, ())) fun r17 =>
           let x17 := r17.1
           let x18 : Bool := ((x17 : Int) != 0)
           if x18 = true then
            Option.bind (changeforgeref1_At_29 (x17, x12, ())) fun r19 =>
             let x19 := r19.1
             let x20 : Int := x19.1
             let x21 : Int := x19.2.1
             let x22 : (Int) × (Int) × Unit := (x20, x21, ())
             some (.inr (x22, ()))
           else
            Option.bind (changeforgeref1_LinesCode_44 (x16, ())) fun r19 =>
             let x19 := r19.1
             let x20 : Bool := ((x19 : Int) != 0)
             if x20 = true then
              Option.bind (changeforgeref1_At_29 (x19, x12, ())) fun r21 =>
               let x21 := r21.1
               let x22 : Int := x21.1
               let x23 : Int := x21.2.1
               let x24 : (Int) × (Int) × Unit := (x22, x23, ())
               some (.inr (x24, ()))
             else
              let j2 : (Int) × (Bool) × (Int) × (List (ByteArray)) × (List (ByteArray)) × Unit → _ := fun s2 =>
                let x21 := s2.1
                let x22 := s2.2.1
                let x23 := s2.2.2.1
                let x24 := s2.2.2.2.1
                let x25 := s2.2.2.2.2.1
                if x22 = true then
                 Option.bind (changeforgeref1_At_29 (5, x21, ())) fun r26 =>
                  let x26 := r26.1
                  let x27 : Int := x26.1
                  let x28 : Int := x26.2.1
                  let x29 : (Int) × (Int) × Unit := (x27, x28, ())
                  some (.inr (x29, ()))
                else
                 let x26 : (Int) × (List (ByteArray)) × (List (ByteArray)) × Unit := (x23, x24, x25, ())
                 Option.bind (changeforgeref1_End_58 (x26, ())) fun r27 =>
                  let x27 := r27.1
                  let x28 : Bool := decide ((x27 : Int) > 120)
                  if x28 = true then
                   Option.bind (changeforgeref1_At_29 (3, x21, ())) fun r29 =>
                    let x29 := r29.1
                    let x30 : Int := x29.1
                    let x31 : Int := x29.2.1
                    let x32 : (Int) × (Int) × Unit := (x30, x31, ())
                    some (.inr (x32, ()))
                  else
                   let x29 : Int := IntKind.wrap .i64 (x21 + 1)
                   some (.inl (x29, ()))
              let x21 : Int := (List.length x15 : Int)
              let x22 : Int := (List.length x16 : Int)
              let x23 : Int := IntKind.wrap .i64 (x21 + x22)
              let x24 : Bool := ((x23 : Int) == 0)
              if x24 = true then
               j2 (x12, true, x14, x15, x16, ())
              else
               let x25 : Bool := decide ((x12 : Int) > 0)
               if x25 = true then
                let x26 : Int := IntKind.wrap .i64 (x12 - 1)
                atC x1 x26 fun y27 =>
                 let x27 : (Int) × (List (ByteArray)) × (List (ByteArray)) × Unit := y27
                 let x28 : (Int) × (List (ByteArray)) × (List (ByteArray)) × Unit := (x27.1, x27.2.1, x27.2.2.1, ())
                 Option.bind (changeforgeref1_End_58 (x28, ())) fun r29 =>
                  let x29 := r29.1
                  let x30 : Bool := decide ((x14 : Int) ≤ x29)
                  j2 (x12, x30, x14, x15, x16, ())
               else
                j2 (x12, false, x14, x15, x16, ())
       let x12 : Bool := decide ((x9 : Int) < 0)
       if x12 = true then
        j2 (x4, true, x9, x10, x11, ())
       else
        let x13 : Bool := decide ((x9 : Int) > 120)
        j2 (x4, x13, x9, x10, x11, ())
     else
      Option.map .inr (j0 (())))
     (0, ())

/- changeforge/changeforgeref2.StackFault -/
noncomputable def changeforgeref2_StackFault_28 (a : (List ((List ((Int) × (List (ByteArray)) × (List (ByteArray)) × Unit)) × Unit)) × Unit) : Option (((Int) × (Int) × Unit) × Unit) :=
  let x0 := a.1
  let x1 : Int := (List.length x0 : Int)
  let x2 : Bool := decide ((x1 : Int) > 12)
  if x2 = true then
   Option.bind (changeforgeref1_At_29 (2, (-1), ())) fun r3 =>
    let x3 := r3.1
    let x4 : Int := x3.1
    let x5 : Int := x3.2.1
    let x6 : (Int) × (Int) × Unit := (x4, x5, ())
    some (x6, ())
  else
   let j0 : Unit → _ := fun s0 =>
     let x3 : (Int) × (Int) × Unit := (0, 0, ())
     some (x3, ())
   loopC (fun (s1 : (Int) × Unit) =>
     let x3 := s1.1
     let x4 : Int := (List.length x0 : Int)
     let x5 : Bool := decide ((x3 : Int) < x4)
     if x5 = true then
      atC x0 x3 fun y6 =>
       let x6 : (List ((Int) × (List (ByteArray)) × (List (ByteArray)) × Unit)) × Unit := y6
       let x7 : (List ((Int) × (List (ByteArray)) × (List (ByteArray)) × Unit)) × Unit := (x6.1, ())
       Option.bind (changeforgeref1_PatchFault_50 (x7, ())) fun r8 =>
        let x8 := r8.1
        let x9 : Int := x8.1
        let x10 : Int := x8.2.1
        let x11 : Bool := ((x9 : Int) != 0)
        if x11 = true then
         Option.bind (changeforgeref1_At_29 (x9, x3, ())) fun r12 =>
          let x12 := r12.1
          let x13 : Int := x12.1
          let x14 : Int := x12.2.1
          let x15 : (Int) × (Int) × Unit := (x13, x14, ())
          some (.inr (x15, ()))
        else
         let x12 : Int := IntKind.wrap .i64 (x3 + 1)
         some (.inl (x12, ()))
     else
      Option.map .inr (j0 (())))
     (0, ())

/- changeforge/changeforgeref1.Pair -/
noncomputable def changeforgeref1_Pair_63 (a : ((List ((Int) × (List (ByteArray)) × (List (ByteArray)) × Unit)) × Unit) × ((List ((Int) × (List (ByteArray)) × (List (ByteArray)) × Unit)) × Unit) × Unit) : Option (((Int) × (Int) × Unit) × Unit) :=
  let x0 := a.1
  let x1 := a.2.1
  let x2 : List ((Int) × (List (ByteArray)) × (List (ByteArray)) × Unit) := x0.1
  let x3 : List ((Int) × (List (ByteArray)) × (List (ByteArray)) × Unit) := x1.1
  let x4 : (List ((Int) × (List (ByteArray)) × (List (ByteArray)) × Unit)) × Unit := (x2, ())
  Option.bind (changeforgeref1_PatchFault_50 (x4, ())) fun r5 =>
   let x5 := r5.1
   let x6 : Int := x5.1
   let x7 : Int := x5.2.1
   let j0 : (Bool) × Unit → _ := fun s0 =>
     let x8 := s0.1
     let j0 : (Int) × (Int) × Unit → _ := fun s0 =>
       let x9 := s0.1
       let x10 := s0.2.1
       let x11 : (Int) × (Int) × Unit := (x9, x10, ())
       some (x11, ())
     if x8 = true then
      let x9 : (List ((Int) × (List (ByteArray)) × (List (ByteArray)) × Unit)) × Unit := (x3, ())
      Option.bind (changeforgeref1_PatchFault_50 (x9, ())) fun r10 =>
       let x10 := r10.1
       let x11 : Int := x10.1
       Option.bind (changeforgeref1_At_29 (x11, (-2), ())) fun r12 =>
        let x12 := r12.1
        let x13 : Int := x12.1
        let x14 : Int := x12.2.1
        j0 (x13, x14, ())
     else
      j0 (x6, x7, ())
   let x8 : Bool := ((x6 : Int) == 0)
   if x8 = true then
    let x9 : (List ((Int) × (List (ByteArray)) × (List (ByteArray)) × Unit)) × Unit := (x3, ())
    Option.bind (changeforgeref1_PatchFault_50 (x9, ())) fun r10 =>
     let x10 := r10.1
     let x11 : Int := x10.1
     let x12 : Bool := ((x11 : Int) != 0)
     j0 (x12, ())
   else
    j0 (false, ())

/- changeforge/changeforgeref1.Growth -/
noncomputable def changeforgeref1_Growth_66 (a : ((Int) × (List (ByteArray)) × (List (ByteArray)) × Unit) × Unit) : Option ((Int) × Unit) :=
  let x0 := a.1
  let x1 : Int := x0.1
  let x2 : List (ByteArray) := x0.2.1
  let x3 : List (ByteArray) := x0.2.2.1
  let x4 : Int := (List.length x3 : Int)
  let x5 : Int := (List.length x2 : Int)
  let x6 : Int := IntKind.wrap .i64 (x4 - x5)
  some (x6, ())

/- changeforge/changeforgeref1.news -/
noncomputable def changeforgeref1_news_65 (a : ((List ((Int) × (List (ByteArray)) × (List (ByteArray)) × Unit)) × Unit) × (Int) × Unit) : Option ((Int) × (Int) × Unit) :=
  let x0 := a.1
  let x1 := a.2.1
  let x2 : List ((Int) × (List (ByteArray)) × (List (ByteArray)) × Unit) := x0.1
  atC x2 x1 fun y3 =>
   let x3 : (Int) × (List (ByteArray)) × (List (ByteArray)) × Unit := y3
   let x4 : Int := x3.1
   let j0 : (Int) × Unit → _ := fun s0 =>
     let x5 := s0.1
     atC x2 x1 fun y6 =>
      let x6 : (Int) × (List (ByteArray)) × (List (ByteArray)) × Unit := y6
      let x7 : List (ByteArray) := x6.2.2.1
      let x8 : Int := (List.length x7 : Int)
      let x9 : Int := IntKind.wrap .i64 (x5 + x8)
      some (x5, x9, ())
   loopC (fun (s1 : (Int) × (Int) × Unit) =>
     let x5 := s1.1
     let x6 := s1.2.1
     let x7 : Bool := decide ((x6 : Int) < x1)
     if x7 = true then
      atC x2 x6 fun y8 =>
       let x8 : (Int) × (List (ByteArray)) × (List (ByteArray)) × Unit := y8
       let x9 : (Int) × (List (ByteArray)) × (List (ByteArray)) × Unit := (x8.1, x8.2.1, x8.2.2.1, ())
       Option.bind (changeforgeref1_Growth_66 (x9, ())) fun r10 =>
        let x10 := r10.1
        let x11 : Int := IntKind.wrap .i64 (x5 + x10)
        let x12 : Int := IntKind.wrap .i64 (x6 + 1)
        some (.inl (x11, x12, ()))
     else
      Option.map .inr (j0 (x5, ())))
     (x4, 0, ())

/- changeforge/changeforgeref1.moved -/
noncomputable def changeforgeref1_moved_67 (a : ((Int) × (List (ByteArray)) × (List (ByteArray)) × Unit) × (Int) × Unit) : Option (((Int) × (List (ByteArray)) × (List (ByteArray)) × Unit) × Unit) :=
  let x0 := a.1
  let x1 := a.2.1
  let x2 : Int := x0.1
  let x3 : List (ByteArray) := x0.2.1
  let x4 : List (ByteArray) := x0.2.2.1
  let x5 : Int := IntKind.wrap .i64 (x2 + x1)
  let x6 : Int := x5
  let x7 : List (ByteArray) := x3
  let x8 : List (ByteArray) := x4
  let x9 : (Int) × (List (ByteArray)) × (List (ByteArray)) × Unit := (x6, x7, x8, ())
  some (x9, ())

/- changeforge/changeforgeref1.Commute -/
noncomputable def changeforgeref1_Commute_51 (a : ((List ((Int) × (List (ByteArray)) × (List (ByteArray)) × Unit)) × Unit) × ((List ((Int) × (List (ByteArray)) × (List (ByteArray)) × Unit)) × Unit) × Unit) : Option (((List ((Int) × (List (ByteArray)) × (List (ByteArray)) × Unit)) × Unit) × ((List ((Int) × (List (ByteArray)) × (List (ByteArray)) × Unit)) × Unit) × (Bool) × ((Int) × (Int) × Unit) × Unit) :=
  let x0 := a.1
  let x1 := a.2.1
  let x2 : List ((Int) × (List (ByteArray)) × (List (ByteArray)) × Unit) := x0.1
  let x3 : List ((Int) × (List (ByteArray)) × (List (ByteArray)) × Unit) := x1.1
  let x4 : (List ((Int) × (List (ByteArray)) × (List (ByteArray)) × Unit)) × Unit := (x2, ())
  let x5 : (List ((Int) × (List (ByteArray)) × (List (ByteArray)) × Unit)) × Unit := (x3, ())
  Option.bind (changeforgeref1_Pair_63 (x4, x5, ())) fun r6 =>
   let x6 := r6.1
   let x7 : Int := x6.1
   let x8 : Int := x6.2.1
   let x9 : Bool := ((x7 : Int) != 0)
   if x9 = true then
    let x10 : (List ((Int) × (List (ByteArray)) × (List (ByteArray)) × Unit)) × Unit := (([] : List ((Int) × (List (ByteArray)) × (List (ByteArray)) × Unit)), ())
    let x11 : (List ((Int) × (List (ByteArray)) × (List (ByteArray)) × Unit)) × Unit := (([] : List ((Int) × (List (ByteArray)) × (List (ByteArray)) × Unit)), ())
    let x12 : (Int) × (Int) × Unit := (x7, x8, ())
    some (x10, x11, false, x12, ())
   else
    let j0 : (List ((Int) × (List (ByteArray)) × (List (ByteArray)) × Unit)) × Unit → _ := fun s0 =>
      let x10 := s0.1
      let j0 : (List ((Int) × (List (ByteArray)) × (List (ByteArray)) × Unit)) × Unit → _ := fun s0 =>
        let x11 := s0.1
        let j0 : (Bool) × Unit → _ := fun s0 =>
          let x12 := s0.1
          if x12 = true then
           Option.bind (changeforgeref1_At_29 (10, (-1), ())) fun r13 =>
            let x13 := r13.1
            let x14 : Int := x13.1
            let x15 : Int := x13.2.1
            let x16 : (List ((Int) × (List (ByteArray)) × (List (ByteArray)) × Unit)) × Unit := (([] : List ((Int) × (List (ByteArray)) × (List (ByteArray)) × Unit)), ())
            let x17 : (List ((Int) × (List (ByteArray)) × (List (ByteArray)) × Unit)) × Unit := (([] : List ((Int) × (List (ByteArray)) × (List (ByteArray)) × Unit)), ())
            let x18 : (Int) × (Int) × Unit := (x14, x15, ())
            some (x16, x17, false, x18, ())
          else
           let x13 : (List ((Int) × (List (ByteArray)) × (List (ByteArray)) × Unit)) × Unit := (x10, ())
           let x14 : (List ((Int) × (List (ByteArray)) × (List (ByteArray)) × Unit)) × Unit := (x11, ())
           let x15 : (Int) × (Int) × Unit := (0, 0, ())
           some (x13, x14, true, x15, ())
        let x12 : (List ((Int) × (List (ByteArray)) × (List (ByteArray)) × Unit)) × Unit := (x10, ())
        Option.bind (changeforgeref1_PatchFault_50 (x12, ())) fun r13 =>
         let x13 := r13.1
         let x14 : Int := x13.1
         let x15 : Bool := ((x14 : Int) != 0)
         if x15 = true then
          j0 (true, ())
         else
          let x16 : (List ((Int) × (List (ByteArray)) × (List (ByteArray)) × Unit)) × Unit := (x11, ())
          Option.bind (changeforgeref1_PatchFault_50 (x16, ())) fun r17 =>
           let x17 := r17.1
           let x18 : Int := x17.1
           let x19 : Bool := ((x18 : Int) != 0)
           j0 (x19, ())
      loopC (fun (s1 : (Int) × (List ((Int) × (List (ByteArray)) × (List (ByteArray)) × Unit)) × Unit) =>
        let x11 := s1.1
        let x12 := s1.2.1
        let x13 : Int := (List.length x2 : Int)
        let x14 : Bool := decide ((x11 : Int) < x13)
        if x14 = true then
         let j2 : (Int) × (Int) × (List ((Int) × (List (ByteArray)) × (List (ByteArray)) × Unit)) × Unit → _ := fun s2 =>
           let x15 := s2.1
           let x16 := s2.2.1
           let x17 := s2.2.2.1
           atC x2 x15 fun y18 =>
            let x18 : (Int) × (List (ByteArray)) × (List (ByteArray)) × Unit := y18
            let x19 : (Int) × (List (ByteArray)) × (List (ByteArray)) × Unit := (x18.1, x18.2.1, x18.2.2.1, ())
            Option.bind (changeforgeref1_moved_67 (x19, x16, ())) fun r20 =>
             let x20 := r20.1
             let x21 : List ((Int) × (List (ByteArray)) × (List (ByteArray)) × Unit) := [x20]
             if (List.length x17 + List.length x21) * 56 ≤ 140737488355328 ∧ List.length x17 + List.length x21 ≤ maxLen then
              let x22 : List ((Int) × (List (ByteArray)) × (List (ByteArray)) × Unit) := x17 ++ x21
              let x23 : Int := IntKind.wrap .i64 (x15 + 1)
              some (.inl (x23, x22, ()))
             else none
         loopC (fun (s3 : (Int) × (Int) × (Int) × (List ((Int) × (List (ByteArray)) × (List (ByteArray)) × Unit)) × Unit) =>
           let x15 := s3.1
           let x16 := s3.2.1
           let x17 := s3.2.2.1
           let x18 := s3.2.2.2.1
           let x19 : Int := (List.length x10 : Int)
           let x20 : Bool := decide ((x17 : Int) < x19)
           if x20 = true then
            let j4 : (Int) × (Int) × (Int) × (List ((Int) × (List (ByteArray)) × (List (ByteArray)) × Unit)) × Unit → _ := fun s4 =>
              let x21 := s4.1
              let x22 := s4.2.1
              let x23 := s4.2.2.1
              let x24 := s4.2.2.2.1
              let x25 : Int := IntKind.wrap .i64 (x23 + 1)
              some (.inl (x21, x22, x25, x24, ()))
            atC x10 x17 fun y21 =>
             let x21 : (Int) × (List (ByteArray)) × (List (ByteArray)) × Unit := y21
             let x22 : (Int) × (List (ByteArray)) × (List (ByteArray)) × Unit := (x21.1, x21.2.1, x21.2.2.1, ())
             Option.bind (changeforgeref1_End_58 (x22, ())) fun r23 =>
              let x23 := r23.1
              atC x2 x15 fun y24 =>
               let x24 : (Int) × (List (ByteArray)) × (List (ByteArray)) × Unit := y24
               let x25 : Int := x24.1
               let x26 : Bool := decide ((x23 : Int) < x25)
               let j5 : (Int) × (Int) × (Int) × (List ((Int) × (List (ByteArray)) × (List (ByteArray)) × Unit)) × Unit → _ := fun s5 =>
                 let x27 := s5.1
                 let x28 := s5.2.1
                 let x29 := s5.2.2.1
                 let x30 := s5.2.2.2.1
                 j4 (x27, x28, x29, x30, ())
               if x26 = true then
                atC x10 x17 fun y27 =>
                 let x27 : (Int) × (List (ByteArray)) × (List (ByteArray)) × Unit := y27
                 let x28 : (Int) × (List (ByteArray)) × (List (ByteArray)) × Unit := (x27.1, x27.2.1, x27.2.2.1, ())
                 Option.bind (changeforgeref1_Growth_66 (x28, ())) fun r29 =>
                  let x29 := r29.1
                  let x30 : Int := IntKind.wrap .i64 (x16 + x29)
                  j5 (x15, x30, x17, x18, ())
               else
                j5 (x15, x16, x17, x18, ())
           else
            Option.map .inr (j2 (x15, x16, x18, ())))
           (x11, 0, 0, x12, ())
        else
         Option.map .inr (j0 (x12, ())))
        (0, ([] : List ((Int) × (List (ByteArray)) × (List (ByteArray)) × Unit)), ())
    loopC (fun (s1 : (Int) × (List ((Int) × (List (ByteArray)) × (List (ByteArray)) × Unit)) × Unit) =>
      let x10 := s1.1
      let x11 := s1.2.1
      let x12 : Int := (List.length x3 : Int)
      let x13 : Bool := decide ((x10 : Int) < x12)
      if x13 = true then
       let j2 : (Int) × (Int) × (List ((Int) × (List (ByteArray)) × (List (ByteArray)) × Unit)) × Unit → _ := fun s2 =>
         let x14 := s2.1
         let x15 := s2.2.1
         let x16 := s2.2.2.1
         atC x3 x14 fun y17 =>
          let x17 : (Int) × (List (ByteArray)) × (List (ByteArray)) × Unit := y17
          let x18 : (Int) × (List (ByteArray)) × (List (ByteArray)) × Unit := (x17.1, x17.2.1, x17.2.2.1, ())
          Option.bind (changeforgeref1_moved_67 (x18, x15, ())) fun r19 =>
           let x19 := r19.1
           let x20 : List ((Int) × (List (ByteArray)) × (List (ByteArray)) × Unit) := [x19]
           if (List.length x16 + List.length x20) * 56 ≤ 140737488355328 ∧ List.length x16 + List.length x20 ≤ maxLen then
            let x21 : List ((Int) × (List (ByteArray)) × (List (ByteArray)) × Unit) := x16 ++ x20
            let x22 : Int := IntKind.wrap .i64 (x14 + 1)
            some (.inl (x22, x21, ()))
           else none
       loopC (fun (s3 : (Int) × (Int) × (Int) × (List ((Int) × (List (ByteArray)) × (List (ByteArray)) × Unit)) × Unit) =>
         let x14 := s3.1
         let x15 := s3.2.1
         let x16 := s3.2.2.1
         let x17 := s3.2.2.2.1
         let x18 : Int := (List.length x2 : Int)
         let x19 : Bool := decide ((x16 : Int) < x18)
         if x19 = true then
          let j4 : (Int) × (Int) × (Int) × (List ((Int) × (List (ByteArray)) × (List (ByteArray)) × Unit)) × Unit → _ := fun s4 =>
            let x20 := s4.1
            let x21 := s4.2.1
            let x22 := s4.2.2.1
            let x23 := s4.2.2.2.1
            let x24 : Int := IntKind.wrap .i64 (x22 + 1)
            some (.inl (x20, x21, x24, x23, ()))
          let x20 : (List ((Int) × (List (ByteArray)) × (List (ByteArray)) × Unit)) × Unit := (x2, ())
          Option.bind (changeforgeref1_news_65 (x20, x16, ())) fun r21 =>
           let x21 := r21.1
           let x22 := r21.2.1
           let j5 : (Int) × (Int) × (Int) × (Int) × (Bool) × (List ((Int) × (List (ByteArray)) × (List (ByteArray)) × Unit)) × Unit → _ := fun s5 =>
             let x23 := s5.1
             let x24 := s5.2.1
             let x25 := s5.2.2.1
             let x26 := s5.2.2.2.1
             let x27 := s5.2.2.2.2.1
             let x28 := s5.2.2.2.2.2.1
             if x27 = true then
              let x29 : (List ((Int) × (List (ByteArray)) × (List (ByteArray)) × Unit)) × Unit := (([] : List ((Int) × (List (ByteArray)) × (List (ByteArray)) × Unit)), ())
              let x30 : (List ((Int) × (List (ByteArray)) × (List (ByteArray)) × Unit)) × Unit := (([] : List ((Int) × (List (ByteArray)) × (List (ByteArray)) × Unit)), ())
              let x31 : (Int) × (Int) × Unit := (0, 0, ())
              some (.inr (.inr (x29, x30, false, x31, ())))
             else
              atC x3 x23 fun y29 =>
               let x29 : (Int) × (List (ByteArray)) × (List (ByteArray)) × Unit := y29
               let x30 : Int := x29.1
               let x31 : Bool := decide ((x26 : Int) < x30)
               let j5 : (Int) × (Int) × (Int) × (List ((Int) × (List (ByteArray)) × (List (ByteArray)) × Unit)) × Unit → _ := fun s5 =>
                 let x32 := s5.1
                 let x33 := s5.2.1
                 let x34 := s5.2.2.1
                 let x35 := s5.2.2.2.1
                 j4 (x32, x33, x34, x35, ())
               if x31 = true then
                atC x2 x25 fun y32 =>
                 let x32 : (Int) × (List (ByteArray)) × (List (ByteArray)) × Unit := y32
                 let x33 : (Int) × (List (ByteArray)) × (List (ByteArray)) × Unit := (x32.1, x32.2.1, x32.2.2.1, ())
                 Option.bind (changeforgeref1_Growth_66 (x33, ())) fun r34 =>
                  let x34 := r34.1
                  let x35 : Int := IntKind.wrap .i64 (x24 - x34)
                  j5 (x23, x35, x25, x28, ())
               else
                j5 (x23, x24, x25, x28, ())
           atC x3 x14 fun y23 =>
            let x23 : (Int) × (List (ByteArray)) × (List (ByteArray)) × Unit := y23
            let x24 : Int := x23.1
            let x25 : Bool := decide ((x22 : Int) ≥ x24)
            if x25 = true then
             atC x3 x14 fun y26 =>
              let x26 : (Int) × (List (ByteArray)) × (List (ByteArray)) × Unit := y26
              let x27 : (Int) × (List (ByteArray)) × (List (ByteArray)) × Unit := (x26.1, x26.2.1, x26.2.2.1, ())
              Option.bind (changeforgeref1_End_58 (x27, ())) fun r28 =>
               let x28 := r28.1
               let x29 : Bool := decide ((x28 : Int) ≥ x21)
               j5 (x14, x15, x16, x22, x29, x17, ())
            else
             j5 (x14, x15, x16, x22, false, x17, ())
         else
          Option.map .inr (j2 (x14, x15, x17, ())))
         (x10, 0, 0, x11, ())
      else
       Option.map .inr (j0 (x11, ())))
      (0, ([] : List ((Int) × (List (ByteArray)) × (List (ByteArray)) × Unit)), ())

/- changeforge/stack.Drop -/
noncomputable def stack_Drop_12 (a : (List ((List ((Int) × (List (ByteArray)) × (List (ByteArray)) × Unit)) × Unit)) × (Int) × Unit) : Option ((List ((List ((Int) × (List (ByteArray)) × (List (ByteArray)) × Unit)) × Unit)) × (Bool) × ((Int) × (Int) × Unit) × Unit) :=
  let x0 := a.1
  let x1 := a.2.1
  Option.bind (stack_Validate_23 (x0, ())) fun r2 =>
   let x2 := r2.1
   let x3 : Int := x2.1
   let x4 : Int := x2.2.1
   let x5 : (Int) × (Int) × Unit := (x3, x4, ())
   let x6 : (Int) × (Int) × Unit := (0, 0, ())
   let x7 : Bool := (!((x5.1 : Int) == x6.1 && ((x5.2.1 : Int) == x6.2.1 && true)))
   if x7 = true then
    let x8 : (Int) × (Int) × Unit := (x3, x4, ())
    some (([] : List ((List ((Int) × (List (ByteArray)) × (List (ByteArray)) × Unit)) × Unit)), false, x8, ())
   else
    Option.bind (stack_position_24 (x0, x1, (-2), ())) fun r8 =>
     let x8 := r8.1
     let x9 : Int := x8.1
     let x10 : Int := x8.2.1
     let x11 : (Int) × (Int) × Unit := (x9, x10, ())
     let x12 : (Int) × (Int) × Unit := (0, 0, ())
     let x13 : Bool := (!((x11.1 : Int) == x12.1 && ((x11.2.1 : Int) == x12.2.1 && true)))
     if x13 = true then
      let x14 : (Int) × (Int) × Unit := (x9, x10, ())
      some (([] : List ((List ((Int) × (List (ByteArray)) × (List (ByteArray)) × Unit)) × Unit)), false, x14, ())
     else
      let x14 : Int := (List.length x0 : Int)
      let x15 : Int := IntKind.wrap .i64 (x14 - 1)
      Option.bind (stack_Move_10 (x0, x1, x15, ())) fun r16 =>
       let x16 := r16.1
       let x17 := r16.2.1
       let x18 := r16.2.2.1
       let x19 : Int := x18.1
       let x20 : Int := x18.2.1
       let x21 : Bool := (!x17)
       if x21 = true then
        let x22 : (Int) × (Int) × Unit := (x19, x20, ())
        some (([] : List ((List ((Int) × (List (ByteArray)) × (List (ByteArray)) × Unit)) × Unit)), false, x22, ())
       else
        let x22 : Int := (List.length x16 : Int)
        let x23 : Int := IntKind.wrap .i64 (x22 - 1)
        if 0 ≤ (0 : Int) ∧ (0 : Int) ≤ x23 ∧ x23 ≤ (List.length x16 : Int) then
         let x24 : List ((List ((Int) × (List (ByteArray)) × (List (ByteArray)) × Unit)) × Unit) := List.drop (Int.toNat (0 : Int)) (List.take (Int.toNat x23) x16)
         let x25 : (Int) × (Int) × Unit := (0, 0, ())
         some (x24, true, x25, ())
        else none

/- changeforge/changeforgeequal.Strings -/
noncomputable def changeforgeequal_Strings_17 (a : (List (ByteArray)) × (List (ByteArray)) × Unit) : Option ((Bool) × Unit) :=
  let x0 := a.1
  let x1 := a.2.1
  let x2 : Int := (List.length x0 : Int)
  let x3 : Int := (List.length x1 : Int)
  let x4 : Bool := ((x2 : Int) != x3)
  if x4 = true then
   some (false, ())
  else
   let j0 : Unit → _ := fun s0 =>
     some (true, ())
   loopC (fun (s1 : (Int) × Unit) =>
     let x5 := s1.1
     let x6 : Int := (List.length x0 : Int)
     let x7 : Bool := decide ((x5 : Int) < x6)
     if x7 = true then
      atC x0 x5 fun y8 =>
       let x8 : ByteArray := y8
       let x9 : ByteArray := x8
       atC x1 x5 fun y10 =>
        let x10 : ByteArray := y10
        let x11 : ByteArray := x10
        let x12 : Bool := (!(ByteArray.toList x9 == ByteArray.toList x11))
        if x12 = true then
         some (.inr (false, ()))
        else
         let x13 : Int := IntKind.wrap .i64 (x5 + 1)
         some (.inl (x13, ()))
     else
      Option.map .inr (j0 (())))
     (0, ())

/- changeforge/changeforgeequal.Patch -/
noncomputable def changeforgeequal_Patch_31 (a : ((List ((Int) × (List (ByteArray)) × (List (ByteArray)) × Unit)) × Unit) × ((List ((Int) × (List (ByteArray)) × (List (ByteArray)) × Unit)) × Unit) × Unit) : Option ((Bool) × Unit) :=
  let x0 := a.1
  let x1 := a.2.1
  let x2 : List ((Int) × (List (ByteArray)) × (List (ByteArray)) × Unit) := x0.1
  let x3 : List ((Int) × (List (ByteArray)) × (List (ByteArray)) × Unit) := x1.1
  let x4 : Int := (List.length x2 : Int)
  let x5 : Int := (List.length x3 : Int)
  let x6 : Bool := ((x4 : Int) != x5)
  if x6 = true then
   some (false, ())
  else
   let j0 : Unit → _ := fun s0 =>
     some (true, ())
   loopC (fun (s1 : (Int) × Unit) =>
     let x7 := s1.1
     let x8 : Int := (List.length x2 : Int)
     let x9 : Bool := decide ((x7 : Int) < x8)
     if x9 = true then
      let j2 : (Int) × (Bool) × Unit → _ := fun s2 =>
        let x10 := s2.1
        let x11 := s2.2.1
        if x11 = true then
         some (.inr (false, ()))
        else
         let x12 : Int := IntKind.wrap .i64 (x10 + 1)
         some (.inl (x12, ()))
      atC x2 x7 fun y10 =>
       let x10 : (Int) × (List (ByteArray)) × (List (ByteArray)) × Unit := y10
       let x11 : Int := x10.1
       atC x3 x7 fun y12 =>
        let x12 : (Int) × (List (ByteArray)) × (List (ByteArray)) × Unit := y12
        let x13 : Int := x12.1
        let x14 : Bool := ((x11 : Int) != x13)
        if x14 = true then
         j2 (x7, true, ())
        else
         atC x2 x7 fun y15 =>
          let x15 : (Int) × (List (ByteArray)) × (List (ByteArray)) × Unit := y15
          let x16 : List (ByteArray) := x15.2.1
          atC x3 x7 fun y17 =>
           let x17 : (Int) × (List (ByteArray)) × (List (ByteArray)) × Unit := y17
           let x18 : List (ByteArray) := x17.2.1
           Option.bind (changeforgeequal_Strings_17 (x16, x18, ())) fun r19 =>
            let x19 := r19.1
            let x20 : Bool := (!x19)
            if x20 = true then
             j2 (x7, true, ())
            else
             atC x2 x7 fun y21 =>
              let x21 : (Int) × (List (ByteArray)) × (List (ByteArray)) × Unit := y21
              let x22 : List (ByteArray) := x21.2.2.1
              atC x3 x7 fun y23 =>
               let x23 : (Int) × (List (ByteArray)) × (List (ByteArray)) × Unit := y23
               let x24 : List (ByteArray) := x23.2.2.1
               Option.bind (changeforgeequal_Strings_17 (x22, x24, ())) fun r25 =>
                let x25 := r25.1
                let x26 : Bool := (!x25)
                j2 (x7, x26, ())
     else
      Option.map .inr (j0 (())))
     (0, ())

/- changeforge/changeforgeequal.Patches -/
noncomputable def changeforgeequal_Patches_14 (a : (List ((List ((Int) × (List (ByteArray)) × (List (ByteArray)) × Unit)) × Unit)) × (List ((List ((Int) × (List (ByteArray)) × (List (ByteArray)) × Unit)) × Unit)) × Unit) : Option ((Bool) × Unit) :=
  let x0 := a.1
  let x1 := a.2.1
  let x2 : Int := (List.length x0 : Int)
  let x3 : Int := (List.length x1 : Int)
  let x4 : Bool := ((x2 : Int) != x3)
  if x4 = true then
   some (false, ())
  else
   let j0 : Unit → _ := fun s0 =>
     some (true, ())
   loopC (fun (s1 : (Int) × Unit) =>
     let x5 := s1.1
     let x6 : Int := (List.length x0 : Int)
     let x7 : Bool := decide ((x5 : Int) < x6)
     if x7 = true then
      atC x0 x5 fun y8 =>
       let x8 : (List ((Int) × (List (ByteArray)) × (List (ByteArray)) × Unit)) × Unit := y8
       let x9 : (List ((Int) × (List (ByteArray)) × (List (ByteArray)) × Unit)) × Unit := (x8.1, ())
       atC x1 x5 fun y10 =>
        let x10 : (List ((Int) × (List (ByteArray)) × (List (ByteArray)) × Unit)) × Unit := y10
        let x11 : (List ((Int) × (List (ByteArray)) × (List (ByteArray)) × Unit)) × Unit := (x10.1, ())
        Option.bind (changeforgeequal_Patch_31 (x9, x11, ())) fun r12 =>
         let x12 := r12.1
         let x13 : Bool := (!x12)
         if x13 = true then
          some (.inr (false, ()))
         else
          let x14 : Int := IntKind.wrap .i64 (x5 + 1)
          some (.inl (x14, ()))
     else
      Option.map .inr (j0 (())))
     (0, ())

/- changeforge/changeforgelaw2.single -/
noncomputable def changeforgelaw2_single_32 (a : (Int) × (List (ByteArray)) × (List (ByteArray)) × Unit) : Option (((List ((Int) × (List (ByteArray)) × (List (ByteArray)) × Unit)) × Unit) × Unit) :=
  let x0 := a.1
  let x1 := a.2.1
  let x2 := a.2.2.1
  let x3 : Int := x0
  let x4 : List (ByteArray) := x1
  let x5 : List (ByteArray) := x2
  let x6 : (Int) × (List (ByteArray)) × (List (ByteArray)) × Unit := (x3, x4, x5, ())
  let x7 : List ((Int) × (List (ByteArray)) × (List (ByteArray)) × Unit) := [x6]
  let x8 : List ((Int) × (List (ByteArray)) × (List (ByteArray)) × Unit) := x7
  let x9 : (List ((Int) × (List (ByteArray)) × (List (ByteArray)) × Unit)) × Unit := (x8, ())
  some (x9, ())

/- slices.Equal[[]string,string] -/
noncomputable def slices_Equal___string_string__43 (a : (List (ByteArray)) × (List (ByteArray)) × Unit) : Option ((Bool) × Unit) :=
  let x0 := a.1
  let x1 := a.2.1
  let x2 : Int := (List.length x0 : Int)
  let x3 : Int := (List.length x1 : Int)
  let x4 : Bool := ((x2 : Int) != x3)
  if x4 = true then
   some (false, ())
  else
   let x5 : Int := (List.length x0 : Int)
   let j0 : Unit → _ := fun s0 =>
     some (true, ())
   loopC (fun (s1 : (Int) × Unit) =>
     let x6 := s1.1
     let x7 : Bool := decide ((x6 : Int) < x5)
     if x7 = true then
      atC x0 x6 fun y8 =>
       let x8 : ByteArray := y8
       let x9 : ByteArray := x8
       atC x1 x6 fun y10 =>
        let x10 : ByteArray := y10
        let x11 : ByteArray := x10
        let x12 : Bool := (!(ByteArray.toList x9 == ByteArray.toList x11))
        if x12 = true then
         some (.inr (false, ()))
        else
         let x13 : Int := IntKind.wrap .i64 (x6 + 1)
         some (.inl (x13, ()))
     else
      Option.map .inr (j0 (())))
     (0, ())

/- changeforge/textpatch.Apply -/
noncomputable def textpatch_Apply_19 (a : ((List ((Int) × (List (ByteArray)) × (List (ByteArray)) × Unit)) × Unit) × (List (ByteArray)) × Unit) : Option ((List (ByteArray)) × ((Int) × (Int) × Unit) × Unit) :=
  let x0 := a.1
  let x1 := a.2.1
  let x2 : List ((Int) × (List (ByteArray)) × (List (ByteArray)) × Unit) := x0.1
  let x3 : (List ((Int) × (List (ByteArray)) × (List (ByteArray)) × Unit)) × Unit := (x2, ())
  Option.bind (textpatch_Validate_41 (x3, ())) fun r4 =>
   let x4 := r4.1
   let x5 : Int := x4.1
   let x6 : Int := x4.2.1
   let x7 : (Int) × (Int) × Unit := (x5, x6, ())
   let x8 : (Int) × (Int) × Unit := (0, 0, ())
   let x9 : Bool := (!((x7.1 : Int) == x8.1 && ((x7.2.1 : Int) == x8.2.1 && true)))
   if x9 = true then
    let x10 : (Int) × (Int) × Unit := (x5, x6, ())
    some (([] : List (ByteArray)), x10, ())
   else
    Option.bind (lines_Code_33 (x1, ())) fun r10 =>
     let x10 := r10.1
     let x11 : Bool := ((x10 : Int) != 0)
     if x11 = true then
      let x12 : Int := x10
      let x13 : (Int) × (Int) × Unit := (x12, (-2), ())
      some (([] : List (ByteArray)), x13, ())
     else
      let x12 : Int := (List.length x2 : Int)
      let j0 : (List (ByteArray)) × (Int) × Unit → _ := fun s0 =>
        let x13 := s0.1
        let x14 := s0.2.1
        if 0 ≤ x14 ∧ x14 ≤ (List.length x1 : Int) ∧ (List.length x1 : Int) ≤ (List.length x1 : Int) then
         let x15 : List (ByteArray) := List.drop (Int.toNat x14) (List.take (Int.toNat (List.length x1 : Int)) x1)
         if (List.length x13 + List.length x15) * 16 ≤ 140737488355328 ∧ List.length x13 + List.length x15 ≤ maxLen then
          let x16 : List (ByteArray) := x13 ++ x15
          let x17 : Int := (List.length x16 : Int)
          let x18 : Bool := decide ((x17 : Int) > 120)
          if x18 = true then
           let x19 : (Int) × (Int) × Unit := (10, (-1), ())
           some (([] : List (ByteArray)), x19, ())
          else
           let x19 : (Int) × (Int) × Unit := (0, 0, ())
           some (x16, x19, ())
         else none
        else none
      loopC (fun (s1 : (List (ByteArray)) × (Int) × (Int) × Unit) =>
        let x13 := s1.1
        let x14 := s1.2.1
        let x15 := s1.2.2.1
        let x16 : Bool := decide ((x15 : Int) < x12)
        if x16 = true then
         atC x2 x15 fun y17 =>
          let x17 : (Int) × (List (ByteArray)) × (List (ByteArray)) × Unit := y17
          let x18 : (Int) × (List (ByteArray)) × (List (ByteArray)) × Unit := (x17.1, x17.2.1, x17.2.2.1, ())
          let x19 : Int := x18.1
          let x20 : List (ByteArray) := x18.2.1
          let x21 : List (ByteArray) := x18.2.2.1
          let j2 : (List (ByteArray)) × (Int) × (Int) × (Bool) × (Int) × (List (ByteArray)) × (List (ByteArray)) × Unit → _ := fun s2 =>
            let x22 := s2.1
            let x23 := s2.2.1
            let x24 := s2.2.2.1
            let x25 := s2.2.2.2.1
            let x26 := s2.2.2.2.2.1
            let x27 := s2.2.2.2.2.2.1
            let x28 := s2.2.2.2.2.2.2.1
            if x25 = true then
             let x29 : Int := x24
             let x30 : (Int) × (Int) × Unit := (19, x29, ())
             some (.inr (([] : List (ByteArray)), x30, ()))
            else
             if 0 ≤ x23 ∧ x23 ≤ x26 ∧ x26 ≤ (List.length x1 : Int) then
              let x29 : List (ByteArray) := List.drop (Int.toNat x23) (List.take (Int.toNat x26) x1)
              if (List.length x22 + List.length x29) * 16 ≤ 140737488355328 ∧ List.length x22 + List.length x29 ≤ maxLen then
               let x30 : List (ByteArray) := x22 ++ x29
               if (List.length x30 + List.length x28) * 16 ≤ 140737488355328 ∧ List.length x30 + List.length x28 ≤ maxLen then
                let x31 : List (ByteArray) := x30 ++ x28
                let x32 : (Int) × (List (ByteArray)) × (List (ByteArray)) × Unit := (x26, x27, x28, ())
                Option.bind (textpatch_End_42 (x32, ())) fun r33 =>
                 let x33 := r33.1
                 let x34 : Int := IntKind.wrap .i64 (x24 + 1)
                 some (.inl (x31, x33, x34, ()))
               else none
              else none
             else none
          let x22 : (Int) × (List (ByteArray)) × (List (ByteArray)) × Unit := (x19, x20, x21, ())
          Option.bind (textpatch_End_42 (x22, ())) fun r23 =>
           let x23 := r23.1
           let x24 : Int := (List.length x1 : Int)
           let x25 : Bool := decide ((x23 : Int) > x24)
           if x25 = true then
            j2 (x13, x14, x15, true, x19, x20, x21, ())
           else
            let x26 : (Int) × (List (ByteArray)) × (List (ByteArray)) × Unit := (x19, x20, x21, ())
            Option.bind (textpatch_End_42 (x26, ())) fun r27 =>
             let x27 := r27.1
             if 0 ≤ x19 ∧ x19 ≤ x27 ∧ x27 ≤ (List.length x1 : Int) then
              let x28 : List (ByteArray) := List.drop (Int.toNat x19) (List.take (Int.toNat x27) x1)
              Option.bind (slices_Equal___string_string__43 (x28, x20, ())) fun r29 =>
               let x29 := r29.1
               let x30 : Bool := (!x29)
               j2 (x13, x14, x15, x30, x19, x20, x21, ())
             else none
        else
         Option.map .inr (j0 (x13, x14, ())))
        (([] : List (ByteArray)), 0, 0, ())

/- changeforge/stack.Apply -/
noncomputable def stack_Apply_16 (a : (List (ByteArray)) × (List ((List ((Int) × (List (ByteArray)) × (List (ByteArray)) × Unit)) × Unit)) × Unit) : Option ((List (ByteArray)) × ((Int) × (Int) × Unit) × Unit) :=
  let x0 := a.1
  let x1 := a.2.1
  Option.bind (stack_Validate_23 (x1, ())) fun r2 =>
   let x2 := r2.1
   let x3 : Int := x2.1
   let x4 : Int := x2.2.1
   let x5 : (Int) × (Int) × Unit := (x3, x4, ())
   let x6 : (Int) × (Int) × Unit := (0, 0, ())
   let x7 : Bool := (!((x5.1 : Int) == x6.1 && ((x5.2.1 : Int) == x6.2.1 && true)))
   if x7 = true then
    let x8 : (Int) × (Int) × Unit := (x3, x4, ())
    some (([] : List (ByteArray)), x8, ())
   else
    Option.bind (lines_Code_33 (x0, ())) fun r8 =>
     let x8 := r8.1
     let x9 : Bool := ((x8 : Int) != 0)
     if x9 = true then
      let x10 : Int := x8
      let x11 : (Int) × (Int) × Unit := (x10, (-2), ())
      some (([] : List (ByteArray)), x11, ())
     else
      Option.bind (slices_Clone___string_string__34 (x0, ())) fun r10 =>
       let x10 := r10.1
       let x11 : Int := (List.length x1 : Int)
       let j0 : (List (ByteArray)) × Unit → _ := fun s0 =>
         let x12 := s0.1
         let x13 : (Int) × (Int) × Unit := (0, 0, ())
         some (x12, x13, ())
       loopC (fun (s1 : (List (ByteArray)) × (Int) × Unit) =>
         let x12 := s1.1
         let x13 := s1.2.1
         let x14 : Bool := decide ((x13 : Int) < x11)
         if x14 = true then
          atC x1 x13 fun y15 =>
           let x15 : (List ((Int) × (List (ByteArray)) × (List (ByteArray)) × Unit)) × Unit := y15
           let x16 : (List ((Int) × (List (ByteArray)) × (List (ByteArray)) × Unit)) × Unit := (x15.1, ())
           let x17 : List ((Int) × (List (ByteArray)) × (List (ByteArray)) × Unit) := x16.1
           let x18 : (List ((Int) × (List (ByteArray)) × (List (ByteArray)) × Unit)) × Unit := (x17, ())
           Option.bind (textpatch_Apply_19 (x18, x12, ())) fun r19 =>
            let x19 := r19.1
            let x20 := r19.2.1
            let x21 : Int := x20.1
            let x22 : Int := x20.2.1
            let x23 : (Int) × (Int) × Unit := (x21, x22, ())
            let x24 : (Int) × (Int) × Unit := (0, 0, ())
            let x25 : Bool := (!((x23.1 : Int) == x24.1 && ((x23.2.1 : Int) == x24.2.1 && true)))
            if x25 = true then
             let x26 : Int := x21
             let x27 : Int := x13
             let x28 : (Int) × (Int) × Unit := (x26, x27, ())
             some (.inr (([] : List (ByteArray)), x28, ()))
            else
             let x26 : Int := IntKind.wrap .i64 (x13 + 1)
             some (.inl (x19, x26, ()))
         else
          Option.map .inr (j0 (x12, ())))
         (x10, 0, ())

/- changeforge/changeforgelaw2.dropped -/
noncomputable def changeforgelaw2_dropped_15 (a : Unit) : Option ((Bool) × Unit) :=
  let x0 : List (ByteArray) := [(⟨#[97]⟩ : ByteArray)]
  Option.bind (changeforgelaw2_single_32 (0, ([] : List (ByteArray)), x0, ())) fun r1 =>
   let x1 := r1.1
   let x2 : List ((Int) × (List (ByteArray)) × (List (ByteArray)) × Unit) := x1.1
   let x3 : List (ByteArray) := [(⟨#[98]⟩ : ByteArray)]
   Option.bind (changeforgelaw2_single_32 (1, ([] : List (ByteArray)), x3, ())) fun r4 =>
    let x4 := r4.1
    let x5 : (List ((Int) × (List (ByteArray)) × (List (ByteArray)) × Unit)) × Unit := (x2, ())
    let x6 : List ((List ((Int) × (List (ByteArray)) × (List (ByteArray)) × Unit)) × Unit) := [x5, x4]
    Option.bind (stack_Drop_12 (x6, 1, ())) fun r7 =>
     let x7 := r7.1
     let x8 := r7.2.1
     let x9 := r7.2.2.1
     let x10 : Int := x9.1
     let x11 : Int := x9.2.1
     let x12 : (List ((Int) × (List (ByteArray)) × (List (ByteArray)) × Unit)) × Unit := (x2, ())
     let x13 : List ((List ((Int) × (List (ByteArray)) × (List (ByteArray)) × Unit)) × Unit) := [x12]
     Option.bind (stack_Apply_16 (([] : List (ByteArray)), x13, ())) fun r14 =>
      let x14 := r14.1
      let x15 := r14.2.1
      let x16 : Int := x15.1
      let x17 : Int := x15.2.1
      let j0 : (Bool) × Unit → _ := fun s0 =>
        let x18 := s0.1
        some (x18, ())
      let x18 : Bool := ((x10 : Int) == 0)
      if x18 = true then
       let x19 : Bool := ((x16 : Int) == 0)
       if x19 = true then
        if x8 = true then
         let x20 : (List ((Int) × (List (ByteArray)) × (List (ByteArray)) × Unit)) × Unit := (x2, ())
         let x21 : List ((List ((Int) × (List (ByteArray)) × (List (ByteArray)) × Unit)) × Unit) := [x20]
         Option.bind (changeforgeequal_Patches_14 (x7, x21, ())) fun r22 =>
          let x22 := r22.1
          if x22 = true then
           let x23 : List (ByteArray) := [(⟨#[97]⟩ : ByteArray)]
           Option.bind (changeforgeequal_Strings_17 (x14, x23, ())) fun r24 =>
            let x24 := r24.1
            j0 (x24, ())
          else
           j0 (false, ())
        else
         j0 (false, ())
       else
        j0 (false, ())
      else
       j0 (false, ())

/- changeforge/changeforgelaw2.StackMoveSameEffect -/
noncomputable def changeforgelaw2_StackMoveSameEffect_4 (a : (List (ByteArray)) × (List ((List ((Int) × (List (ByteArray)) × (List (ByteArray)) × Unit)) × Unit)) × (Int) × (Int) × Unit) : Option ((Bool) × Unit) :=
  let x0 := a.1
  let x1 := a.2.1
  let x2 := a.2.2.1
  let x3 := a.2.2.2.1
  Option.bind (stack_Move_10 (x1, x2, x3, ())) fun r4 =>
   let x4 := r4.1
   let x5 := r4.2.1
   let x6 := r4.2.2.1
   let x7 : Int := x6.1
   let x8 : Int := x6.2.1
   Option.bind (stack_Apply_16 (x0, x1, ())) fun r9 =>
    let x9 := r9.1
    let x10 := r9.2.1
    let x11 : Int := x10.1
    let x12 : Int := x10.2.1
    let j0 : (Bool) × Unit → _ := fun s0 =>
      let x13 := s0.1
      if x13 = true then
       Option.bind (changeforgelaw2_dropped_15 (())) fun r14 =>
        let x14 := r14.1
        some (x14, ())
      else
       Option.bind (stack_Apply_16 (x0, x4, ())) fun r14 =>
        let x14 := r14.1
        let x15 := r14.2.1
        let x16 : Int := x15.1
        let x17 : Int := x15.2.1
        let x18 : Bool := ((x16 : Int) == 10)
        if x18 = true then
         Option.bind (changeforgelaw2_dropped_15 (())) fun r19 =>
          let x19 := r19.1
          some (x19, ())
        else
         let j0 : (Bool) × Unit → _ := fun s0 =>
           let x19 := s0.1
           some (x19, ())
         let x19 : Bool := ((x16 : Int) == 0)
         if x19 = true then
          Option.bind (changeforgeequal_Strings_17 (x14, x9, ())) fun r20 =>
           let x20 := r20.1
           if x20 = true then
            Option.bind (changeforgelaw2_dropped_15 (())) fun r21 =>
             let x21 := r21.1
             j0 (x21, ())
           else
            j0 (false, ())
         else
          j0 (false, ())
    let x13 : Bool := ((x7 : Int) != 0)
    if x13 = true then
     j0 (true, ())
    else
     let x14 : Bool := ((x11 : Int) != 0)
     if x14 = true then
      j0 (true, ())
     else
      let x15 : Bool := (!x5)
      j0 (x15, ())

/- changeforge/changeforgelaw2.StackMoveBack -/
noncomputable def changeforgelaw2_StackMoveBack_5 (a : (List ((List ((Int) × (List (ByteArray)) × (List (ByteArray)) × Unit)) × Unit)) × (Int) × (Int) × Unit) : Option ((Bool) × Unit) :=
  let x0 := a.1
  let x1 := a.2.1
  let x2 := a.2.2.1
  Option.bind (stack_Move_10 (x0, x1, x2, ())) fun r3 =>
   let x3 := r3.1
   let x4 := r3.2.1
   let x5 := r3.2.2.1
   let x6 : Int := x5.1
   let x7 : Int := x5.2.1
   let j0 : (Bool) × Unit → _ := fun s0 =>
     let x8 := s0.1
     if x8 = true then
      Option.bind (changeforgelaw2_dropped_15 (())) fun r9 =>
       let x9 := r9.1
       some (x9, ())
     else
      Option.bind (stack_Move_10 (x3, x2, x1, ())) fun r9 =>
       let x9 := r9.1
       let x10 := r9.2.1
       let x11 := r9.2.2.1
       let x12 : Int := x11.1
       let x13 : Int := x11.2.1
       let j0 : (Bool) × Unit → _ := fun s0 =>
         let x14 := s0.1
         some (x14, ())
       let x14 : Bool := ((x12 : Int) == 0)
       if x14 = true then
        if x10 = true then
         Option.bind (changeforgeequal_Patches_14 (x9, x0, ())) fun r15 =>
          let x15 := r15.1
          if x15 = true then
           Option.bind (changeforgelaw2_dropped_15 (())) fun r16 =>
            let x16 := r16.1
            j0 (x16, ())
          else
           j0 (false, ())
        else
         j0 (false, ())
       else
        j0 (false, ())
   let x8 : Bool := ((x6 : Int) != 0)
   if x8 = true then
    j0 (true, ())
   else
    let x9 : Bool := (!x4)
    j0 (x9, ())

/- changeforge/changeforgelaw2.StackNeighbors -/
noncomputable def changeforgelaw2_StackNeighbors_6 (a : (List ((List ((Int) × (List (ByteArray)) × (List (ByteArray)) × Unit)) × Unit)) × (Int) × Unit) : Option ((Bool) × Unit) :=
  let x0 := a.1
  let x1 := a.2.1
  let x2 : Int := IntKind.wrap .i64 (x1 + 1)
  Option.bind (stack_Move_10 (x0, x1, x2, ())) fun r3 =>
   let x3 := r3.1
   let x4 := r3.2.1
   let x5 := r3.2.2.1
   let x6 : Int := x5.1
   let x7 : Int := x5.2.1
   let j0 : (Bool) × Unit → _ := fun s0 =>
     let x8 := s0.1
     if x8 = true then
      Option.bind (changeforgelaw2_dropped_15 (())) fun r9 =>
       let x9 := r9.1
       some (x9, ())
     else
      atC x0 x1 fun y9 =>
       let x9 : (List ((Int) × (List (ByteArray)) × (List (ByteArray)) × Unit)) × Unit := y9
       let x10 : (List ((Int) × (List (ByteArray)) × (List (ByteArray)) × Unit)) × Unit := (x9.1, ())
       let x11 : Int := IntKind.wrap .i64 (x1 + 1)
       atC x0 x11 fun y12 =>
        let x12 : (List ((Int) × (List (ByteArray)) × (List (ByteArray)) × Unit)) × Unit := y12
        let x13 : (List ((Int) × (List (ByteArray)) × (List (ByteArray)) × Unit)) × Unit := (x12.1, ())
        Option.bind (commute_Commute_18 (x10, x13, ())) fun r14 =>
         let x14 := r14.1
         let x15 := r14.2.1
         let x16 := r14.2.2.1
         let x17 := r14.2.2.2.1
         let x18 : List ((Int) × (List (ByteArray)) × (List (ByteArray)) × Unit) := x14.1
         let x19 : List ((Int) × (List (ByteArray)) × (List (ByteArray)) × Unit) := x15.1
         let x20 : Int := x17.1
         let x21 : Int := x17.2.1
         let j0 : (Bool) × Unit → _ := fun s0 =>
           let x22 := s0.1
           if x22 = true then
            some (false, ())
           else
            let j0 : (Bool) × Unit → _ := fun s0 =>
              let x23 := s0.1
              some (x23, ())
            let x23 : Bool := (!x4)
            if x23 = true then
             Option.bind (changeforgelaw2_dropped_15 (())) fun r24 =>
              let x24 := r24.1
              j0 (x24, ())
            else
             let x24 : List ((List ((Int) × (List (ByteArray)) × (List (ByteArray)) × Unit)) × Unit) := []
             if 0 ≤ (0 : Int) ∧ (0 : Int) ≤ x1 ∧ x1 ≤ (List.length x0 : Int) then
              let x25 : List ((List ((Int) × (List (ByteArray)) × (List (ByteArray)) × Unit)) × Unit) := List.drop (Int.toNat (0 : Int)) (List.take (Int.toNat x1) x0)
              if (List.length x24 + List.length x25) * 24 ≤ 140737488355328 ∧ List.length x24 + List.length x25 ≤ maxLen then
               let x26 : List ((List ((Int) × (List (ByteArray)) × (List (ByteArray)) × Unit)) × Unit) := x24 ++ x25
               let x27 : (List ((Int) × (List (ByteArray)) × (List (ByteArray)) × Unit)) × Unit := (x18, ())
               let x28 : (List ((Int) × (List (ByteArray)) × (List (ByteArray)) × Unit)) × Unit := (x19, ())
               let x29 : List ((List ((Int) × (List (ByteArray)) × (List (ByteArray)) × Unit)) × Unit) := [x27, x28]
               if (List.length x26 + List.length x29) * 24 ≤ 140737488355328 ∧ List.length x26 + List.length x29 ≤ maxLen then
                let x30 : List ((List ((Int) × (List (ByteArray)) × (List (ByteArray)) × Unit)) × Unit) := x26 ++ x29
                let x31 : Int := IntKind.wrap .i64 (x1 + 2)
                if 0 ≤ x31 ∧ x31 ≤ (List.length x0 : Int) ∧ (List.length x0 : Int) ≤ (List.length x0 : Int) then
                 let x32 : List ((List ((Int) × (List (ByteArray)) × (List (ByteArray)) × Unit)) × Unit) := List.drop (Int.toNat x31) (List.take (Int.toNat (List.length x0 : Int)) x0)
                 if (List.length x30 + List.length x32) * 24 ≤ 140737488355328 ∧ List.length x30 + List.length x32 ≤ maxLen then
                  let x33 : List ((List ((Int) × (List (ByteArray)) × (List (ByteArray)) × Unit)) × Unit) := x30 ++ x32
                  Option.bind (changeforgeequal_Patches_14 (x3, x33, ())) fun r34 =>
                   let x34 := r34.1
                   if x34 = true then
                    Option.bind (changeforgelaw2_dropped_15 (())) fun r35 =>
                     let x35 := r35.1
                     j0 (x35, ())
                   else
                    j0 (false, ())
                 else none
                else none
               else none
              else none
             else none
         let x22 : Bool := ((x20 : Int) != 0)
         if x22 = true then
          j0 (true, ())
         else
          let x23 : Bool := (!((x4 : Bool) == x16))
          j0 (x23, ())
   let x8 : Bool := ((x6 : Int) != 0)
   if x8 = true then
    j0 (true, ())
   else
    let x9 : Bool := decide ((x1 : Int) < 0)
    if x9 = true then
     j0 (true, ())
    else
     let x10 : Int := (List.length x0 : Int)
     let x11 : Int := IntKind.wrap .i64 (x10 - 1)
     let x12 : Bool := decide ((x1 : Int) ≥ x11)
     j0 (x12, ())

/- changeforge/changeforgelaw2.StackDropUndone -/
noncomputable def changeforgelaw2_StackDropUndone_7 (a : (List (ByteArray)) × (List ((List ((Int) × (List (ByteArray)) × (List (ByteArray)) × Unit)) × Unit)) × (Int) × Unit) : Option ((Bool) × Unit) :=
  let x0 := a.1
  let x1 := a.2.1
  let x2 := a.2.2.1
  Option.bind (stack_Drop_12 (x1, x2, ())) fun r3 =>
   let x3 := r3.1
   let x4 := r3.2.1
   let x5 := r3.2.2.1
   let x6 : Int := x5.1
   let x7 : Int := x5.2.1
   let x8 : Int := (List.length x1 : Int)
   let x9 : Int := IntKind.wrap .i64 (x8 - 1)
   Option.bind (stack_Move_10 (x1, x2, x9, ())) fun r10 =>
    let x10 := r10.1
    let x11 := r10.2.1
    let x12 := r10.2.2.1
    let x13 : Int := x12.1
    let x14 : Int := x12.2.1
    Option.bind (stack_Apply_16 (x0, x1, ())) fun r15 =>
     let x15 := r15.1
     let x16 := r15.2.1
     let x17 : Int := x16.1
     let x18 : Int := x16.2.1
     let j0 : (Bool) × Unit → _ := fun s0 =>
       let x19 := s0.1
       if x19 = true then
        Option.bind (changeforgelaw2_dropped_15 (())) fun r20 =>
         let x20 := r20.1
         some (x20, ())
       else
        Option.bind (stack_Apply_16 (x0, x3, ())) fun r20 =>
         let x20 := r20.1
         let x21 := r20.2.1
         let x22 : Int := x21.1
         let x23 : Int := x21.2.1
         let x24 : Bool := ((x22 : Int) != 0)
         if x24 = true then
          let j0 : (Bool) × Unit → _ := fun s0 =>
            let x25 := s0.1
            some (x25, ())
          let x25 : Bool := ((x22 : Int) == 10)
          if x25 = true then
           Option.bind (changeforgelaw2_dropped_15 (())) fun r26 =>
            let x26 := r26.1
            j0 (x26, ())
          else
           j0 (false, ())
         else
          let x25 : Int := (List.length x10 : Int)
          let x26 : Int := IntKind.wrap .i64 (x25 - 1)
          atC x10 x26 fun y27 =>
           let x27 : (List ((Int) × (List (ByteArray)) × (List (ByteArray)) × Unit)) × Unit := y27
           let x28 : (List ((Int) × (List (ByteArray)) × (List (ByteArray)) × Unit)) × Unit := (x27.1, ())
           Option.bind (textpatch_Apply_19 (x28, x20, ())) fun r29 =>
            let x29 := r29.1
            let x30 := r29.2.1
            let x31 : Int := x30.1
            let x32 : Int := x30.2.1
            let j0 : (Bool) × Unit → _ := fun s0 =>
              let x33 := s0.1
              some (x33, ())
            let x33 : Bool := ((x31 : Int) == 0)
            if x33 = true then
             Option.bind (changeforgeequal_Strings_17 (x29, x15, ())) fun r34 =>
              let x34 := r34.1
              if x34 = true then
               Option.bind (changeforgelaw2_dropped_15 (())) fun r35 =>
                let x35 := r35.1
                j0 (x35, ())
              else
               j0 (false, ())
            else
             j0 (false, ())
     let x19 : Bool := ((x6 : Int) != 0)
     if x19 = true then
      j0 (true, ())
     else
      let x20 : Bool := ((x13 : Int) != 0)
      if x20 = true then
       j0 (true, ())
      else
       let x21 : Bool := ((x17 : Int) != 0)
       if x21 = true then
        j0 (true, ())
       else
        let x22 : Bool := (!x4)
        if x22 = true then
         j0 (true, ())
        else
         let x23 : Bool := (!x11)
         if x23 = true then
          j0 (true, ())
         else
          let x24 : Int := (List.length x10 : Int)
          let x25 : Bool := ((x24 : Int) == 0)
          j0 (x25, ())

/- changeforge/changeforgeref1.Equal -/
noncomputable def changeforgeref1_Equal_69 (a : (List (ByteArray)) × (List (ByteArray)) × Unit) : Option ((Bool) × Unit) :=
  let x0 := a.1
  let x1 := a.2.1
  let x2 : Int := (List.length x0 : Int)
  let x3 : Int := (List.length x1 : Int)
  let x4 : Bool := ((x2 : Int) != x3)
  if x4 = true then
   some (false, ())
  else
   let j0 : Unit → _ := fun s0 =>
     some (true, ())
   loopC (fun (s1 : (Int) × Unit) =>
     let x5 := s1.1
     let x6 : Int := (List.length x0 : Int)
     let x7 : Bool := decide ((x5 : Int) < x6)
     if x7 = true then
      atC x0 x5 fun y8 =>
       let x8 : ByteArray := y8
       let x9 : ByteArray := x8
       atC x1 x5 fun y10 =>
        let x10 : ByteArray := y10
        let x11 : ByteArray := x10
        let x12 : Bool := (!(ByteArray.toList x9 == ByteArray.toList x11))
        if x12 = true then
         some (.inr (false, ()))
        else
         let x13 : Int := IntKind.wrap .i64 (x5 + 1)
         some (.inl (x13, ()))
     else
      Option.map .inr (j0 (())))
     (0, ())

/- changeforge/changeforgeref1.has -/
noncomputable def changeforgeref1_has_57 (a : (List (ByteArray)) × (Int) × (List (ByteArray)) × Unit) : Option ((Bool) × Unit) :=
  let x0 := a.1
  let x1 := a.2.1
  let x2 := a.2.2.1
  let j0 : (Bool) × Unit → _ := fun s0 =>
    let x3 := s0.1
    if x3 = true then
     some (false, ())
    else
     let x4 : Int := (List.length x2 : Int)
     let x5 : Int := IntKind.wrap .i64 (x1 + x4)
     if 0 ≤ x1 ∧ x1 ≤ x5 ∧ x5 ≤ (List.length x0 : Int) then
      let x6 : List (ByteArray) := List.drop (Int.toNat x1) (List.take (Int.toNat x5) x0)
      Option.bind (changeforgeref1_Equal_69 (x6, x2, ())) fun r7 =>
       let x7 := r7.1
       some (x7, ())
     else none
  let x3 : Bool := decide ((x1 : Int) < 0)
  if x3 = true then
   j0 (true, ())
  else
   let x4 : Int := (List.length x2 : Int)
   let x5 : Int := IntKind.wrap .i64 (x1 + x4)
   let x6 : Int := (List.length x0 : Int)
   let x7 : Bool := decide ((x5 : Int) > x6)
   j0 (x7, ())

/- changeforge/changeforgeref1.fits -/
noncomputable def changeforgeref1_fits_64 (a : ((List ((Int) × (List (ByteArray)) × (List (ByteArray)) × Unit)) × Unit) × Unit) : Option (((List ((Int) × (List (ByteArray)) × (List (ByteArray)) × Unit)) × Unit) × ((Int) × (Int) × Unit) × Unit) :=
  let x0 := a.1
  let x1 : List ((Int) × (List (ByteArray)) × (List (ByteArray)) × Unit) := x0.1
  let x2 : (List ((Int) × (List (ByteArray)) × (List (ByteArray)) × Unit)) × Unit := (x1, ())
  Option.bind (changeforgeref1_PatchFault_50 (x2, ())) fun r3 =>
   let x3 := r3.1
   let x4 : Int := x3.1
   let x5 : Bool := ((x4 : Int) != 0)
   if x5 = true then
    Option.bind (changeforgeref1_At_29 (10, (-1), ())) fun r6 =>
     let x6 := r6.1
     let x7 : Int := x6.1
     let x8 : Int := x6.2.1
     let x9 : (List ((Int) × (List (ByteArray)) × (List (ByteArray)) × Unit)) × Unit := (([] : List ((Int) × (List (ByteArray)) × (List (ByteArray)) × Unit)), ())
     let x10 : (Int) × (Int) × Unit := (x7, x8, ())
     some (x9, x10, ())
   else
    let x6 : (List ((Int) × (List (ByteArray)) × (List (ByteArray)) × Unit)) × Unit := (x1, ())
    let x7 : (Int) × (Int) × Unit := (0, 0, ())
    some (x6, x7, ())

end Go.Proofs.Ytfepfapfogpfkaa.F
end
section
/- That they do: printed by a program of ours. -/
namespace Go.Proofs.Ytfepfapfogpfkaa.F
open Go Go.Proofs.Ytfepfapfogpfkaa.V
set_option maxRecDepth 100000
set_option linter.unusedVariables false
abbrev us (n : Nat) : List SA := List.replicate n .unk

theorem strings_ContainsRune_68_ok : Fn.Ok Try.prog ⟨68, [.str, .int .i32], [.bool], strings_ContainsRune_68⟩ := by
  intro a r hr
  unfold strings_ContainsRune_68 at hr
  simp only at hr
  split at hr
  · rename_i h
    injection hr with hr; subst hr
    refine ⟨Enters.of Try.func68 (by kernel_rfl) rfl, fun M w vs hM hargs => ?_⟩
    obtain ⟨hl, hv⟩ := hargs
    match vs, hl with
    | [x, y], _ =>
      obtain rfl := (hv 0 _ x rfl rfl).str_inv
      obtain rfl := (hv 1 _ y rfl rfl).int_inv
      refine (Try.strings_ContainsRune_ascii a.1 a.2.1 w h.1 h.2).mono fun e w' ⟨h2, h3⟩ => ?_
      subst h2; subst h3
      exact ⟨_, rfl, .bool _, Go.RowKit.Below.refl _ _⟩
  · cases hr


/- unicode/utf8.ValidRune -/
def utf8_ValidRune_77_h : List (Nat × SS × Nat) := [(102, ⟨us 10 ++ [.d (.v 2)] ++ us 6, [], []⟩, 1), (24, ⟨[.d (.v 0), .unk, .unk, .d (.v 1)] ++ us 13, [], []⟩, 1)]
theorem utf8_ValidRune_77_ok : Fn.Ok Try.prog ⟨77, [(.int .i32)], [.bool], utf8_ValidRune_77⟩ :=
  Fn.of (c := ⟨Try.prog, [], [], [], utf8_ValidRune_77_h⟩) (fs := []) (gs := []) (an := [.bool, .bool, .bool, .bool, .bool, .bool]) (by kernel_rfl) Try.func77 (by kernel_rfl) (by kernel_rfl) (fun _ h => by cases h) (fun _ h => by cases h) (by kernel_rfl)


/- internal/bytealg.Cutover -/
def bytealg_Cutover_78_h : List (Nat × SS × Nat) := []
theorem bytealg_Cutover_78_ok : Fn.Ok Try.prog ⟨78, [(.int .i64)], [(.int .i64)], bytealg_Cutover_78⟩ :=
  Fn.of (c := ⟨Try.prog, [], [], [], bytealg_Cutover_78_h⟩) (fs := []) (gs := []) (an := [(.int .i64), (.int .i64)]) (by kernel_rfl) Try.func78 (by kernel_rfl) (by kernel_rfl) (fun _ h => by cases h) (fun _ h => by cases h) (by kernel_rfl)


/- changeforge/lines.Validate -/
def lines_Validate_52_h : List (Nat × SS × Nat) := [(29, ⟨[.unk, .unk, .box 2 0] ++ us 26, [(2, .cs ([.d (.k (.int .i64 0)), .d (.k (.int .i64 0))]))], []⟩, 0), (58, ⟨[.unk, .unk, .box 2 0] ++ us 6 ++ [.d (.v 0), .d (.v 3), .d (.v 4)] ++ us 17, [(2, .cs ([.d (.k (.int .i64 0)), .d (.k (.int .i64 0))]))], []⟩, 1)]
theorem lines_Validate_52_ok : Fn.Ok Try.prog ⟨52, [(.sl .str)], [(.p (.int .i64) (.p (.int .i64) .e))], lines_Validate_52⟩ :=
  Fn.of (c := ⟨Try.prog, [(68, 1)], [], [], lines_Validate_52_h⟩) (fs := [⟨68, [.str, (.int .i32)], [.bool], strings_ContainsRune_68⟩]) (gs := []) (an := [(.int .i64), .bool, (.p (.int .i64) (.p (.int .i64) .e)), (.int .i64), (.p (.int .i64) (.p (.int .i64) .e)), (.int .i64), .bool, .str, .str, (.int .i64), .bool, (.int .i64), (.p (.int .i64) (.p (.int .i64) .e)), (.int .i64), (.p (.int .i64) (.p (.int .i64) .e)), (.int .i64)]) (by kernel_rfl) Try.func52 (by kernel_rfl) (by kernel_rfl) (by simp only [List.forall_mem_cons, List.not_mem_nil, false_implies, implies_true, and_true]; exact strings_ContainsRune_68_ok) (fun _ h => by cases h) (by kernel_rfl)


/- changeforge/lines.Code -/
def lines_Code_33_h : List (Nat × SS × Nat) := []
theorem lines_Code_33_ok : Fn.Ok Try.prog ⟨33, [(.sl .str)], [(.int .i64)], lines_Code_33⟩ :=
  Fn.of (c := ⟨Try.prog, [(52, 1)], [], [], lines_Code_33_h⟩) (fs := [⟨52, [(.sl .str)], [(.p (.int .i64) (.p (.int .i64) .e))], lines_Validate_52⟩]) (gs := []) (an := [(.int .i64)]) (by kernel_rfl) Try.func33 (by kernel_rfl) (by kernel_rfl) (by simp only [List.forall_mem_cons, List.not_mem_nil, false_implies, implies_true, and_true]; exact lines_Validate_52_ok) (fun _ h => by cases h) (by kernel_rfl)


/- changeforge/textpatch.End -/
def textpatch_End_42_h : List (Nat × SS × Nat) := []
theorem textpatch_End_42_ok : Fn.Ok Try.prog ⟨42, [(.p (.int .i64) (.p (.sl .str) (.p (.sl .str) .e)))], [(.int .i64)], textpatch_End_42⟩ :=
  Fn.of (c := ⟨Try.prog, [], [], [], textpatch_End_42_h⟩) (fs := []) (gs := []) (an := [(.int .i64), (.sl .str), (.sl .str), (.int .i64), (.int .i64)]) (by kernel_rfl) Try.func42 (by kernel_rfl) (by kernel_rfl) (fun _ h => by cases h) (fun _ h => by cases h) (by kernel_rfl)


/- changeforge/textpatch.hunkCode -/
def textpatch_hunkCode_55_h : List (Nat × SS × Nat) := [(1662, ⟨[.unk, .unk, .box 2 0] ++ us 27 ++ [.d (.v 10)] ++ us 20, [(2, .cs ([.d (.v 2), .d (.v 3), .d (.v 4)]))], []⟩, 1), (24, ⟨[.unk, .d (.v 1), .box 2 0, .unk, .unk, .d (.v 5)] ++ us 45, [(2, .cs ([.d (.v 2), .d (.v 3), .d (.v 4)]))], []⟩, 1)]
theorem textpatch_hunkCode_55_ok : Fn.Ok Try.prog ⟨55, [(.p (.int .i64) (.p (.sl .str) (.p (.sl .str) .e))), (.int .i64)], [(.int .i64)], textpatch_hunkCode_55⟩ :=
  Fn.of (c := ⟨Try.prog, [(33, 1), (42, 1)], [], [], textpatch_hunkCode_55_h⟩) (fs := [⟨33, [(.sl .str)], [(.int .i64)], lines_Code_33⟩, ⟨42, [(.p (.int .i64) (.p (.sl .str) (.p (.sl .str) .e)))], [(.int .i64)], textpatch_End_42⟩]) (gs := []) (an := [(.int .i64), (.sl .str), (.sl .str), .bool, .bool, .bool, .bool, (.p (.int .i64) (.p (.sl .str) (.p (.sl .str) .e))), .bool, (.int .i64), .bool, (.int .i64), .bool, .bool, .bool, .bool, .bool]) (by kernel_rfl) Try.func55 (by kernel_rfl) (by kernel_rfl) (by simp only [List.forall_mem_cons, List.not_mem_nil, false_implies, implies_true, and_true]; exact ⟨lines_Code_33_ok, textpatch_End_42_ok⟩) (fun _ h => by cases h) (by kernel_rfl)


/- changeforge/textpatch.Validate -/
def textpatch_Validate_41_h : List (Nat × SS × Nat) := [(61, ⟨[.unk, .unk, .box 2 0] ++ us 30, [(2, .cs ([.d (.k (.int .i64 0)), .d (.k (.int .i64 0))]))], []⟩, 0), (122, ⟨[.unk, .unk, .box 2 0, .d (.v 5)] ++ us 9 ++ [.d (.v 1), .d (.v 4), .d (.v 6)] ++ us 17, [(2, .cs ([.d (.k (.int .i64 0)), .d (.k (.int .i64 0))]))], []⟩, 2)]
theorem textpatch_Validate_41_ok : Fn.Ok Try.prog ⟨41, [(.p (.sl (.p (.int .i64) (.p (.sl .str) (.p (.sl .str) .e)))) .e)], [(.p (.int .i64) (.p (.int .i64) .e))], textpatch_Validate_41⟩ :=
  Fn.of (c := ⟨Try.prog, [(55, 1), (42, 1)], [], [], textpatch_Validate_41_h⟩) (fs := [⟨55, [(.p (.int .i64) (.p (.sl .str) (.p (.sl .str) .e))), (.int .i64)], [(.int .i64)], textpatch_hunkCode_55⟩, ⟨42, [(.p (.int .i64) (.p (.sl .str) (.p (.sl .str) .e)))], [(.int .i64)], textpatch_End_42⟩]) (gs := []) (an := [(.sl (.p (.int .i64) (.p (.sl .str) (.p (.sl .str) .e)))), (.int .i64), .bool, (.p (.int .i64) (.p (.int .i64) .e)), (.int .i64), (.p (.int .i64) (.p (.int .i64) .e)), (.int .i64), (.int .i64), .bool, (.p (.int .i64) (.p (.sl .str) (.p (.sl .str) .e))), (.p (.int .i64) (.p (.sl .str) (.p (.sl .str) .e))), (.int .i64), (.sl .str), (.sl .str), (.p (.int .i64) (.p (.sl .str) (.p (.sl .str) .e))), .bool, (.int .i64), (.int .i64), (.p (.int .i64) (.p (.int .i64) .e)), (.p (.int .i64) (.p (.sl .str) (.p (.sl .str) .e))), (.int .i64), (.int .i64)]) (by kernel_rfl) Try.func41 (by kernel_rfl) (by kernel_rfl) (by simp only [List.forall_mem_cons, List.not_mem_nil, false_implies, implies_true, and_true]; exact ⟨textpatch_hunkCode_55_ok, textpatch_End_42_ok⟩) (fun _ h => by cases h) (by kernel_rfl)


/- changeforge/stack.Validate -/
def stack_Validate_23_h : List (Nat × SS × Nat) := [(29, ⟨[.unk, .unk, .box 2 0] ++ us 25, [(2, .cs ([.d (.k (.int .i64 0)), .d (.k (.int .i64 0))]))], []⟩, 0), (58, ⟨[.unk, .unk, .box 2 0] ++ us 7 ++ [.d (.v 0), .d (.v 3), .d (.v 4)] ++ us 15, [(2, .cs ([.d (.k (.int .i64 0)), .d (.k (.int .i64 0))]))], []⟩, 1)]
theorem stack_Validate_23_ok : Fn.Ok Try.prog ⟨23, [(.sl (.p (.sl (.p (.int .i64) (.p (.sl .str) (.p (.sl .str) .e)))) .e))], [(.p (.int .i64) (.p (.int .i64) .e))], stack_Validate_23⟩ :=
  Fn.of (c := ⟨Try.prog, [(41, 1)], [], [], stack_Validate_23_h⟩) (fs := [⟨41, [(.p (.sl (.p (.int .i64) (.p (.sl .str) (.p (.sl .str) .e)))) .e)], [(.p (.int .i64) (.p (.int .i64) .e))], textpatch_Validate_41⟩]) (gs := []) (an := [(.int .i64), .bool, (.p (.int .i64) (.p (.int .i64) .e)), (.int .i64), (.p (.int .i64) (.p (.int .i64) .e)), (.int .i64), .bool, (.p (.sl (.p (.int .i64) (.p (.sl .str) (.p (.sl .str) .e)))) .e), (.p (.sl (.p (.int .i64) (.p (.sl .str) (.p (.sl .str) .e)))) .e), (.sl (.p (.int .i64) (.p (.sl .str) (.p (.sl .str) .e)))), (.p (.sl (.p (.int .i64) (.p (.sl .str) (.p (.sl .str) .e)))) .e), (.int .i64), (.int .i64), (.p (.int .i64) (.p (.int .i64) .e)), (.p (.int .i64) (.p (.int .i64) .e)), .bool, (.int .i64), (.int .i64), (.p (.int .i64) (.p (.int .i64) .e)), (.int .i64)]) (by kernel_rfl) Try.func23 (by kernel_rfl) (by kernel_rfl) (by simp only [List.forall_mem_cons, List.not_mem_nil, false_implies, implies_true, and_true]; exact textpatch_Validate_41_ok) (fun _ h => by cases h) (by kernel_rfl)


/- changeforge/stack.position -/
def stack_position_24_h : List (Nat × SS × Nat) := [(12, ⟨[.unk, .unk, .d (.v 2), .unk, .unk, .unk, .box 6 0] ++ us 7 ++ [.d (.v 3)] ++ us 3, [(6, .cs ([.d (.k (.int .i64 0)), .d (.k (.int .i64 0))]))], []⟩, 1)]
theorem stack_position_24_ok : Fn.Ok Try.prog ⟨24, [(.sl (.p (.sl (.p (.int .i64) (.p (.sl .str) (.p (.sl .str) .e)))) .e)), (.int .i64), (.int .i64)], [(.p (.int .i64) (.p (.int .i64) .e))], stack_position_24⟩ :=
  Fn.of (c := ⟨Try.prog, [], [], [], stack_position_24_h⟩) (fs := []) (gs := []) (an := [.bool, (.int .i64), (.p (.int .i64) (.p (.int .i64) .e)), (.p (.int .i64) (.p (.int .i64) .e)), .bool, (.int .i64), .bool]) (by kernel_rfl) Try.func24 (by kernel_rfl) (by kernel_rfl) (fun _ h => by cases h) (fun _ h => by cases h) (by kernel_rfl)


/- slices.Clone[[]string,string] -/
def slices_Clone___string_string__34_h : List (Nat × SS × Nat) := []
theorem slices_Clone___string_string__34_ok : Fn.Ok Try.prog ⟨34, [(.sl .str)], [(.sl .str)], slices_Clone___string_string__34⟩ :=
  Fn.of (c := ⟨Try.prog, [], [], [], slices_Clone___string_string__34_h⟩) (fs := []) (gs := []) (an := [(.sl .str), (.sl .str)]) (by kernel_rfl) Try.func34 (by kernel_rfl) (by kernel_rfl) (fun _ h => by cases h) (fun _ h => by cases h) (by kernel_rfl)


/- changeforge/textpatch.Moved -/
def textpatch_Moved_49_h : List (Nat × SS × Nat) := []
theorem textpatch_Moved_49_ok : Fn.Ok Try.prog ⟨49, [(.p (.int .i64) (.p (.sl .str) (.p (.sl .str) .e))), (.int .i64)], [(.p (.int .i64) (.p (.sl .str) (.p (.sl .str) .e)))], textpatch_Moved_49⟩ :=
  Fn.of (c := ⟨Try.prog, [(34, 1)], [], [], textpatch_Moved_49_h⟩) (fs := [⟨34, [(.sl .str)], [(.sl .str)], slices_Clone___string_string__34⟩]) (gs := []) (an := [(.int .i64), (.sl .str), (.sl .str), (.int .i64), (.sl .str), (.sl .str), (.p (.int .i64) (.p (.sl .str) (.p (.sl .str) .e)))]) (by kernel_rfl) Try.func49 (by kernel_rfl) (by kernel_rfl) (by simp only [List.forall_mem_cons, List.not_mem_nil, false_implies, implies_true, and_true]; exact slices_Clone___string_string__34_ok) (fun _ h => by cases h) (by kernel_rfl)


/- changeforge/stack.clone -/
def stack_clone_25_h : List (Nat × SS × Nat) := [(29, ⟨[.unk, .unk, .unk, .row 35 38 1 (.l 2)] ++ us 34, [(35, .row 2 1)], [.t 29]⟩, 1), (29901, ⟨[.unk, .unk, .unk, .row 35 38 1 (.l 9), .unk, .unk, .box 6 0, .unk, .unk, .d (.v 0), .d (.v 1), .d (.v 10)] ++ us 26, [(35, .row 9 1), (6, .cs ([.grow 66 3 11]))], [.t 29]⟩, 3), (59802, ⟨[.unk, .unk, .unk, .row 35 38 1 (.l 9), .unk, .unk, .box 6 0, .unk, .unk, .d (.v 0), .d (.v 1), .d (.v 10)] ++ us 4 ++ [.d (.v 11), .d (.v 12), .d (.v 13)] ++ us 19, [(35, .row 9 1), (6, .cs ([.grow 66 3 14]))], [.t 29]⟩, 6), (58, ⟨[.unk, .unk, .unk, .row 35 38 1 (.l 2)] ++ us 5 ++ [.d (.v 0), .d (.v 1), .d (.v 3)] ++ us 26, [(35, .row 2 1)], [.t 29]⟩, 2)]
def stack_clone_25_g : Sg := ⟨25, [.d (.v 0)], [], 1, [.row 35 38 1 (.l 0)], [(35, .row 0 1)], 1, []⟩
theorem stack_clone_25_ok : Gn.Ok Try.prog ⟨stack_clone_25_g, [(.sl (.p (.sl (.p (.int .i64) (.p (.sl .str) (.p (.sl .str) .e)))) .e))], [(.sl (.p (.sl (.p (.int .i64) (.p (.sl .str) (.p (.sl .str) .e)))) .e))], stack_clone_25⟩ :=
  Gn.of' (c := ⟨Try.prog, [(49, 1)], [], [35], stack_clone_25_h⟩) (fs := [⟨49, [(.p (.int .i64) (.p (.sl .str) (.p (.sl .str) .e))), (.int .i64)], [(.p (.int .i64) (.p (.sl .str) (.p (.sl .str) .e)))], textpatch_Moved_49⟩]) (gs := []) (an := [(.int .i64), (.sl (.p (.sl (.p (.int .i64) (.p (.sl .str) (.p (.sl .str) .e)))) .e)), (.sl (.p (.sl (.p (.int .i64) (.p (.sl .str) (.p (.sl .str) .e)))) .e)), (.int .i64), .bool, (.p (.sl (.p (.int .i64) (.p (.sl .str) (.p (.sl .str) .e)))) .e), (.p (.sl (.p (.int .i64) (.p (.sl .str) (.p (.sl .str) .e)))) .e), (.sl (.p (.int .i64) (.p (.sl .str) (.p (.sl .str) .e)))), (.int .i64), (.sl (.p (.sl (.p (.int .i64) (.p (.sl .str) (.p (.sl .str) .e)))) .e)), (.int .i64), (.sl (.p (.int .i64) (.p (.sl .str) (.p (.sl .str) .e)))), (.p (.sl (.p (.int .i64) (.p (.sl .str) (.p (.sl .str) .e)))) .e), (.sl (.p (.sl (.p (.int .i64) (.p (.sl .str) (.p (.sl .str) .e)))) .e)), (.sl (.p (.sl (.p (.int .i64) (.p (.sl .str) (.p (.sl .str) .e)))) .e)), (.int .i64), (.sl (.p (.sl (.p (.int .i64) (.p (.sl .str) (.p (.sl .str) .e)))) .e)), (.int .i64), (.sl (.p (.int .i64) (.p (.sl .str) (.p (.sl .str) .e)))), (.int .i64), (.int .i64), (.sl (.p (.int .i64) (.p (.sl .str) (.p (.sl .str) .e)))), .bool, (.p (.int .i64) (.p (.sl .str) (.p (.sl .str) .e))), (.p (.int .i64) (.p (.sl .str) (.p (.sl .str) .e))), (.int .i64), (.sl .str), (.sl .str), (.p (.int .i64) (.p (.sl .str) (.p (.sl .str) .e))), (.sl (.p (.int .i64) (.p (.sl .str) (.p (.sl .str) .e)))), (.sl (.p (.int .i64) (.p (.sl .str) (.p (.sl .str) .e)))), (.int .i64)]) (by kernel_rfl) Try.func25 (by kernel_rfl) (by kernel_rfl) (by simp only [List.forall_mem_cons, List.not_mem_nil, false_implies, implies_true, and_true]; exact textpatch_Moved_49_ok) (fun _ h => by cases h) (by kernel_rfl)


/- changeforge/commute.check -/
def commute_check_35_h : List (Nat × SS × Nat) := []
theorem commute_check_35_ok : Fn.Ok Try.prog ⟨35, [(.p (.sl (.p (.int .i64) (.p (.sl .str) (.p (.sl .str) .e)))) .e), (.p (.sl (.p (.int .i64) (.p (.sl .str) (.p (.sl .str) .e)))) .e)], [(.p (.int .i64) (.p (.int .i64) .e))], commute_check_35⟩ :=
  Fn.of (c := ⟨Try.prog, [(41, 1)], [], [], commute_check_35_h⟩) (fs := [⟨41, [(.p (.sl (.p (.int .i64) (.p (.sl .str) (.p (.sl .str) .e)))) .e)], [(.p (.int .i64) (.p (.int .i64) .e))], textpatch_Validate_41⟩]) (gs := []) (an := [(.sl (.p (.int .i64) (.p (.sl .str) (.p (.sl .str) .e)))), (.sl (.p (.int .i64) (.p (.sl .str) (.p (.sl .str) .e)))), (.p (.sl (.p (.int .i64) (.p (.sl .str) (.p (.sl .str) .e)))) .e), (.int .i64), (.int .i64), (.p (.int .i64) (.p (.int .i64) .e)), (.p (.int .i64) (.p (.int .i64) .e)), .bool, (.p (.int .i64) (.p (.int .i64) .e)), (.p (.sl (.p (.int .i64) (.p (.sl .str) (.p (.sl .str) .e)))) .e), (.int .i64), (.int .i64), (.p (.int .i64) (.p (.int .i64) .e)), (.p (.int .i64) (.p (.int .i64) .e)), .bool, (.int .i64), (.p (.int .i64) (.p (.int .i64) .e)), (.p (.int .i64) (.p (.int .i64) .e))]) (by kernel_rfl) Try.func35 (by kernel_rfl) (by kernel_rfl) (by simp only [List.forall_mem_cons, List.not_mem_nil, false_implies, implies_true, and_true]; exact textpatch_Validate_41_ok) (fun _ h => by cases h) (by kernel_rfl)


/- changeforge/commute.news -/
def commute_news_37_h : List (Nat × SS × Nat) := [(61, ⟨[.unk, .unk, .unk, .grow 73 2 3] ++ us 37, [], [.t 29]⟩, 1), (122, ⟨[.unk, .unk, .unk, .grow 73 2 3, .d (.v 4), .unk, .unk, .unk, .d (.v 1), .d (.v 2), .d (.v 5)] ++ us 30, [], [.t 29]⟩, 3)]
theorem commute_news_37_ok : Fn.Ok Try.prog ⟨37, [(.p (.sl (.p (.int .i64) (.p (.sl .str) (.p (.sl .str) .e)))) .e)], [(.sl (.p (.int .i64) (.p (.int .i64) .e)))], commute_news_37⟩ :=
  Fn.of (c := ⟨Try.prog, [], [], [], commute_news_37_h⟩) (fs := []) (gs := []) (an := [(.sl (.p (.int .i64) (.p (.sl .str) (.p (.sl .str) .e)))), (.int .i64), (.sl (.p (.int .i64) (.p (.int .i64) .e))), (.sl (.p (.int .i64) (.p (.int .i64) .e))), (.int .i64), (.int .i64), .bool, (.p (.int .i64) (.p (.sl .str) (.p (.sl .str) .e))), (.p (.int .i64) (.p (.sl .str) (.p (.sl .str) .e))), (.int .i64), (.sl .str), (.sl .str), (.int .i64), (.int .i64), (.int .i64), (.int .i64), (.int .i64), (.int .i64), (.p (.int .i64) (.p (.int .i64) .e)), (.sl (.p (.int .i64) (.p (.int .i64) .e))), (.sl (.p (.int .i64) (.p (.int .i64) .e))), (.int .i64), (.int .i64), (.int .i64), (.int .i64), (.int .i64)]) (by kernel_rfl) Try.func37 (by kernel_rfl) (by kernel_rfl) (fun _ h => by cases h) (fun _ h => by cases h) (by kernel_rfl)


/- changeforge/commute.olds -/
def commute_olds_38_h : List (Nat × SS × Nat) := [(29, ⟨[.unk, .unk, .unk, .grow 73 2 3] ++ us 19, [], [.t 20]⟩, 1), (58, ⟨[.unk, .unk, .unk, .grow 73 2 3, .unk, .unk, .unk, .d (.v 1), .d (.v 2), .d (.v 4)] ++ us 13, [], [.t 20]⟩, 2)]
theorem commute_olds_38_ok : Fn.Ok Try.prog ⟨38, [(.p (.sl (.p (.int .i64) (.p (.sl .str) (.p (.sl .str) .e)))) .e)], [(.sl (.p (.int .i64) (.p (.int .i64) .e)))], commute_olds_38⟩ :=
  Fn.of (c := ⟨Try.prog, [(42, 1)], [], [], commute_olds_38_h⟩) (fs := [⟨42, [(.p (.int .i64) (.p (.sl .str) (.p (.sl .str) .e)))], [(.int .i64)], textpatch_End_42⟩]) (gs := []) (an := [(.sl (.p (.int .i64) (.p (.sl .str) (.p (.sl .str) .e)))), (.int .i64), (.sl (.p (.int .i64) (.p (.int .i64) .e))), (.sl (.p (.int .i64) (.p (.int .i64) .e))), (.int .i64), .bool, (.p (.int .i64) (.p (.sl .str) (.p (.sl .str) .e))), (.p (.int .i64) (.p (.sl .str) (.p (.sl .str) .e))), (.int .i64), (.sl .str), (.sl .str), (.p (.int .i64) (.p (.sl .str) (.p (.sl .str) .e))), (.int .i64), (.int .i64), (.p (.int .i64) (.p (.int .i64) .e)), (.sl (.p (.int .i64) (.p (.int .i64) .e))), (.sl (.p (.int .i64) (.p (.int .i64) .e))), (.int .i64)]) (by kernel_rfl) Try.func38 (by kernel_rfl) (by kernel_rfl) (by simp only [List.forall_mem_cons, List.not_mem_nil, false_implies, implies_true, and_true]; exact textpatch_End_42_ok) (fun _ h => by cases h) (by kernel_rfl)


/- changeforge/commute.apart -/
def commute_apart_53_h : List (Nat × SS × Nat) := [(6, ⟨us 4 ++ [.d (.v 6)] ++ us 12, [], []⟩, 1)]
theorem commute_apart_53_ok : Fn.Ok Try.prog ⟨53, [(.p (.int .i64) (.p (.int .i64) .e)), (.p (.int .i64) (.p (.int .i64) .e))], [.bool], commute_apart_53⟩ :=
  Fn.of (c := ⟨Try.prog, [], [], [], commute_apart_53_h⟩) (fs := []) (gs := []) (an := [(.int .i64), (.int .i64), (.int .i64), (.int .i64), .bool, .bool, .bool]) (by kernel_rfl) Try.func53 (by kernel_rfl) (by kernel_rfl) (fun _ h => by cases h) (fun _ h => by cases h) (by kernel_rfl)


/- changeforge/commute.independent -/
def commute_independent_36_h : List (Nat × SS × Nat) := [(13, ⟨us 27, [], []⟩, 0), (422, ⟨[.unk, .d (.v 1)] ++ us 7 ++ [.d (.v 0), .d (.v 2), .d (.v 5)] ++ us 15, [], []⟩, 1), (3379, ⟨[.unk, .d (.v 1)] ++ us 7 ++ [.d (.v 0), .d (.v 2), .d (.v 10)] ++ us 15, [], []⟩, 1), (6758, ⟨[.unk, .d (.v 1)] ++ us 4 ++ [.box 6 0, .unk, .unk, .d (.v 0), .d (.v 2), .d (.v 10), .unk, .unk, .unk, .d (.v 1), .d (.v 11), .d (.v 12)] ++ us 9, [(6, .cs ([.d (.v 13), .d (.v 14)]))], []⟩, 5), (26, ⟨[.unk, .d (.v 1)] ++ us 7 ++ [.d (.v 0), .d (.v 2), .d (.v 3)] ++ us 15, [], []⟩, 1)]
theorem commute_independent_36_ok : Fn.Ok Try.prog ⟨36, [(.sl (.p (.int .i64) (.p (.int .i64) .e))), (.sl (.p (.int .i64) (.p (.int .i64) .e)))], [.bool], commute_independent_36⟩ :=
  Fn.of (c := ⟨Try.prog, [(53, 1)], [], [], commute_independent_36_h⟩) (fs := [⟨53, [(.p (.int .i64) (.p (.int .i64) .e)), (.p (.int .i64) (.p (.int .i64) .e))], [.bool], commute_apart_53⟩]) (gs := []) (an := [(.int .i64), (.int .i64), .bool, (.int .i64), (.int .i64), (.p (.int .i64) (.p (.int .i64) .e)), (.p (.int .i64) (.p (.int .i64) .e)), (.int .i64), (.int .i64), (.int .i64), (.int .i64), (.int .i64), (.int .i64), (.int .i64), (.int .i64), (.int .i64), .bool, (.p (.int .i64) (.p (.int .i64) .e)), (.p (.int .i64) (.p (.int .i64) .e)), (.int .i64), (.int .i64), (.p (.int .i64) (.p (.int .i64) .e)), (.p (.int .i64) (.p (.int .i64) .e)), .bool, (.int .i64)]) (by kernel_rfl) Try.func36 (by kernel_rfl) (by kernel_rfl) (by simp only [List.forall_mem_cons, List.not_mem_nil, false_implies, implies_true, and_true]; exact commute_apart_53_ok) (fun _ h => by cases h) (by kernel_rfl)


/- changeforge/commute.growth -/
def commute_growth_54_h : List (Nat × SS × Nat) := [(29, ⟨us 7 ++ [.d (.v 5)] ++ us 28, [], []⟩, 1), (934, ⟨[.unk, .d (.v 1), .d (.v 2)] ++ us 4 ++ [.d (.v 8), .unk, .unk, .unk, .d (.v 3), .d (.v 4), .d (.v 9)] ++ us 22, [], []⟩, 2), (7475, ⟨[.unk, .d (.v 1), .d (.v 2)] ++ us 4 ++ [.d (.v 16), .unk, .unk, .unk, .d (.v 3), .d (.v 4), .d (.v 17)] ++ us 22, [], []⟩, 2), (58, ⟨[.unk, .d (.v 1), .d (.v 2)] ++ us 4 ++ [.d (.v 5), .unk, .unk, .unk, .d (.v 3), .d (.v 4), .d (.v 6)] ++ us 22, [], []⟩, 2)]
theorem commute_growth_54_ok : Fn.Ok Try.prog ⟨54, [(.p (.sl (.p (.int .i64) (.p (.sl .str) (.p (.sl .str) .e)))) .e), (.sl (.p (.int .i64) (.p (.int .i64) .e))), (.int .i64)], [(.int .i64)], commute_growth_54⟩ :=
  Fn.of (c := ⟨Try.prog, [], [], [], commute_growth_54_h⟩) (fs := []) (gs := []) (an := [(.sl (.p (.int .i64) (.p (.sl .str) (.p (.sl .str) .e)))), (.int .i64), (.int .i64), (.int .i64), (.int .i64), .bool, (.int .i64), (.int .i64), (.int .i64), (.p (.int .i64) (.p (.sl .str) (.p (.sl .str) .e))), (.p (.int .i64) (.p (.sl .str) (.p (.sl .str) .e))), (.int .i64), (.sl .str), (.sl .str), (.p (.int .i64) (.p (.int .i64) .e)), (.int .i64), .bool, (.int .i64), (.int .i64), (.int .i64), (.int .i64), (.int .i64), (.int .i64)]) (by kernel_rfl) Try.func54 (by kernel_rfl) (by kernel_rfl) (fun _ h => by cases h) (fun _ h => by cases h) (by kernel_rfl)


/- changeforge/commute.shifted -/
def commute_shifted_40_h : List (Nat × SS × Nat) := [(29, ⟨us 8 ++ [.box 8 0, .box 9 0] ++ us 28, [(8, .cs ([.d (.k (.nil))])), (9, .cs ([.grow 66 3 7]))], [.t 34]⟩, 1), (58, ⟨[.unk, .unk, .d (.v 2), .d (.v 3), .unk, .box 5 0, .unk, .unk, .box 8 0, .box 9 0, .unk, .unk, .unk, .d (.v 4), .d (.v 6), .d (.v 7)] ++ us 22, [(5, .cs ([.d (.v 5)])), (8, .cs ([.d (.k (.nil))])), (9, .cs ([.grow 66 3 8]))], [.t 34]⟩, 2)]
theorem commute_shifted_40_ok : Fn.Ok Try.prog ⟨40, [(.p (.sl (.p (.int .i64) (.p (.sl .str) (.p (.sl .str) .e)))) .e), (.p (.sl (.p (.int .i64) (.p (.sl .str) (.p (.sl .str) .e)))) .e), (.sl (.p (.int .i64) (.p (.int .i64) .e))), (.int .i64)], [(.p (.sl (.p (.int .i64) (.p (.sl .str) (.p (.sl .str) .e)))) .e)], commute_shifted_40⟩ :=
  Fn.of (c := ⟨Try.prog, [(54, 1), (49, 1)], [], [], commute_shifted_40_h⟩) (fs := [⟨54, [(.p (.sl (.p (.int .i64) (.p (.sl .str) (.p (.sl .str) .e)))) .e), (.sl (.p (.int .i64) (.p (.int .i64) .e))), (.int .i64)], [(.int .i64)], commute_growth_54⟩, ⟨49, [(.p (.int .i64) (.p (.sl .str) (.p (.sl .str) .e))), (.int .i64)], [(.p (.int .i64) (.p (.sl .str) (.p (.sl .str) .e)))], textpatch_Moved_49⟩]) (gs := []) (an := [(.sl (.p (.int .i64) (.p (.sl .str) (.p (.sl .str) .e)))), (.sl (.p (.int .i64) (.p (.sl .str) (.p (.sl .str) .e)))), (.int .i64), (.sl (.p (.int .i64) (.p (.sl .str) (.p (.sl .str) .e)))), (.p (.sl (.p (.int .i64) (.p (.sl .str) (.p (.sl .str) .e)))) .e), (.int .i64), (.sl (.p (.int .i64) (.p (.sl .str) (.p (.sl .str) .e)))), .bool, (.p (.int .i64) (.p (.sl .str) (.p (.sl .str) .e))), (.p (.int .i64) (.p (.sl .str) (.p (.sl .str) .e))), (.int .i64), (.sl .str), (.sl .str), (.p (.sl (.p (.int .i64) (.p (.sl .str) (.p (.sl .str) .e)))) .e), (.int .i64), (.int .i64), (.p (.int .i64) (.p (.sl .str) (.p (.sl .str) .e))), (.sl (.p (.int .i64) (.p (.sl .str) (.p (.sl .str) .e)))), (.sl (.p (.int .i64) (.p (.sl .str) (.p (.sl .str) .e)))), (.int .i64)]) (by kernel_rfl) Try.func40 (by kernel_rfl) (by kernel_rfl) (by simp only [List.forall_mem_cons, List.not_mem_nil, false_implies, implies_true, and_true]; exact ⟨commute_growth_54_ok, textpatch_Moved_49_ok⟩) (fun _ h => by cases h) (by kernel_rfl)


end Go.Proofs.Ytfepfapfogpfkaa.F
end
section
/- That they do: printed by a program of ours. -/
namespace Go.Proofs.Ytfepfapfogpfkaa.F
open Go Go.Proofs.Ytfepfapfogpfkaa.V
set_option maxRecDepth 100000
set_option linter.unusedVariables false

/- changeforge/textpatch.Fit -/
def textpatch_Fit_39_h : List (Nat × SS × Nat) := []
theorem textpatch_Fit_39_ok : Fn.Ok Try.prog ⟨39, [(.p (.sl (.p (.int .i64) (.p (.sl .str) (.p (.sl .str) .e)))) .e)], [(.p (.sl (.p (.int .i64) (.p (.sl .str) (.p (.sl .str) .e)))) .e), (.p (.int .i64) (.p (.int .i64) .e))], textpatch_Fit_39⟩ :=
  Fn.of (c := ⟨Try.prog, [(41, 1)], [], [], textpatch_Fit_39_h⟩) (fs := [⟨41, [(.p (.sl (.p (.int .i64) (.p (.sl .str) (.p (.sl .str) .e)))) .e)], [(.p (.int .i64) (.p (.int .i64) .e))], textpatch_Validate_41⟩]) (gs := []) (an := [(.sl (.p (.int .i64) (.p (.sl .str) (.p (.sl .str) .e)))), (.p (.sl (.p (.int .i64) (.p (.sl .str) (.p (.sl .str) .e)))) .e), (.p (.int .i64) (.p (.int .i64) .e)), .bool, (.p (.sl (.p (.int .i64) (.p (.sl .str) (.p (.sl .str) .e)))) .e), (.p (.int .i64) (.p (.int .i64) .e)), (.p (.sl (.p (.int .i64) (.p (.sl .str) (.p (.sl .str) .e)))) .e), (.p (.int .i64) (.p (.int .i64) .e))]) (by kernel_rfl) Try.func39 (by kernel_rfl) (by kernel_rfl) (by simp only [List.forall_mem_cons, List.not_mem_nil, false_implies, implies_true, and_true]; exact textpatch_Validate_41_ok) (fun _ h => by cases h) (by kernel_rfl)


/- changeforge/commute.Commute -/
def commute_Commute_18_h : List (Nat × SS × Nat) := []
theorem commute_Commute_18_ok : Fn.Ok Try.prog ⟨18, [(.p (.sl (.p (.int .i64) (.p (.sl .str) (.p (.sl .str) .e)))) .e), (.p (.sl (.p (.int .i64) (.p (.sl .str) (.p (.sl .str) .e)))) .e)], [(.p (.sl (.p (.int .i64) (.p (.sl .str) (.p (.sl .str) .e)))) .e), (.p (.sl (.p (.int .i64) (.p (.sl .str) (.p (.sl .str) .e)))) .e), .bool, (.p (.int .i64) (.p (.int .i64) .e))], commute_Commute_18⟩ :=
  Fn.of (c := ⟨Try.prog, [(35, 1), (37, 1), (38, 1), (36, 1), (40, 1), (39, 2)], [], [], commute_Commute_18_h⟩) (fs := [⟨35, [(.p (.sl (.p (.int .i64) (.p (.sl .str) (.p (.sl .str) .e)))) .e), (.p (.sl (.p (.int .i64) (.p (.sl .str) (.p (.sl .str) .e)))) .e)], [(.p (.int .i64) (.p (.int .i64) .e))], commute_check_35⟩, ⟨37, [(.p (.sl (.p (.int .i64) (.p (.sl .str) (.p (.sl .str) .e)))) .e)], [(.sl (.p (.int .i64) (.p (.int .i64) .e)))], commute_news_37⟩, ⟨38, [(.p (.sl (.p (.int .i64) (.p (.sl .str) (.p (.sl .str) .e)))) .e)], [(.sl (.p (.int .i64) (.p (.int .i64) .e)))], commute_olds_38⟩, ⟨36, [(.sl (.p (.int .i64) (.p (.int .i64) .e))), (.sl (.p (.int .i64) (.p (.int .i64) .e)))], [.bool], commute_independent_36⟩, ⟨40, [(.p (.sl (.p (.int .i64) (.p (.sl .str) (.p (.sl .str) .e)))) .e), (.p (.sl (.p (.int .i64) (.p (.sl .str) (.p (.sl .str) .e)))) .e), (.sl (.p (.int .i64) (.p (.int .i64) .e))), (.int .i64)], [(.p (.sl (.p (.int .i64) (.p (.sl .str) (.p (.sl .str) .e)))) .e)], commute_shifted_40⟩, ⟨39, [(.p (.sl (.p (.int .i64) (.p (.sl .str) (.p (.sl .str) .e)))) .e)], [(.p (.sl (.p (.int .i64) (.p (.sl .str) (.p (.sl .str) .e)))) .e), (.p (.int .i64) (.p (.int .i64) .e))], textpatch_Fit_39⟩]) (gs := []) (an := [(.sl (.p (.int .i64) (.p (.sl .str) (.p (.sl .str) .e)))), (.sl (.p (.int .i64) (.p (.sl .str) (.p (.sl .str) .e)))), (.p (.sl (.p (.int .i64) (.p (.sl .str) (.p (.sl .str) .e)))) .e), (.p (.sl (.p (.int .i64) (.p (.sl .str) (.p (.sl .str) .e)))) .e), (.int .i64), (.int .i64), (.p (.int .i64) (.p (.int .i64) .e)), (.p (.int .i64) (.p (.int .i64) .e)), .bool, (.p (.sl (.p (.int .i64) (.p (.sl .str) (.p (.sl .str) .e)))) .e), (.p (.sl (.p (.int .i64) (.p (.sl .str) (.p (.sl .str) .e)))) .e), (.p (.int .i64) (.p (.int .i64) .e)), (.p (.sl (.p (.int .i64) (.p (.sl .str) (.p (.sl .str) .e)))) .e), (.p (.sl (.p (.int .i64) (.p (.sl .str) (.p (.sl .str) .e)))) .e), .bool, (.p (.sl (.p (.int .i64) (.p (.sl .str) (.p (.sl .str) .e)))) .e), (.p (.sl (.p (.int .i64) (.p (.sl .str) (.p (.sl .str) .e)))) .e), (.p (.int .i64) (.p (.int .i64) .e)), (.p (.sl (.p (.int .i64) (.p (.sl .str) (.p (.sl .str) .e)))) .e), (.p (.sl (.p (.int .i64) (.p (.sl .str) (.p (.sl .str) .e)))) .e), (.p (.sl (.p (.int .i64) (.p (.sl .str) (.p (.sl .str) .e)))) .e), (.sl (.p (.int .i64) (.p (.sl .str) (.p (.sl .str) .e)))), (.int .i64), (.int .i64), (.p (.int .i64) (.p (.int .i64) .e)), (.p (.int .i64) (.p (.int .i64) .e)), .bool, (.p (.sl (.p (.int .i64) (.p (.sl .str) (.p (.sl .str) .e)))) .e), (.p (.sl (.p (.int .i64) (.p (.sl .str) (.p (.sl .str) .e)))) .e), (.p (.int .i64) (.p (.int .i64) .e)), (.p (.sl (.p (.int .i64) (.p (.sl .str) (.p (.sl .str) .e)))) .e), (.p (.sl (.p (.int .i64) (.p (.sl .str) (.p (.sl .str) .e)))) .e), (.p (.sl (.p (.int .i64) (.p (.sl .str) (.p (.sl .str) .e)))) .e), (.sl (.p (.int .i64) (.p (.sl .str) (.p (.sl .str) .e)))), (.int .i64), (.int .i64), (.p (.int .i64) (.p (.int .i64) .e)), (.p (.int .i64) (.p (.int .i64) .e)), .bool, (.p (.sl (.p (.int .i64) (.p (.sl .str) (.p (.sl .str) .e)))) .e), (.p (.sl (.p (.int .i64) (.p (.sl .str) (.p (.sl .str) .e)))) .e), (.p (.int .i64) (.p (.int .i64) .e)), (.p (.sl (.p (.int .i64) (.p (.sl .str) (.p (.sl .str) .e)))) .e), (.p (.sl (.p (.int .i64) (.p (.sl .str) (.p (.sl .str) .e)))) .e), (.p (.int .i64) (.p (.int .i64) .e))]) (by kernel_rfl) Try.func18 (by kernel_rfl) (by kernel_rfl) (by simp only [List.forall_mem_cons, List.not_mem_nil, false_implies, implies_true, and_true]; exact ⟨commute_check_35_ok, commute_news_37_ok, commute_olds_38_ok, commute_independent_36_ok, commute_shifted_40_ok, textpatch_Fit_39_ok⟩) (fun _ h => by cases h) (by kernel_rfl)


/- changeforge/stack.swap -/
def stack_swap_26_h : List (Nat × SS × Nat) := [(29, ⟨us 5 ++ [.box 5 0, .unk, .unk, .d (.v 9), .box 9 0] ++ us 27, [(1000, .row 15 1), (5, .cs ([.d (.k (.int .i64 0)), .d (.k (.int .i64 0))])), (9, .cs ([.d (.v 13), .d (.v 14)]))], []⟩, 1)]
def stack_swap_26_g : Sg := ⟨26, [.row 1000 38 1 (.l 0), .d (.v 1)], [(1000, .row 0 1)], 2, [.d (.v 0), .d (.v 1)], [(1000, .row 2 1)], 3, [(2, 0)]⟩
theorem stack_swap_26_ok : Gn.Ok Try.prog ⟨stack_swap_26_g, [(.sl (.p (.sl (.p (.int .i64) (.p (.sl .str) (.p (.sl .str) .e)))) .e)), (.int .i64)], [.bool, (.p (.int .i64) (.p (.int .i64) .e)), (.sl (.p (.sl (.p (.int .i64) (.p (.sl .str) (.p (.sl .str) .e)))) .e))], stack_swap_26⟩ :=
  Gn.of' (c := ⟨Try.prog, [(18, 4)], [], [], stack_swap_26_h⟩) (fs := [⟨18, [(.p (.sl (.p (.int .i64) (.p (.sl .str) (.p (.sl .str) .e)))) .e), (.p (.sl (.p (.int .i64) (.p (.sl .str) (.p (.sl .str) .e)))) .e)], [(.p (.sl (.p (.int .i64) (.p (.sl .str) (.p (.sl .str) .e)))) .e), (.p (.sl (.p (.int .i64) (.p (.sl .str) (.p (.sl .str) .e)))) .e), .bool, (.p (.int .i64) (.p (.int .i64) .e))], commute_Commute_18⟩]) (gs := []) (an := [(.int .i64), (.p (.sl (.p (.int .i64) (.p (.sl .str) (.p (.sl .str) .e)))) .e), (.int .i64), (.int .i64), (.p (.sl (.p (.int .i64) (.p (.sl .str) (.p (.sl .str) .e)))) .e), (.sl (.p (.int .i64) (.p (.sl .str) (.p (.sl .str) .e)))), (.sl (.p (.int .i64) (.p (.sl .str) (.p (.sl .str) .e)))), (.int .i64), (.int .i64), (.sl (.p (.sl (.p (.int .i64) (.p (.sl .str) (.p (.sl .str) .e)))) .e)), (.p (.int .i64) (.p (.int .i64) .e)), (.int .i64), (.int .i64), (.p (.sl (.p (.int .i64) (.p (.sl .str) (.p (.sl .str) .e)))) .e), (.sl (.p (.sl (.p (.int .i64) (.p (.sl .str) (.p (.sl .str) .e)))) .e)), (.int .i64), (.p (.sl (.p (.int .i64) (.p (.sl .str) (.p (.sl .str) .e)))) .e), (.sl (.p (.sl (.p (.int .i64) (.p (.sl .str) (.p (.sl .str) .e)))) .e))]) (by kernel_rfl) Try.func26 (by kernel_rfl) (by kernel_rfl) (by simp only [List.forall_mem_cons, List.not_mem_nil, false_implies, implies_true, and_true]; exact commute_Commute_18_ok) (fun _ h => by cases h) (by kernel_rfl)


/- changeforge/stack.fault -/
def stack_fault_27_h : List (Nat × SS × Nat) := [(13, ⟨[.unk, .box 1 0, .box 2 0] ++ us 5, [(1, .cs ([.d (.v 1), .d (.v 6)])), (2, .cs ([.d (.k (.int .i64 0)), .d (.k (.int .i64 0))]))], []⟩, 1)]
theorem stack_fault_27_ok : Fn.Ok Try.prog ⟨27, [(.p (.int .i64) (.p (.int .i64) .e))], [(.p (.int .i64) (.p (.int .i64) .e))], stack_fault_27⟩ :=
  Fn.of (c := ⟨Try.prog, [], [], [], stack_fault_27_h⟩) (fs := []) (gs := []) (an := [(.int .i64), (.int .i64), (.p (.int .i64) (.p (.int .i64) .e)), (.p (.int .i64) (.p (.int .i64) .e)), .bool, (.int .i64), (.p (.int .i64) (.p (.int .i64) .e))]) (by kernel_rfl) Try.func27 (by kernel_rfl) (by kernel_rfl) (fun _ h => by cases h) (fun _ h => by cases h) (by kernel_rfl)


/- changeforge/stack.Move -/
def stack_Move_10_h : List (Nat × SS × Nat) := [(254, ⟨us 8 ++ [.box 8 0, .unk, .row 34 38 1 (.l 20)] ++ us 50, [(8, .cs ([.d (.k (.int .i64 0)), .d (.k (.int .i64 0))])), (34, .row 20 1)], []⟩, 1), (32533, ⟨[.unk, .unk, .d (.v 2)] ++ us 5 ++ [.box 8 0, .unk, .row 34 38 1 (.l 25), .d (.v 26), .d (.v 27)] ++ us 48, [(8, .cs ([.d (.k (.int .i64 0)), .d (.k (.int .i64 0))])), (34, .row 25 1)], []⟩, 3), (508, ⟨[.unk, .d (.v 20), .d (.v 2)] ++ us 5 ++ [.box 8 0, .unk, .row 34 38 1 (.l 21)] ++ us 50, [(8, .cs ([.d (.k (.int .i64 0)), .d (.k (.int .i64 0))])), (34, .row 21 1)], []⟩, 2), (61, ⟨[.d (.v 0), .d (.v 1), .d (.v 2)] ++ us 5 ++ [.box 8 0, .box 9 0] ++ us 51, [(8, .cs ([.d (.k (.int .i64 0)), .d (.k (.int .i64 0))])), (9, .cs ([.d (.v 14), .d (.v 15)]))], []⟩, 2), (29, ⟨[.d (.v 0), .d (.v 1), .d (.v 2)] ++ us 5 ++ [.box 8 0, .box 9 0] ++ us 51, [(8, .cs ([.d (.k (.int .i64 0)), .d (.k (.int .i64 0))])), (9, .cs ([.d (.v 9), .d (.v 10)]))], []⟩, 2)]
theorem stack_Move_10_ok : Fn.Ok Try.prog ⟨10, [(.sl (.p (.sl (.p (.int .i64) (.p (.sl .str) (.p (.sl .str) .e)))) .e)), (.int .i64), (.int .i64)], [(.sl (.p (.sl (.p (.int .i64) (.p (.sl .str) (.p (.sl .str) .e)))) .e)), .bool, (.p (.int .i64) (.p (.int .i64) .e))], stack_Move_10⟩ :=
  Fn.of (c := ⟨Try.prog, [(23, 1), (27, 1), (24, 1)], [stack_clone_25_g, stack_swap_26_g], [], stack_Move_10_h⟩) (fs := [⟨23, [(.sl (.p (.sl (.p (.int .i64) (.p (.sl .str) (.p (.sl .str) .e)))) .e))], [(.p (.int .i64) (.p (.int .i64) .e))], stack_Validate_23⟩, ⟨27, [(.p (.int .i64) (.p (.int .i64) .e))], [(.p (.int .i64) (.p (.int .i64) .e))], stack_fault_27⟩, ⟨24, [(.sl (.p (.sl (.p (.int .i64) (.p (.sl .str) (.p (.sl .str) .e)))) .e)), (.int .i64), (.int .i64)], [(.p (.int .i64) (.p (.int .i64) .e))], stack_position_24⟩]) (gs := [⟨stack_clone_25_g, [(.sl (.p (.sl (.p (.int .i64) (.p (.sl .str) (.p (.sl .str) .e)))) .e))], [(.sl (.p (.sl (.p (.int .i64) (.p (.sl .str) (.p (.sl .str) .e)))) .e))], stack_clone_25⟩, ⟨stack_swap_26_g, [(.sl (.p (.sl (.p (.int .i64) (.p (.sl .str) (.p (.sl .str) .e)))) .e)), (.int .i64)], [.bool, (.p (.int .i64) (.p (.int .i64) .e)), (.sl (.p (.sl (.p (.int .i64) (.p (.sl .str) (.p (.sl .str) .e)))) .e))], stack_swap_26⟩]) (an := [(.int .i64), (.int .i64), (.p (.int .i64) (.p (.int .i64) .e)), (.p (.int .i64) (.p (.int .i64) .e)), .bool, (.int .i64), (.int .i64), (.p (.int .i64) (.p (.int .i64) .e)), (.p (.int .i64) (.p (.int .i64) .e)), .bool, (.int .i64), (.int .i64), (.p (.int .i64) (.p (.int .i64) .e)), (.p (.int .i64) (.p (.int .i64) .e)), .bool, (.p (.int .i64) (.p (.int .i64) .e)), (.sl (.p (.sl (.p (.int .i64) (.p (.sl .str) (.p (.sl .str) .e)))) .e)), (.p (.int .i64) (.p (.int .i64) .e)), (.int .i64), (.sl (.p (.sl (.p (.int .i64) (.p (.sl .str) (.p (.sl .str) .e)))) .e)), .bool, (.int .i64), .bool, (.sl (.p (.sl (.p (.int .i64) (.p (.sl .str) (.p (.sl .str) .e)))) .e)), (.int .i64), (.int .i64), (.int .i64), (.int .i64), .bool, (.p (.int .i64) (.p (.int .i64) .e)), (.int .i64), (.int .i64), (.p (.int .i64) (.p (.int .i64) .e)), (.int .i64), (.int .i64), (.int .i64), (.int .i64), (.int .i64), (.int .i64)]) (by kernel_rfl) Try.func10 (by kernel_rfl) (by kernel_rfl) (by simp only [List.forall_mem_cons, List.not_mem_nil, false_implies, implies_true, and_true]; exact ⟨stack_Validate_23_ok, stack_fault_27_ok, stack_position_24_ok⟩) (by simp only [List.forall_mem_cons, List.not_mem_nil, false_implies, implies_true, and_true]; exact ⟨stack_clone_25_ok, stack_swap_26_ok⟩) (by kernel_rfl)


/- changeforge/changeforgeref1.At -/
def changeforgeref1_At_29_h : List (Nat × SS × Nat) := []
theorem changeforgeref1_At_29_ok : Fn.Ok Try.prog ⟨29, [(.int .i64), (.int .i64)], [(.p (.int .i64) (.p (.int .i64) .e))], changeforgeref1_At_29⟩ :=
  Fn.of (c := ⟨Try.prog, [], [], [], changeforgeref1_At_29_h⟩) (fs := []) (gs := []) (an := [(.int .i64), (.int .i64), (.p (.int .i64) (.p (.int .i64) .e))]) (by kernel_rfl) Try.func29 (by kernel_rfl) (by kernel_rfl) (fun _ h => by cases h) (fun _ h => by cases h) (by kernel_rfl)


/- changeforge/changeforgeref1.LinesFault -/
def changeforgeref1_LinesFault_56_h : List (Nat × SS × Nat) := [(29, ⟨[.unk, .unk, .box 2 0] ++ us 39, [(2, .cs ([.d (.k (.int .i64 0)), .d (.k (.int .i64 0))]))], []⟩, 0), (466, ⟨[.d (.v 0), .unk, .box 2 0, .d (.v 6)] ++ us 38, [(2, .cs ([.d (.k (.int .i64 0)), .d (.k (.int .i64 0))]))], []⟩, 1), (3731, ⟨[.d (.v 0), .unk, .box 2 0, .d (.v 10)] ++ us 38, [(2, .cs ([.d (.k (.int .i64 0)), .d (.k (.int .i64 0))]))], []⟩, 1), (7462, ⟨[.d (.v 0), .unk, .box 2 0, .d (.v 10), .d (.v 11)] ++ us 37, [(2, .cs ([.d (.k (.int .i64 0)), .d (.k (.int .i64 0))]))], []⟩, 2), (58, ⟨[.d (.v 0), .unk, .box 2 0, .d (.v 3)] ++ us 38, [(2, .cs ([.d (.k (.int .i64 0)), .d (.k (.int .i64 0))]))], []⟩, 1)]
theorem changeforgeref1_LinesFault_56_ok : Fn.Ok Try.prog ⟨56, [(.sl .str)], [(.p (.int .i64) (.p (.int .i64) .e))], changeforgeref1_LinesFault_56⟩ :=
  Fn.of (c := ⟨Try.prog, [(29, 1)], [], [], changeforgeref1_LinesFault_56_h⟩) (fs := [⟨29, [(.int .i64), (.int .i64)], [(.p (.int .i64) (.p (.int .i64) .e))], changeforgeref1_At_29⟩]) (gs := []) (an := [(.int .i64), .bool, (.int .i64), (.int .i64), (.p (.int .i64) (.p (.int .i64) .e)), (.p (.int .i64) (.p (.int .i64) .e)), (.int .i64), (.int .i64), .bool, (.int .i64), (.int .i64), .str, .str, (.int .i64), .bool, (.int .i64), (.int .i64), (.p (.int .i64) (.p (.int .i64) .e)), (.int .i64), (.int .i64), (.int .i64), .str, .str, (.int .i64), .bool, .str, .str, (.int .u8), .bool, (.int .i64), (.int .i64), (.p (.int .i64) (.p (.int .i64) .e)), (.int .i64)]) (by kernel_rfl) Try.func56 (by kernel_rfl) (by kernel_rfl) (by simp only [List.forall_mem_cons, List.not_mem_nil, false_implies, implies_true, and_true]; exact changeforgeref1_At_29_ok) (fun _ h => by cases h) (by kernel_rfl)


/- changeforge/changeforgeref1.LinesCode -/
def changeforgeref1_LinesCode_44_h : List (Nat × SS × Nat) := []
theorem changeforgeref1_LinesCode_44_ok : Fn.Ok Try.prog ⟨44, [(.sl .str)], [(.int .i64)], changeforgeref1_LinesCode_44⟩ :=
  Fn.of (c := ⟨Try.prog, [(56, 1)], [], [], changeforgeref1_LinesCode_44_h⟩) (fs := [⟨56, [(.sl .str)], [(.p (.int .i64) (.p (.int .i64) .e))], changeforgeref1_LinesFault_56⟩]) (gs := []) (an := [(.int .i64)]) (by kernel_rfl) Try.func44 (by kernel_rfl) (by kernel_rfl) (by simp only [List.forall_mem_cons, List.not_mem_nil, false_implies, implies_true, and_true]; exact changeforgeref1_LinesFault_56_ok) (fun _ h => by cases h) (by kernel_rfl)


/- changeforge/changeforgeref1.End -/
def changeforgeref1_End_58_h : List (Nat × SS × Nat) := []
theorem changeforgeref1_End_58_ok : Fn.Ok Try.prog ⟨58, [(.p (.int .i64) (.p (.sl .str) (.p (.sl .str) .e)))], [(.int .i64)], changeforgeref1_End_58⟩ :=
  Fn.of (c := ⟨Try.prog, [], [], [], changeforgeref1_End_58_h⟩) (fs := []) (gs := []) (an := [(.int .i64), (.sl .str), (.sl .str), (.int .i64), (.int .i64)]) (by kernel_rfl) Try.func58 (by kernel_rfl) (by kernel_rfl) (fun _ h => by cases h) (fun _ h => by cases h) (by kernel_rfl)


/- changeforge/changeforgeref1.PatchFault -/
def changeforgeref1_PatchFault_50_h : List (Nat × SS × Nat) := [(29, ⟨[.unk, .unk, .box 2 0] ++ us 79, [(2, .cs ([.d (.k (.int .i64 0)), .d (.k (.int .i64 0))]))], []⟩, 0), (59708, ⟨[.unk, .box 1 0, .box 2 0, .d (.v 21), .box 4 0] ++ us 68 ++ [.d (.v 22)] ++ us 8, [(1, .cs ([.d (.v 1)])), (2, .cs ([.d (.k (.int .i64 0)), .d (.k (.int .i64 0))])), (4, .cs ([.d (.v 23), .d (.v 24), .d (.v 25)]))], []⟩, 5), (7460, ⟨[.unk, .box 1 0, .box 2 0, .d (.v 12), .box 4 0] ++ us 26 ++ [.d (.v 13)] ++ us 50, [(1, .cs ([.d (.v 1)])), (2, .cs ([.d (.k (.int .i64 0)), .d (.k (.int .i64 0))])), (4, .cs ([.d (.v 14), .d (.v 15), .d (.v 16)]))], []⟩, 5), (58, ⟨[.unk, .box 1 0, .box 2 0, .d (.v 4)] ++ us 78, [(1, .cs ([.d (.v 1)])), (2, .cs ([.d (.k (.int .i64 0)), .d (.k (.int .i64 0))]))], []⟩, 1)]
theorem changeforgeref1_PatchFault_50_ok : Fn.Ok Try.prog ⟨50, [(.p (.sl (.p (.int .i64) (.p (.sl .str) (.p (.sl .str) .e)))) .e)], [(.p (.int .i64) (.p (.int .i64) .e))], changeforgeref1_PatchFault_50⟩ :=
  Fn.of (c := ⟨Try.prog, [(29, 1), (44, 1), (58, 1)], [], [], changeforgeref1_PatchFault_50_h⟩) (fs := [⟨29, [(.int .i64), (.int .i64)], [(.p (.int .i64) (.p (.int .i64) .e))], changeforgeref1_At_29⟩, ⟨44, [(.sl .str)], [(.int .i64)], changeforgeref1_LinesCode_44⟩, ⟨58, [(.p (.int .i64) (.p (.sl .str) (.p (.sl .str) .e)))], [(.int .i64)], changeforgeref1_End_58⟩]) (gs := []) (an := [(.sl (.p (.int .i64) (.p (.sl .str) (.p (.sl .str) .e)))), (.int .i64), .bool, (.int .i64), (.int .i64), (.p (.int .i64) (.p (.int .i64) .e)), (.p (.int .i64) (.p (.int .i64) .e)), (.int .i64), (.int .i64), .bool, (.p (.int .i64) (.p (.sl .str) (.p (.sl .str) .e))), (.p (.int .i64) (.p (.sl .str) (.p (.sl .str) .e))), (.int .i64), (.sl .str), (.sl .str), (.int .i64), .bool, (.int .i64), (.sl .str), (.sl .str), (.int .i64), (.int .i64), (.p (.int .i64) (.p (.int .i64) .e)), .bool, (.int .i64), (.int .i64), (.p (.int .i64) (.p (.int .i64) .e)), .bool, (.int .i64), (.int .i64), (.p (.int .i64) (.p (.int .i64) .e)), (.int .i64), .bool, (.int .i64), (.sl .str), (.sl .str), (.int .i64), (.int .i64), (.p (.int .i64) (.p (.int .i64) .e)), (.p (.int .i64) (.p (.sl .str) (.p (.sl .str) .e))), .bool, (.int .i64), (.int .i64), (.p (.int .i64) (.p (.int .i64) .e)), (.int .i64), (.int .i64), (.int .i64), (.int .i64), .bool, .bool, (.int .i64), (.p (.int .i64) (.p (.sl .str) (.p (.sl .str) .e))), (.p (.int .i64) (.p (.sl .str) (.p (.sl .str) .e))), .bool, .bool, .bool]) (by kernel_rfl) Try.func50 (by kernel_rfl) (by kernel_rfl) (by simp only [List.forall_mem_cons, List.not_mem_nil, false_implies, implies_true, and_true]; exact ⟨changeforgeref1_At_29_ok, changeforgeref1_LinesCode_44_ok, changeforgeref1_End_58_ok⟩) (fun _ h => by cases h) (by kernel_rfl)


/- changeforge/changeforgeref2.StackFault -/
def changeforgeref2_StackFault_28_h : List (Nat × SS × Nat) := [(29, ⟨[.unk, .unk, .box 2 0] ++ us 25, [(2, .cs ([.d (.k (.int .i64 0)), .d (.k (.int .i64 0))]))], []⟩, 0), (58, ⟨[.d (.v 0), .unk, .box 2 0, .d (.v 3)] ++ us 24, [(2, .cs ([.d (.k (.int .i64 0)), .d (.k (.int .i64 0))]))], []⟩, 1)]
theorem changeforgeref2_StackFault_28_ok : Fn.Ok Try.prog ⟨28, [(.sl (.p (.sl (.p (.int .i64) (.p (.sl .str) (.p (.sl .str) .e)))) .e))], [(.p (.int .i64) (.p (.int .i64) .e))], changeforgeref2_StackFault_28⟩ :=
  Fn.of (c := ⟨Try.prog, [(29, 1), (50, 1)], [], [], changeforgeref2_StackFault_28_h⟩) (fs := [⟨29, [(.int .i64), (.int .i64)], [(.p (.int .i64) (.p (.int .i64) .e))], changeforgeref1_At_29⟩, ⟨50, [(.p (.sl (.p (.int .i64) (.p (.sl .str) (.p (.sl .str) .e)))) .e)], [(.p (.int .i64) (.p (.int .i64) .e))], changeforgeref1_PatchFault_50⟩]) (gs := []) (an := [(.int .i64), .bool, (.int .i64), (.int .i64), (.p (.int .i64) (.p (.int .i64) .e)), (.p (.int .i64) (.p (.int .i64) .e)), (.int .i64), (.int .i64), .bool, (.p (.sl (.p (.int .i64) (.p (.sl .str) (.p (.sl .str) .e)))) .e), (.p (.sl (.p (.int .i64) (.p (.sl .str) (.p (.sl .str) .e)))) .e), (.int .i64), (.int .i64), .bool, (.int .i64), (.int .i64), (.p (.int .i64) (.p (.int .i64) .e)), (.int .i64)]) (by kernel_rfl) Try.func28 (by kernel_rfl) (by kernel_rfl) (by simp only [List.forall_mem_cons, List.not_mem_nil, false_implies, implies_true, and_true]; exact ⟨changeforgeref1_At_29_ok, changeforgeref1_PatchFault_50_ok⟩) (fun _ h => by cases h) (by kernel_rfl)


/- changeforge/changeforgeref1.Pair -/
def changeforgeref1_Pair_63_h : List (Nat × SS × Nat) := [(29, ⟨us 4 ++ [.box 4 0, .box 5 0] ++ us 16, [(4, .cs ([.d (.k (.int .i64 0)), .d (.k (.int .i64 0))])), (5, .cs ([.d (.v 9), .d (.v 10)]))], []⟩, 2), (28, ⟨[.unk, .unk, .unk, .box 3 0, .box 4 0, .box 5 0] ++ us 10 ++ [.d (.v 8)] ++ us 5, [(3, .cs ([.d (.v 3)])), (4, .cs ([.d (.k (.int .i64 0)), .d (.k (.int .i64 0))])), (5, .cs ([.d (.v 6), .d (.v 7)]))], []⟩, 1)]
theorem changeforgeref1_Pair_63_ok : Fn.Ok Try.prog ⟨63, [(.p (.sl (.p (.int .i64) (.p (.sl .str) (.p (.sl .str) .e)))) .e), (.p (.sl (.p (.int .i64) (.p (.sl .str) (.p (.sl .str) .e)))) .e)], [(.p (.int .i64) (.p (.int .i64) .e))], changeforgeref1_Pair_63⟩ :=
  Fn.of (c := ⟨Try.prog, [(50, 1), (29, 1)], [], [], changeforgeref1_Pair_63_h⟩) (fs := [⟨50, [(.p (.sl (.p (.int .i64) (.p (.sl .str) (.p (.sl .str) .e)))) .e)], [(.p (.int .i64) (.p (.int .i64) .e))], changeforgeref1_PatchFault_50⟩, ⟨29, [(.int .i64), (.int .i64)], [(.p (.int .i64) (.p (.int .i64) .e))], changeforgeref1_At_29⟩]) (gs := []) (an := [(.sl (.p (.int .i64) (.p (.sl .str) (.p (.sl .str) .e)))), (.sl (.p (.int .i64) (.p (.sl .str) (.p (.sl .str) .e)))), (.p (.sl (.p (.int .i64) (.p (.sl .str) (.p (.sl .str) .e)))) .e), (.int .i64), (.int .i64), .bool, (.int .i64), (.int .i64), (.p (.int .i64) (.p (.int .i64) .e)), (.p (.sl (.p (.int .i64) (.p (.sl .str) (.p (.sl .str) .e)))) .e), (.int .i64), (.int .i64), (.int .i64), .bool, (.p (.sl (.p (.int .i64) (.p (.sl .str) (.p (.sl .str) .e)))) .e), (.int .i64), .bool]) (by kernel_rfl) Try.func63 (by kernel_rfl) (by kernel_rfl) (by simp only [List.forall_mem_cons, List.not_mem_nil, false_implies, implies_true, and_true]; exact ⟨changeforgeref1_PatchFault_50_ok, changeforgeref1_At_29_ok⟩) (fun _ h => by cases h) (by kernel_rfl)


end Go.Proofs.Ytfepfapfogpfkaa.F
end
section
/- That they do: printed by a program of ours. -/
namespace Go.Proofs.Ytfepfapfogpfkaa.F
open Go Go.Proofs.Ytfepfapfogpfkaa.V
set_option maxRecDepth 100000
set_option linter.unusedVariables false

/- changeforge/changeforgeref1.Growth -/
def changeforgeref1_Growth_66_h : List (Nat × SS × Nat) := []
theorem changeforgeref1_Growth_66_ok : Fn.Ok Try.prog ⟨66, [(.p (.int .i64) (.p (.sl .str) (.p (.sl .str) .e)))], [(.int .i64)], changeforgeref1_Growth_66⟩ :=
  Fn.of (c := ⟨Try.prog, [], [], [], changeforgeref1_Growth_66_h⟩) (fs := []) (gs := []) (an := [(.int .i64), (.sl .str), (.sl .str), (.int .i64), (.int .i64), (.int .i64)]) (by kernel_rfl) Try.func66 (by kernel_rfl) (by kernel_rfl) (fun _ h => by cases h) (fun _ h => by cases h) (by kernel_rfl)


/- changeforge/changeforgeref1.news -/
def changeforgeref1_news_65_h : List (Nat × SS × Nat) := [(29, ⟨[.unk, .d (.v 1), .box 2 0, .unk, .unk, .unk, .d (.v 5)] ++ us 30, [(2, .cs ([.d (.v 2)]))], []⟩, 1), (58, ⟨[.unk, .d (.v 1), .box 2 0, .unk, .unk, .unk, .d (.v 5), .d (.v 6)] ++ us 29, [(2, .cs ([.d (.v 2)]))], []⟩, 2)]
theorem changeforgeref1_news_65_ok : Fn.Ok Try.prog ⟨65, [(.p (.sl (.p (.int .i64) (.p (.sl .str) (.p (.sl .str) .e)))) .e), (.int .i64)], [(.int .i64), (.int .i64)], changeforgeref1_news_65⟩ :=
  Fn.of (c := ⟨Try.prog, [(66, 1)], [], [], changeforgeref1_news_65_h⟩) (fs := [⟨66, [(.p (.int .i64) (.p (.sl .str) (.p (.sl .str) .e)))], [(.int .i64)], changeforgeref1_Growth_66⟩]) (gs := []) (an := [(.sl (.p (.int .i64) (.p (.sl .str) (.p (.sl .str) .e)))), (.p (.int .i64) (.p (.sl .str) (.p (.sl .str) .e))), (.int .i64), (.int .i64), (.p (.int .i64) (.p (.sl .str) (.p (.sl .str) .e))), (.sl .str), (.int .i64), (.int .i64), (.int .i64), (.int .i64), .bool, (.p (.int .i64) (.p (.sl .str) (.p (.sl .str) .e))), (.p (.int .i64) (.p (.sl .str) (.p (.sl .str) .e))), (.int .i64), (.int .i64)]) (by kernel_rfl) Try.func65 (by kernel_rfl) (by kernel_rfl) (by simp only [List.forall_mem_cons, List.not_mem_nil, false_implies, implies_true, and_true]; exact changeforgeref1_Growth_66_ok) (fun _ h => by cases h) (by kernel_rfl)


/- changeforge/changeforgeref1.moved -/
def changeforgeref1_moved_67_h : List (Nat × SS × Nat) := []
theorem changeforgeref1_moved_67_ok : Fn.Ok Try.prog ⟨67, [(.p (.int .i64) (.p (.sl .str) (.p (.sl .str) .e))), (.int .i64)], [(.p (.int .i64) (.p (.sl .str) (.p (.sl .str) .e)))], changeforgeref1_moved_67⟩ :=
  Fn.of (c := ⟨Try.prog, [], [], [], changeforgeref1_moved_67_h⟩) (fs := []) (gs := []) (an := [(.int .i64), (.sl .str), (.sl .str), (.int .i64), (.int .i64), (.sl .str), (.sl .str), (.p (.int .i64) (.p (.sl .str) (.p (.sl .str) .e)))]) (by kernel_rfl) Try.func67 (by kernel_rfl) (by kernel_rfl) (fun _ h => by cases h) (fun _ h => by cases h) (by kernel_rfl)


/- changeforge/changeforgeref1.Commute -/
def changeforgeref1_Commute_51_h : List (Nat × SS × Nat) := [(508, ⟨us 4 ++ [.box 4 0, .box 5 0, .unk, .box 7 0, .unk, .box 9 0, .box 10 0] ++ us 142 ++ [.d (.v 12)] ++ us 6, [(4, .cs ([.d (.k (.nil))])), (5, .cs ([.d (.k (.nil))])), (7, .cs ([.d (.k (.int .i64 0)), .d (.k (.int .i64 0))])), (9, .cs ([.grow 66 3 10])), (10, .cs ([.grow 66 3 11]))], [.t 142, .t 95]⟩, 1), (253, ⟨us 4 ++ [.box 4 0, .box 5 0, .unk, .box 7 0, .unk, .box 9 0, .box 10 0] ++ us 149, [(4, .cs ([.d (.k (.nil))])), (5, .cs ([.d (.k (.nil))])), (7, .cs ([.d (.k (.int .i64 0)), .d (.k (.int .i64 0))])), (9, .cs ([.grow 66 3 10])), (10, .cs ([.grow 66 3 11]))], [.t 142, .t 95]⟩, 1), (64805, ⟨[.unk, .unk, .box 2 0, .unk, .box 4 0, .box 5 0, .unk, .box 7 0, .unk, .box 9 0, .box 10 0] ++ us 5 ++ [.d (.v 15), .d (.v 16)] ++ us 142, [(2, .cs ([.d (.v 2)])), (4, .cs ([.d (.k (.nil))])), (5, .cs ([.d (.k (.nil))])), (7, .cs ([.d (.k (.int .i64 0)), .d (.k (.int .i64 0))])), (9, .cs ([.grow 66 3 10])), (10, .cs ([.grow 66 3 17]))], [.t 142, .t 95]⟩, 3), (1036882, ⟨[.unk, .unk, .box 2 0, .unk, .box 4 0, .box 5 0, .unk, .box 7 0, .unk, .box 9 0, .box 10 0] ++ us 5 ++ [.d (.v 21), .d (.v 22), .d (.v 23)] ++ us 141, [(2, .cs ([.d (.v 2)])), (4, .cs ([.d (.k (.nil))])), (5, .cs ([.d (.k (.nil))])), (7, .cs ([.d (.k (.int .i64 0)), .d (.k (.int .i64 0))])), (9, .cs ([.grow 66 3 10])), (10, .cs ([.grow 66 3 24]))], [.t 142, .t 95]⟩, 4), (4147529, ⟨[.unk, .unk, .box 2 0, .unk, .box 4 0, .box 5 0, .unk, .box 7 0, .unk, .box 9 0, .box 10 0] ++ us 5 ++ [.d (.v 27), .d (.v 28), .d (.v 29)] ++ us 141, [(2, .cs ([.d (.v 2)])), (4, .cs ([.d (.k (.nil))])), (5, .cs ([.d (.k (.nil))])), (7, .cs ([.d (.k (.int .i64 0)), .d (.k (.int .i64 0))])), (9, .cs ([.grow 66 3 10])), (10, .cs ([.grow 66 3 30]))], [.t 142, .t 95]⟩, 4), (129610, ⟨[.unk, .unk, .box 2 0, .unk, .box 4 0, .box 5 0, .unk, .box 7 0, .unk, .box 9 0, .box 10 0] ++ us 5 ++ [.d (.v 15), .d (.v 16), .d (.v 17)] ++ us 141, [(2, .cs ([.d (.v 2)])), (4, .cs ([.d (.k (.nil))])), (5, .cs ([.d (.k (.nil))])), (7, .cs ([.d (.k (.int .i64 0)), .d (.k (.int .i64 0))])), (9, .cs ([.grow 66 3 10])), (10, .cs ([.grow 66 3 18]))], [.t 142, .t 95]⟩, 4), (506, ⟨[.unk, .unk, .box 2 0, .unk, .box 4 0, .box 5 0, .unk, .box 7 0, .unk, .box 9 0, .box 10 0] ++ us 5 ++ [.d (.v 11)] ++ us 143, [(2, .cs ([.d (.v 2)])), (4, .cs ([.d (.k (.nil))])), (5, .cs ([.d (.k (.nil))])), (7, .cs ([.d (.k (.int .i64 0)), .d (.k (.int .i64 0))])), (9, .cs ([.grow 66 3 10])), (10, .cs ([.grow 66 3 12]))], [.t 142, .t 95]⟩, 2), (125, ⟨[.unk, .unk, .box 2 0, .unk, .box 4 0, .box 5 0, .unk, .box 7 0, .unk, .box 9 0, .box 10 0] ++ us 149, [(2, .cs ([.d (.v 2)])), (4, .cs ([.d (.k (.nil))])), (5, .cs ([.d (.k (.nil))])), (7, .cs ([.d (.k (.int .i64 0)), .d (.k (.int .i64 0))])), (9, .cs ([.grow 66 3 10])), (10, .cs ([.d (.k (.nil))]))], [.t 95]⟩, 1), (32037, ⟨[.unk, .unk, .box 2 0, .box 3 0, .box 4 0, .box 5 0, .unk, .box 7 0, .unk, .box 9 0, .box 10 0, .d (.v 14), .d (.v 15)] ++ us 147, [(2, .cs ([.d (.v 2)])), (3, .cs ([.d (.v 3)])), (4, .cs ([.d (.k (.nil))])), (5, .cs ([.d (.k (.nil))])), (7, .cs ([.d (.k (.int .i64 0)), .d (.k (.int .i64 0))])), (9, .cs ([.grow 66 3 16])), (10, .cs ([.d (.k (.nil))]))], [.t 95]⟩, 3), (512594, ⟨[.unk, .unk, .box 2 0, .box 3 0, .box 4 0, .box 5 0, .unk, .box 7 0, .unk, .box 9 0, .box 10 0, .d (.v 20), .d (.v 21), .d (.v 22)] ++ us 146, [(2, .cs ([.d (.v 2)])), (3, .cs ([.d (.v 3)])), (4, .cs ([.d (.k (.nil))])), (5, .cs ([.d (.k (.nil))])), (7, .cs ([.d (.k (.int .i64 0)), .d (.k (.int .i64 0))])), (9, .cs ([.grow 66 3 23])), (10, .cs ([.d (.k (.nil))]))], [.t 95]⟩, 4), (8201511, ⟨[.unk, .unk, .box 2 0, .box 3 0, .box 4 0, .box 5 0, .unk, .box 7 0, .unk, .box 9 0, .box 10 0, .d (.v 32), .d (.v 33), .d (.v 34)] ++ us 146, [(2, .cs ([.d (.v 2)])), (3, .cs ([.d (.v 3)])), (4, .cs ([.d (.k (.nil))])), (5, .cs ([.d (.k (.nil))])), (7, .cs ([.d (.k (.int .i64 0)), .d (.k (.int .i64 0))])), (9, .cs ([.grow 66 3 35])), (10, .cs ([.d (.k (.nil))]))], [.t 95]⟩, 4), (8201508, ⟨[.unk, .unk, .box 2 0, .box 3 0, .box 4 0, .box 5 0, .unk, .box 7 0, .unk, .box 9 0, .box 10 0, .d (.v 23), .d (.v 24), .d (.v 25), .unk, .d (.v 26)] ++ us 49 ++ [.d (.v 27)] ++ us 94, [(2, .cs ([.d (.v 2)])), (3, .cs ([.d (.v 3)])), (4, .cs ([.d (.k (.nil))])), (5, .cs ([.d (.k (.nil))])), (7, .cs ([.d (.k (.int .i64 0)), .d (.k (.int .i64 0))])), (9, .cs ([.grow 66 3 28])), (10, .cs ([.d (.k (.nil))]))], [.t 95]⟩, 6), (64074, ⟨[.unk, .unk, .box 2 0, .box 3 0, .box 4 0, .box 5 0, .unk, .box 7 0, .unk, .box 9 0, .box 10 0, .d (.v 14), .d (.v 15), .d (.v 16)] ++ us 146, [(2, .cs ([.d (.v 2)])), (3, .cs ([.d (.v 3)])), (4, .cs ([.d (.k (.nil))])), (5, .cs ([.d (.k (.nil))])), (7, .cs ([.d (.k (.int .i64 0)), .d (.k (.int .i64 0))])), (9, .cs ([.grow 66 3 17])), (10, .cs ([.d (.k (.nil))]))], [.t 95]⟩, 4), (250, ⟨[.unk, .unk, .box 2 0, .box 3 0, .box 4 0, .box 5 0, .unk, .box 7 0, .unk, .box 9 0, .box 10 0, .d (.v 10)] ++ us 148, [(2, .cs ([.d (.v 2)])), (3, .cs ([.d (.v 3)])), (4, .cs ([.d (.k (.nil))])), (5, .cs ([.d (.k (.nil))])), (7, .cs ([.d (.k (.int .i64 0)), .d (.k (.int .i64 0))])), (9, .cs ([.grow 66 3 11])), (10, .cs ([.d (.k (.nil))]))], [.t 95]⟩, 2)]
theorem changeforgeref1_Commute_51_ok : Fn.Ok Try.prog ⟨51, [(.p (.sl (.p (.int .i64) (.p (.sl .str) (.p (.sl .str) .e)))) .e), (.p (.sl (.p (.int .i64) (.p (.sl .str) (.p (.sl .str) .e)))) .e)], [(.p (.sl (.p (.int .i64) (.p (.sl .str) (.p (.sl .str) .e)))) .e), (.p (.sl (.p (.int .i64) (.p (.sl .str) (.p (.sl .str) .e)))) .e), .bool, (.p (.int .i64) (.p (.int .i64) .e))], changeforgeref1_Commute_51⟩ :=
  Fn.of (c := ⟨Try.prog, [(63, 1), (29, 1), (50, 1), (67, 1), (58, 1), (66, 1), (65, 2)], [], [], changeforgeref1_Commute_51_h⟩) (fs := [⟨63, [(.p (.sl (.p (.int .i64) (.p (.sl .str) (.p (.sl .str) .e)))) .e), (.p (.sl (.p (.int .i64) (.p (.sl .str) (.p (.sl .str) .e)))) .e)], [(.p (.int .i64) (.p (.int .i64) .e))], changeforgeref1_Pair_63⟩, ⟨29, [(.int .i64), (.int .i64)], [(.p (.int .i64) (.p (.int .i64) .e))], changeforgeref1_At_29⟩, ⟨50, [(.p (.sl (.p (.int .i64) (.p (.sl .str) (.p (.sl .str) .e)))) .e)], [(.p (.int .i64) (.p (.int .i64) .e))], changeforgeref1_PatchFault_50⟩, ⟨67, [(.p (.int .i64) (.p (.sl .str) (.p (.sl .str) .e))), (.int .i64)], [(.p (.int .i64) (.p (.sl .str) (.p (.sl .str) .e)))], changeforgeref1_moved_67⟩, ⟨58, [(.p (.int .i64) (.p (.sl .str) (.p (.sl .str) .e)))], [(.int .i64)], changeforgeref1_End_58⟩, ⟨66, [(.p (.int .i64) (.p (.sl .str) (.p (.sl .str) .e)))], [(.int .i64)], changeforgeref1_Growth_66⟩, ⟨65, [(.p (.sl (.p (.int .i64) (.p (.sl .str) (.p (.sl .str) .e)))) .e), (.int .i64)], [(.int .i64), (.int .i64)], changeforgeref1_news_65⟩]) (gs := []) (an := [(.sl (.p (.int .i64) (.p (.sl .str) (.p (.sl .str) .e)))), (.sl (.p (.int .i64) (.p (.sl .str) (.p (.sl .str) .e)))), (.p (.sl (.p (.int .i64) (.p (.sl .str) (.p (.sl .str) .e)))) .e), (.p (.sl (.p (.int .i64) (.p (.sl .str) (.p (.sl .str) .e)))) .e), (.int .i64), (.int .i64), .bool, (.p (.sl (.p (.int .i64) (.p (.sl .str) (.p (.sl .str) .e)))) .e), (.p (.sl (.p (.int .i64) (.p (.sl .str) (.p (.sl .str) .e)))) .e), (.p (.int .i64) (.p (.int .i64) .e)), (.sl (.p (.int .i64) (.p (.sl .str) (.p (.sl .str) .e)))), (.sl (.p (.int .i64) (.p (.sl .str) (.p (.sl .str) .e)))), .bool, (.int .i64), (.int .i64), (.p (.sl (.p (.int .i64) (.p (.sl .str) (.p (.sl .str) .e)))) .e), (.p (.sl (.p (.int .i64) (.p (.sl .str) (.p (.sl .str) .e)))) .e), (.p (.int .i64) (.p (.int .i64) .e)), (.p (.sl (.p (.int .i64) (.p (.sl .str) (.p (.sl .str) .e)))) .e), (.p (.sl (.p (.int .i64) (.p (.sl .str) (.p (.sl .str) .e)))) .e), (.p (.int .i64) (.p (.int .i64) .e)), (.p (.sl (.p (.int .i64) (.p (.sl .str) (.p (.sl .str) .e)))) .e), (.int .i64), .bool, (.p (.sl (.p (.int .i64) (.p (.sl .str) (.p (.sl .str) .e)))) .e), (.int .i64), .bool, (.int .i64), (.sl (.p (.int .i64) (.p (.sl .str) (.p (.sl .str) .e)))), (.int .i64), .bool, (.int .i64), (.int .i64), (.sl (.p (.int .i64) (.p (.sl .str) (.p (.sl .str) .e)))), (.p (.int .i64) (.p (.sl .str) (.p (.sl .str) .e))), (.p (.int .i64) (.p (.sl .str) (.p (.sl .str) .e))), (.sl (.p (.int .i64) (.p (.sl .str) (.p (.sl .str) .e)))), (.sl (.p (.int .i64) (.p (.sl .str) (.p (.sl .str) .e)))), (.int .i64), (.int .i64), (.int .i64), (.int .i64), (.sl (.p (.int .i64) (.p (.sl .str) (.p (.sl .str) .e)))), (.int .i64), .bool, (.int .i64), (.int .i64), (.int .i64), (.sl (.p (.int .i64) (.p (.sl .str) (.p (.sl .str) .e)))), (.int .i64), (.p (.int .i64) (.p (.sl .str) (.p (.sl .str) .e))), (.p (.int .i64) (.p (.sl .str) (.p (.sl .str) .e))), (.p (.int .i64) (.p (.sl .str) (.p (.sl .str) .e))), (.int .i64), .bool, (.int .i64), (.int .i64), (.int .i64), (.sl (.p (.int .i64) (.p (.sl .str) (.p (.sl .str) .e)))), (.p (.int .i64) (.p (.sl .str) (.p (.sl .str) .e))), (.p (.int .i64) (.p (.sl .str) (.p (.sl .str) .e))), (.int .i64), (.int .i64), (.sl (.p (.int .i64) (.p (.sl .str) (.p (.sl .str) .e)))), (.int .i64), .bool, (.int .i64), (.int .i64), (.sl (.p (.int .i64) (.p (.sl .str) (.p (.sl .str) .e)))), (.p (.int .i64) (.p (.sl .str) (.p (.sl .str) .e))), (.p (.int .i64) (.p (.sl .str) (.p (.sl .str) .e))), (.sl (.p (.int .i64) (.p (.sl .str) (.p (.sl .str) .e)))), (.sl (.p (.int .i64) (.p (.sl .str) (.p (.sl .str) .e)))), (.int .i64), (.int .i64), (.int .i64), (.int .i64), (.sl (.p (.int .i64) (.p (.sl .str) (.p (.sl .str) .e)))), (.int .i64), .bool, (.int .i64), (.int .i64), (.int .i64), (.sl (.p (.int .i64) (.p (.sl .str) (.p (.sl .str) .e)))), (.int .i64), (.p (.sl (.p (.int .i64) (.p (.sl .str) (.p (.sl .str) .e)))) .e), (.int .i64), (.int .i64), (.int .i64), (.int .i64), .bool, (.sl (.p (.int .i64) (.p (.sl .str) (.p (.sl .str) .e)))), (.p (.sl (.p (.int .i64) (.p (.sl .str) (.p (.sl .str) .e)))) .e), (.p (.sl (.p (.int .i64) (.p (.sl .str) (.p (.sl .str) .e)))) .e), (.p (.int .i64) (.p (.int .i64) .e)), (.p (.int .i64) (.p (.sl .str) (.p (.sl .str) .e))), (.int .i64), .bool, (.int .i64), (.int .i64), (.int .i64), (.sl (.p (.int .i64) (.p (.sl .str) (.p (.sl .str) .e)))), (.p (.int .i64) (.p (.sl .str) (.p (.sl .str) .e))), (.p (.int .i64) (.p (.sl .str) (.p (.sl .str) .e))), (.int .i64), (.p (.int .i64) (.p (.sl .str) (.p (.sl .str) .e))), (.int .i64), .bool, (.p (.int .i64) (.p (.sl .str) (.p (.sl .str) .e))), (.p (.int .i64) (.p (.sl .str) (.p (.sl .str) .e))), .bool]) (by kernel_rfl) Try.func51 (by kernel_rfl) (by kernel_rfl) (by simp only [List.forall_mem_cons, List.not_mem_nil, false_implies, implies_true, and_true]; exact ⟨changeforgeref1_Pair_63_ok, changeforgeref1_At_29_ok, changeforgeref1_PatchFault_50_ok, changeforgeref1_moved_67_ok, changeforgeref1_End_58_ok, changeforgeref1_Growth_66_ok, changeforgeref1_news_65_ok⟩) (fun _ h => by cases h) (by kernel_rfl)


/- changeforge/stack.Drop -/
def stack_Drop_12_h : List (Nat × SS × Nat) := []
theorem stack_Drop_12_ok : Fn.Ok Try.prog ⟨12, [(.sl (.p (.sl (.p (.int .i64) (.p (.sl .str) (.p (.sl .str) .e)))) .e)), (.int .i64)], [(.sl (.p (.sl (.p (.int .i64) (.p (.sl .str) (.p (.sl .str) .e)))) .e)), .bool, (.p (.int .i64) (.p (.int .i64) .e))], stack_Drop_12⟩ :=
  Fn.of (c := ⟨Try.prog, [(23, 1), (24, 1), (10, 3)], [], [], stack_Drop_12_h⟩) (fs := [⟨23, [(.sl (.p (.sl (.p (.int .i64) (.p (.sl .str) (.p (.sl .str) .e)))) .e))], [(.p (.int .i64) (.p (.int .i64) .e))], stack_Validate_23⟩, ⟨24, [(.sl (.p (.sl (.p (.int .i64) (.p (.sl .str) (.p (.sl .str) .e)))) .e)), (.int .i64), (.int .i64)], [(.p (.int .i64) (.p (.int .i64) .e))], stack_position_24⟩, ⟨10, [(.sl (.p (.sl (.p (.int .i64) (.p (.sl .str) (.p (.sl .str) .e)))) .e)), (.int .i64), (.int .i64)], [(.sl (.p (.sl (.p (.int .i64) (.p (.sl .str) (.p (.sl .str) .e)))) .e)), .bool, (.p (.int .i64) (.p (.int .i64) .e))], stack_Move_10⟩]) (gs := []) (an := [(.int .i64), (.int .i64), (.p (.int .i64) (.p (.int .i64) .e)), (.p (.int .i64) (.p (.int .i64) .e)), .bool, (.p (.int .i64) (.p (.int .i64) .e)), (.int .i64), (.int .i64), (.p (.int .i64) (.p (.int .i64) .e)), (.p (.int .i64) (.p (.int .i64) .e)), .bool, (.p (.int .i64) (.p (.int .i64) .e)), (.int .i64), (.int .i64), (.int .i64), (.int .i64), .bool, (.p (.int .i64) (.p (.int .i64) .e)), (.int .i64), (.int .i64), (.sl (.p (.sl (.p (.int .i64) (.p (.sl .str) (.p (.sl .str) .e)))) .e)), (.p (.int .i64) (.p (.int .i64) .e))]) (by kernel_rfl) Try.func12 (by kernel_rfl) (by kernel_rfl) (by simp only [List.forall_mem_cons, List.not_mem_nil, false_implies, implies_true, and_true]; exact ⟨stack_Validate_23_ok, stack_position_24_ok, stack_Move_10_ok⟩) (fun _ h => by cases h) (by kernel_rfl)


/- changeforge/changeforgeequal.Strings -/
def changeforgeequal_Strings_17_h : List (Nat × SS × Nat) := [(29, ⟨us 26, [], []⟩, 0), (58, ⟨[.d (.v 0), .d (.v 1), .unk, .unk, .unk, .d (.v 5)] ++ us 20, [], []⟩, 1)]
theorem changeforgeequal_Strings_17_ok : Fn.Ok Try.prog ⟨17, [(.sl .str), (.sl .str)], [.bool], changeforgeequal_Strings_17⟩ :=
  Fn.of (c := ⟨Try.prog, [], [], [], changeforgeequal_Strings_17_h⟩) (fs := []) (gs := []) (an := [(.int .i64), (.int .i64), .bool, (.int .i64), (.int .i64), .bool, .str, .str, .str, .str, .bool, (.int .i64)]) (by kernel_rfl) Try.func17 (by kernel_rfl) (by kernel_rfl) (fun _ h => by cases h) (fun _ h => by cases h) (by kernel_rfl)


/- changeforge/changeforgeequal.Patch -/
def changeforgeequal_Patch_31_h : List (Nat × SS × Nat) := [(29, ⟨us 65, [], []⟩, 0), (1864, ⟨[.unk, .unk, .box 2 0, .box 3 0, .unk, .d (.v 10)] ++ us 58 ++ [.d (.v 11)], [(2, .cs ([.d (.v 2)])), (3, .cs ([.d (.v 3)]))], []⟩, 2), (58, ⟨[.unk, .unk, .box 2 0, .box 3 0, .unk, .d (.v 7)] ++ us 59, [(2, .cs ([.d (.v 2)])), (3, .cs ([.d (.v 3)]))], []⟩, 1)]
theorem changeforgeequal_Patch_31_ok : Fn.Ok Try.prog ⟨31, [(.p (.sl (.p (.int .i64) (.p (.sl .str) (.p (.sl .str) .e)))) .e), (.p (.sl (.p (.int .i64) (.p (.sl .str) (.p (.sl .str) .e)))) .e)], [.bool], changeforgeequal_Patch_31⟩ :=
  Fn.of (c := ⟨Try.prog, [(17, 1)], [], [], changeforgeequal_Patch_31_h⟩) (fs := [⟨17, [(.sl .str), (.sl .str)], [.bool], changeforgeequal_Strings_17⟩]) (gs := []) (an := [(.sl (.p (.int .i64) (.p (.sl .str) (.p (.sl .str) .e)))), (.sl (.p (.int .i64) (.p (.sl .str) (.p (.sl .str) .e)))), (.int .i64), (.int .i64), .bool, (.int .i64), (.int .i64), .bool, (.int .i64), .bool, (.int .i64), (.p (.int .i64) (.p (.sl .str) (.p (.sl .str) .e))), (.int .i64), (.p (.int .i64) (.p (.sl .str) (.p (.sl .str) .e))), (.int .i64), .bool, (.p (.int .i64) (.p (.sl .str) (.p (.sl .str) .e))), (.sl .str), (.p (.int .i64) (.p (.sl .str) (.p (.sl .str) .e))), (.sl .str), .bool, (.p (.int .i64) (.p (.sl .str) (.p (.sl .str) .e))), (.sl .str), (.p (.int .i64) (.p (.sl .str) (.p (.sl .str) .e))), (.sl .str), .bool]) (by kernel_rfl) Try.func31 (by kernel_rfl) (by kernel_rfl) (by simp only [List.forall_mem_cons, List.not_mem_nil, false_implies, implies_true, and_true]; exact changeforgeequal_Strings_17_ok) (fun _ h => by cases h) (by kernel_rfl)


/- changeforge/changeforgeequal.Patches -/
def changeforgeequal_Patches_14_h : List (Nat × SS × Nat) := [(29, ⟨us 27, [], []⟩, 0), (58, ⟨[.d (.v 0), .d (.v 1), .unk, .unk, .unk, .d (.v 5)] ++ us 21, [], []⟩, 1)]
theorem changeforgeequal_Patches_14_ok : Fn.Ok Try.prog ⟨14, [(.sl (.p (.sl (.p (.int .i64) (.p (.sl .str) (.p (.sl .str) .e)))) .e)), (.sl (.p (.sl (.p (.int .i64) (.p (.sl .str) (.p (.sl .str) .e)))) .e))], [.bool], changeforgeequal_Patches_14⟩ :=
  Fn.of (c := ⟨Try.prog, [(31, 1)], [], [], changeforgeequal_Patches_14_h⟩) (fs := [⟨31, [(.p (.sl (.p (.int .i64) (.p (.sl .str) (.p (.sl .str) .e)))) .e), (.p (.sl (.p (.int .i64) (.p (.sl .str) (.p (.sl .str) .e)))) .e)], [.bool], changeforgeequal_Patch_31⟩]) (gs := []) (an := [(.int .i64), (.int .i64), .bool, (.int .i64), (.int .i64), .bool, (.p (.sl (.p (.int .i64) (.p (.sl .str) (.p (.sl .str) .e)))) .e), (.p (.sl (.p (.int .i64) (.p (.sl .str) (.p (.sl .str) .e)))) .e), (.p (.sl (.p (.int .i64) (.p (.sl .str) (.p (.sl .str) .e)))) .e), (.p (.sl (.p (.int .i64) (.p (.sl .str) (.p (.sl .str) .e)))) .e), .bool, (.int .i64)]) (by kernel_rfl) Try.func14 (by kernel_rfl) (by kernel_rfl) (by simp only [List.forall_mem_cons, List.not_mem_nil, false_implies, implies_true, and_true]; exact changeforgeequal_Patch_31_ok) (fun _ h => by cases h) (by kernel_rfl)


/- changeforge/changeforgelaw2.single -/
def changeforgelaw2_single_32_h : List (Nat × SS × Nat) := []
theorem changeforgelaw2_single_32_ok : Fn.Ok Try.prog ⟨32, [(.int .i64), (.sl .str), (.sl .str)], [(.p (.sl (.p (.int .i64) (.p (.sl .str) (.p (.sl .str) .e)))) .e)], changeforgelaw2_single_32⟩ :=
  Fn.of (c := ⟨Try.prog, [], [], [], changeforgelaw2_single_32_h⟩) (fs := []) (gs := []) (an := [(.int .i64), (.sl .str), (.sl .str), (.p (.int .i64) (.p (.sl .str) (.p (.sl .str) .e))), (.sl (.p (.int .i64) (.p (.sl .str) (.p (.sl .str) .e)))), (.sl (.p (.int .i64) (.p (.sl .str) (.p (.sl .str) .e)))), (.p (.sl (.p (.int .i64) (.p (.sl .str) (.p (.sl .str) .e)))) .e)]) (by kernel_rfl) Try.func32 (by kernel_rfl) (by kernel_rfl) (fun _ h => by cases h) (fun _ h => by cases h) (by kernel_rfl)


/- slices.Equal[[]string,string] -/
def slices_Equal___string_string__43_h : List (Nat × SS × Nat) := [(29, ⟨us 26, [], []⟩, 0), (58, ⟨[.d (.v 0), .d (.v 1)] ++ us 10 ++ [.d (.v 5), .d (.v 6)] ++ us 12, [], []⟩, 1)]
theorem slices_Equal___string_string__43_ok : Fn.Ok Try.prog ⟨43, [(.sl .str), (.sl .str)], [.bool], slices_Equal___string_string__43⟩ :=
  Fn.of (c := ⟨Try.prog, [], [], [], slices_Equal___string_string__43_h⟩) (fs := []) (gs := []) (an := [(.int .i64), (.int .i64), .bool, (.int .i64), (.int .i64), .bool, .str, .str, .str, .str, .bool, (.int .i64)]) (by kernel_rfl) Try.func43 (by kernel_rfl) (by kernel_rfl) (fun _ h => by cases h) (fun _ h => by cases h) (by kernel_rfl)


/- changeforge/textpatch.Apply -/
def textpatch_Apply_19_h : List (Nat × SS × Nat) := [(253, ⟨[.unk, .d (.v 1), .unk, .unk, .unk, .box 5 0, .unk, .unk, .grow 9 1 13, .d (.v 14)] ++ us 65, [(5, .cs ([.d (.k (.int .i64 0)), .d (.k (.int .i64 0))]))], [.t 60, .t 57]⟩, 2), (129636, ⟨[.unk, .d (.v 1), .unk, .unk, .unk, .box 5 0, .unk, .unk, .grow 9 1 22, .d (.v 23), .d (.v 24), .box 11 0] ++ us 13 ++ [.d (.v 2), .d (.v 12), .d (.v 24)] ++ us 20 ++ [.d (.v 25)] ++ us 26, [(5, .cs ([.d (.k (.int .i64 0)), .d (.k (.int .i64 0))])), (11, .cs ([.d (.v 26), .d (.v 27), .d (.v 28)]))], [.t 60, .t 57]⟩, 7), (506, ⟨[.unk, .d (.v 1), .unk, .unk, .unk, .box 5 0, .unk, .unk, .grow 9 1 13, .d (.v 14)] ++ us 15 ++ [.d (.v 2), .d (.v 12), .d (.v 15)] ++ us 47, [(5, .cs ([.d (.k (.int .i64 0)), .d (.k (.int .i64 0))]))], [.t 60, .t 57]⟩, 3)]
theorem textpatch_Apply_19_ok : Fn.Ok Try.prog ⟨19, [(.p (.sl (.p (.int .i64) (.p (.sl .str) (.p (.sl .str) .e)))) .e), (.sl .str)], [(.sl .str), (.p (.int .i64) (.p (.int .i64) .e))], textpatch_Apply_19⟩ :=
  Fn.of (c := ⟨Try.prog, [(41, 1), (33, 1), (42, 1), (43, 1)], [], [], textpatch_Apply_19_h⟩) (fs := [⟨41, [(.p (.sl (.p (.int .i64) (.p (.sl .str) (.p (.sl .str) .e)))) .e)], [(.p (.int .i64) (.p (.int .i64) .e))], textpatch_Validate_41⟩, ⟨33, [(.sl .str)], [(.int .i64)], lines_Code_33⟩, ⟨42, [(.p (.int .i64) (.p (.sl .str) (.p (.sl .str) .e)))], [(.int .i64)], textpatch_End_42⟩, ⟨43, [(.sl .str), (.sl .str)], [.bool], slices_Equal___string_string__43⟩]) (gs := []) (an := [(.sl (.p (.int .i64) (.p (.sl .str) (.p (.sl .str) .e)))), (.p (.sl (.p (.int .i64) (.p (.sl .str) (.p (.sl .str) .e)))) .e), (.int .i64), (.int .i64), (.p (.int .i64) (.p (.int .i64) .e)), (.p (.int .i64) (.p (.int .i64) .e)), .bool, (.p (.int .i64) (.p (.int .i64) .e)), .bool, (.int .i64), (.p (.int .i64) (.p (.int .i64) .e)), (.int .i64), (.sl .str), (.int .i64), (.sl .str), (.sl .str), (.int .i64), .bool, (.p (.int .i64) (.p (.int .i64) .e)), (.p (.int .i64) (.p (.int .i64) .e)), (.sl .str), (.int .i64), (.int .i64), .bool, (.p (.int .i64) (.p (.sl .str) (.p (.sl .str) .e))), (.p (.int .i64) (.p (.sl .str) (.p (.sl .str) .e))), (.int .i64), (.sl .str), (.sl .str), (.sl .str), (.int .i64), (.int .i64), .bool, (.int .i64), (.sl .str), (.sl .str), (.int .i64), (.p (.int .i64) (.p (.int .i64) .e)), (.sl .str), (.sl .str), (.sl .str), (.p (.int .i64) (.p (.sl .str) (.p (.sl .str) .e))), (.int .i64), (.p (.int .i64) (.p (.sl .str) (.p (.sl .str) .e))), (.int .i64), .bool, (.p (.int .i64) (.p (.sl .str) (.p (.sl .str) .e))), (.sl .str), .bool]) (by kernel_rfl) Try.func19 (by kernel_rfl) (by kernel_rfl) (by simp only [List.forall_mem_cons, List.not_mem_nil, false_implies, implies_true, and_true]; exact ⟨textpatch_Validate_41_ok, lines_Code_33_ok, textpatch_End_42_ok, slices_Equal___string_string__43_ok⟩) (fun _ h => by cases h) (by kernel_rfl)


end Go.Proofs.Ytfepfapfogpfkaa.F
end
section
/- That they do: printed by a program of ours. -/
namespace Go.Proofs.Ytfepfapfogpfkaa.F
open Go Go.Proofs.Ytfepfapfogpfkaa.V
set_option maxRecDepth 100000
set_option linter.unusedVariables false

/- changeforge/stack.Apply -/
def stack_Apply_16_h : List (Nat × SS × Nat) := [(125, ⟨us 5 ++ [.box 5 0, .unk, .unk, .d (.v 12)] ++ us 42, [(5, .cs ([.d (.k (.int .i64 0)), .d (.k (.int .i64 0))]))], []⟩, 1), (250, ⟨us 5 ++ [.box 5 0, .unk, .unk, .d (.v 12)] ++ us 18 ++ [.d (.v 1), .d (.v 11), .d (.v 13)] ++ us 21, [(5, .cs ([.d (.k (.int .i64 0)), .d (.k (.int .i64 0))]))], []⟩, 2)]
theorem stack_Apply_16_ok : Fn.Ok Try.prog ⟨16, [(.sl .str), (.sl (.p (.sl (.p (.int .i64) (.p (.sl .str) (.p (.sl .str) .e)))) .e))], [(.sl .str), (.p (.int .i64) (.p (.int .i64) .e))], stack_Apply_16⟩ :=
  Fn.of (c := ⟨Try.prog, [(23, 1), (33, 1), (34, 1), (19, 2)], [], [], stack_Apply_16_h⟩) (fs := [⟨23, [(.sl (.p (.sl (.p (.int .i64) (.p (.sl .str) (.p (.sl .str) .e)))) .e))], [(.p (.int .i64) (.p (.int .i64) .e))], stack_Validate_23⟩, ⟨33, [(.sl .str)], [(.int .i64)], lines_Code_33⟩, ⟨34, [(.sl .str)], [(.sl .str)], slices_Clone___string_string__34⟩, ⟨19, [(.p (.sl (.p (.int .i64) (.p (.sl .str) (.p (.sl .str) .e)))) .e), (.sl .str)], [(.sl .str), (.p (.int .i64) (.p (.int .i64) .e))], textpatch_Apply_19⟩]) (gs := []) (an := [(.int .i64), (.int .i64), (.p (.int .i64) (.p (.int .i64) .e)), (.p (.int .i64) (.p (.int .i64) .e)), .bool, (.p (.int .i64) (.p (.int .i64) .e)), .bool, (.int .i64), (.p (.int .i64) (.p (.int .i64) .e)), (.int .i64), (.sl .str), (.p (.int .i64) (.p (.int .i64) .e)), (.sl .str), (.int .i64), .bool, (.p (.sl (.p (.int .i64) (.p (.sl .str) (.p (.sl .str) .e)))) .e), (.p (.sl (.p (.int .i64) (.p (.sl .str) (.p (.sl .str) .e)))) .e), (.sl (.p (.int .i64) (.p (.sl .str) (.p (.sl .str) .e)))), (.p (.sl (.p (.int .i64) (.p (.sl .str) (.p (.sl .str) .e)))) .e), (.int .i64), (.int .i64), (.p (.int .i64) (.p (.int .i64) .e)), (.p (.int .i64) (.p (.int .i64) .e)), .bool, (.int .i64), (.int .i64), (.p (.int .i64) (.p (.int .i64) .e)), (.int .i64)]) (by kernel_rfl) Try.func16 (by kernel_rfl) (by kernel_rfl) (by simp only [List.forall_mem_cons, List.not_mem_nil, false_implies, implies_true, and_true]; exact ⟨stack_Validate_23_ok, lines_Code_33_ok, slices_Clone___string_string__34_ok, textpatch_Apply_19_ok⟩) (fun _ h => by cases h) (by kernel_rfl)


/- changeforge/changeforgelaw2.dropped -/
def changeforgelaw2_dropped_15_h : List (Nat × SS × Nat) := [(62, ⟨[.d (.v 18)] ++ us 45, [], []⟩, 1)]
theorem changeforgelaw2_dropped_15_ok : Fn.Ok Try.prog ⟨15, [], [.bool], changeforgelaw2_dropped_15⟩ :=
  Fn.of (c := ⟨Try.prog, [(32, 1), (12, 3), (16, 2), (14, 1), (17, 1)], [], [], changeforgelaw2_dropped_15_h⟩) (fs := [⟨32, [(.int .i64), (.sl .str), (.sl .str)], [(.p (.sl (.p (.int .i64) (.p (.sl .str) (.p (.sl .str) .e)))) .e)], changeforgelaw2_single_32⟩, ⟨12, [(.sl (.p (.sl (.p (.int .i64) (.p (.sl .str) (.p (.sl .str) .e)))) .e)), (.int .i64)], [(.sl (.p (.sl (.p (.int .i64) (.p (.sl .str) (.p (.sl .str) .e)))) .e)), .bool, (.p (.int .i64) (.p (.int .i64) .e))], stack_Drop_12⟩, ⟨16, [(.sl .str), (.sl (.p (.sl (.p (.int .i64) (.p (.sl .str) (.p (.sl .str) .e)))) .e))], [(.sl .str), (.p (.int .i64) (.p (.int .i64) .e))], stack_Apply_16⟩, ⟨14, [(.sl (.p (.sl (.p (.int .i64) (.p (.sl .str) (.p (.sl .str) .e)))) .e)), (.sl (.p (.sl (.p (.int .i64) (.p (.sl .str) (.p (.sl .str) .e)))) .e))], [.bool], changeforgeequal_Patches_14⟩, ⟨17, [(.sl .str), (.sl .str)], [.bool], changeforgeequal_Strings_17⟩]) (gs := []) (an := [(.sl .str), (.sl (.p (.int .i64) (.p (.sl .str) (.p (.sl .str) .e)))), (.sl .str), (.p (.sl (.p (.int .i64) (.p (.sl .str) (.p (.sl .str) .e)))) .e), (.sl (.p (.sl (.p (.int .i64) (.p (.sl .str) (.p (.sl .str) .e)))) .e)), (.int .i64), (.int .i64), (.p (.sl (.p (.int .i64) (.p (.sl .str) (.p (.sl .str) .e)))) .e), (.sl (.p (.sl (.p (.int .i64) (.p (.sl .str) (.p (.sl .str) .e)))) .e)), (.int .i64), (.int .i64), .bool, .bool, .bool, (.p (.sl (.p (.int .i64) (.p (.sl .str) (.p (.sl .str) .e)))) .e), (.sl (.p (.sl (.p (.int .i64) (.p (.sl .str) (.p (.sl .str) .e)))) .e)), (.sl .str)]) (by kernel_rfl) Try.func15 (by kernel_rfl) (by kernel_rfl) (by simp only [List.forall_mem_cons, List.not_mem_nil, false_implies, implies_true, and_true]; exact ⟨changeforgelaw2_single_32_ok, stack_Drop_12_ok, stack_Apply_16_ok, changeforgeequal_Patches_14_ok, changeforgeequal_Strings_17_ok⟩) (fun _ h => by cases h) (by kernel_rfl)


/- changeforge/changeforgelaw2.StackMoveSameEffect -/
def changeforgelaw2_StackMoveSameEffect_4_h : List (Nat × SS × Nat) := [(254, ⟨us 8 ++ [.d (.v 19)] ++ us 55, [], []⟩, 1), (60, ⟨[.d (.v 0)] ++ us 8 ++ [.d (.v 4), .unk, .unk, .d (.v 9)] ++ us 28 ++ [.d (.v 13)] ++ us 22, [], []⟩, 1)]
theorem changeforgelaw2_StackMoveSameEffect_4_ok : Fn.Ok Try.prog ⟨4, [(.sl .str), (.sl (.p (.sl (.p (.int .i64) (.p (.sl .str) (.p (.sl .str) .e)))) .e)), (.int .i64), (.int .i64)], [.bool], changeforgelaw2_StackMoveSameEffect_4⟩ :=
  Fn.of (c := ⟨Try.prog, [(10, 3), (16, 2), (15, 1), (17, 1)], [], [], changeforgelaw2_StackMoveSameEffect_4_h⟩) (fs := [⟨10, [(.sl (.p (.sl (.p (.int .i64) (.p (.sl .str) (.p (.sl .str) .e)))) .e)), (.int .i64), (.int .i64)], [(.sl (.p (.sl (.p (.int .i64) (.p (.sl .str) (.p (.sl .str) .e)))) .e)), .bool, (.p (.int .i64) (.p (.int .i64) .e))], stack_Move_10⟩, ⟨16, [(.sl .str), (.sl (.p (.sl (.p (.int .i64) (.p (.sl .str) (.p (.sl .str) .e)))) .e))], [(.sl .str), (.p (.int .i64) (.p (.int .i64) .e))], stack_Apply_16⟩, ⟨15, [], [.bool], changeforgelaw2_dropped_15⟩, ⟨17, [(.sl .str), (.sl .str)], [.bool], changeforgeequal_Strings_17⟩]) (gs := []) (an := [(.int .i64), (.int .i64), (.int .i64), (.int .i64), .bool, (.int .i64), (.int .i64), .bool, .bool, .bool, .bool, .bool, .bool]) (by kernel_rfl) Try.func4 (by kernel_rfl) (by kernel_rfl) (by simp only [List.forall_mem_cons, List.not_mem_nil, false_implies, implies_true, and_true]; exact ⟨stack_Move_10_ok, stack_Apply_16_ok, changeforgelaw2_dropped_15_ok, changeforgeequal_Strings_17_ok⟩) (fun _ h => by cases h) (by kernel_rfl)


/- changeforge/changeforgelaw2.StackMoveBack -/
def changeforgelaw2_StackMoveBack_5_h : List (Nat × SS × Nat) := [(62, ⟨us 6 ++ [.d (.v 14)] ++ us 44, [], []⟩, 1), (28, ⟨[.d (.v 0), .d (.v 1), .d (.v 2)] ++ us 4 ++ [.d (.v 3)] ++ us 19 ++ [.d (.v 8)] ++ us 23, [], []⟩, 1)]
theorem changeforgelaw2_StackMoveBack_5_ok : Fn.Ok Try.prog ⟨5, [(.sl (.p (.sl (.p (.int .i64) (.p (.sl .str) (.p (.sl .str) .e)))) .e)), (.int .i64), (.int .i64)], [.bool], changeforgelaw2_StackMoveBack_5⟩ :=
  Fn.of (c := ⟨Try.prog, [(10, 3), (15, 1), (14, 1)], [], [], changeforgelaw2_StackMoveBack_5_h⟩) (fs := [⟨10, [(.sl (.p (.sl (.p (.int .i64) (.p (.sl .str) (.p (.sl .str) .e)))) .e)), (.int .i64), (.int .i64)], [(.sl (.p (.sl (.p (.int .i64) (.p (.sl .str) (.p (.sl .str) .e)))) .e)), .bool, (.p (.int .i64) (.p (.int .i64) .e))], stack_Move_10⟩, ⟨15, [], [.bool], changeforgelaw2_dropped_15⟩, ⟨14, [(.sl (.p (.sl (.p (.int .i64) (.p (.sl .str) (.p (.sl .str) .e)))) .e)), (.sl (.p (.sl (.p (.int .i64) (.p (.sl .str) (.p (.sl .str) .e)))) .e))], [.bool], changeforgeequal_Patches_14⟩]) (gs := []) (an := [(.int .i64), (.int .i64), .bool, (.int .i64), (.int .i64), .bool, .bool, .bool, .bool]) (by kernel_rfl) Try.func5 (by kernel_rfl) (by kernel_rfl) (by simp only [List.forall_mem_cons, List.not_mem_nil, false_implies, implies_true, and_true]; exact ⟨stack_Move_10_ok, changeforgelaw2_dropped_15_ok, changeforgeequal_Patches_14_ok⟩) (fun _ h => by cases h) (by kernel_rfl)


/- changeforge/changeforgelaw2.StackNeighbors -/
def changeforgelaw2_StackNeighbors_6_h : List (Nat × SS × Nat) := [(126, ⟨us 4 ++ [.d (.v 23)] ++ us 77, [], [.t 71, .t 67, .t 63]⟩, 1), (124, ⟨[.d (.v 0), .d (.v 1), .unk, .unk, .unk, .d (.v 3), .d (.v 4), .unk, .box 8 0, .box 9 0] ++ us 48 ++ [.d (.v 22)] ++ us 23, [(8, .cs ([.d (.v 18)])), (9, .cs ([.d (.v 19)]))], []⟩, 1), (28, ⟨[.d (.v 0), .d (.v 1), .unk, .unk, .unk, .d (.v 3), .d (.v 4)] ++ us 27 ++ [.d (.v 8)] ++ us 47, [], []⟩, 1)]
theorem changeforgelaw2_StackNeighbors_6_ok : Fn.Ok Try.prog ⟨6, [(.sl (.p (.sl (.p (.int .i64) (.p (.sl .str) (.p (.sl .str) .e)))) .e)), (.int .i64)], [.bool], changeforgelaw2_StackNeighbors_6⟩ :=
  Fn.of (c := ⟨Try.prog, [(10, 3), (15, 1), (18, 4), (14, 1)], [], [], changeforgelaw2_StackNeighbors_6_h⟩) (fs := [⟨10, [(.sl (.p (.sl (.p (.int .i64) (.p (.sl .str) (.p (.sl .str) .e)))) .e)), (.int .i64), (.int .i64)], [(.sl (.p (.sl (.p (.int .i64) (.p (.sl .str) (.p (.sl .str) .e)))) .e)), .bool, (.p (.int .i64) (.p (.int .i64) .e))], stack_Move_10⟩, ⟨15, [], [.bool], changeforgelaw2_dropped_15⟩, ⟨18, [(.p (.sl (.p (.int .i64) (.p (.sl .str) (.p (.sl .str) .e)))) .e), (.p (.sl (.p (.int .i64) (.p (.sl .str) (.p (.sl .str) .e)))) .e)], [(.p (.sl (.p (.int .i64) (.p (.sl .str) (.p (.sl .str) .e)))) .e), (.p (.sl (.p (.int .i64) (.p (.sl .str) (.p (.sl .str) .e)))) .e), .bool, (.p (.int .i64) (.p (.int .i64) .e))], commute_Commute_18⟩, ⟨14, [(.sl (.p (.sl (.p (.int .i64) (.p (.sl .str) (.p (.sl .str) .e)))) .e)), (.sl (.p (.sl (.p (.int .i64) (.p (.sl .str) (.p (.sl .str) .e)))) .e))], [.bool], changeforgeequal_Patches_14⟩]) (gs := []) (an := [(.int .i64), (.int .i64), (.int .i64), .bool, (.p (.sl (.p (.int .i64) (.p (.sl .str) (.p (.sl .str) .e)))) .e), (.p (.sl (.p (.int .i64) (.p (.sl .str) (.p (.sl .str) .e)))) .e), (.int .i64), (.p (.sl (.p (.int .i64) (.p (.sl .str) (.p (.sl .str) .e)))) .e), (.p (.sl (.p (.int .i64) (.p (.sl .str) (.p (.sl .str) .e)))) .e), (.sl (.p (.int .i64) (.p (.sl .str) (.p (.sl .str) .e)))), (.sl (.p (.int .i64) (.p (.sl .str) (.p (.sl .str) .e)))), (.int .i64), (.int .i64), .bool, .bool, .bool, (.sl (.p (.sl (.p (.int .i64) (.p (.sl .str) (.p (.sl .str) .e)))) .e)), (.sl (.p (.sl (.p (.int .i64) (.p (.sl .str) (.p (.sl .str) .e)))) .e)), (.sl (.p (.sl (.p (.int .i64) (.p (.sl .str) (.p (.sl .str) .e)))) .e)), (.p (.sl (.p (.int .i64) (.p (.sl .str) (.p (.sl .str) .e)))) .e), (.p (.sl (.p (.int .i64) (.p (.sl .str) (.p (.sl .str) .e)))) .e), (.sl (.p (.sl (.p (.int .i64) (.p (.sl .str) (.p (.sl .str) .e)))) .e)), (.sl (.p (.sl (.p (.int .i64) (.p (.sl .str) (.p (.sl .str) .e)))) .e)), (.int .i64), (.sl (.p (.sl (.p (.int .i64) (.p (.sl .str) (.p (.sl .str) .e)))) .e)), (.sl (.p (.sl (.p (.int .i64) (.p (.sl .str) (.p (.sl .str) .e)))) .e)), .bool, .bool, .bool, .bool, (.int .i64), (.int .i64), .bool]) (by kernel_rfl) Try.func6 (by kernel_rfl) (by kernel_rfl) (by simp only [List.forall_mem_cons, List.not_mem_nil, false_implies, implies_true, and_true]; exact ⟨stack_Move_10_ok, changeforgelaw2_dropped_15_ok, commute_Commute_18_ok, changeforgeequal_Patches_14_ok⟩) (fun _ h => by cases h) (by kernel_rfl)


/- changeforge/changeforgelaw2.StackDropUndone -/
def changeforgelaw2_StackDropUndone_7_h : List (Nat × SS × Nat) := [(1022, ⟨us 6 ++ [.d (.v 33)] ++ us 99, [], []⟩, 1), (2036, ⟨us 6 ++ [.d (.v 25)] ++ us 99, [], []⟩, 1), (124, ⟨[.d (.v 0)] ++ us 6 ++ [.d (.v 3), .unk, .unk, .d (.v 10), .unk, .unk, .d (.v 15)] ++ us 53 ++ [.d (.v 19)] ++ us 38, [], []⟩, 1)]
theorem changeforgelaw2_StackDropUndone_7_ok : Fn.Ok Try.prog ⟨7, [(.sl .str), (.sl (.p (.sl (.p (.int .i64) (.p (.sl .str) (.p (.sl .str) .e)))) .e)), (.int .i64)], [.bool], changeforgelaw2_StackDropUndone_7⟩ :=
  Fn.of (c := ⟨Try.prog, [(12, 3), (10, 3), (16, 2), (15, 1), (19, 2), (17, 1)], [], [], changeforgelaw2_StackDropUndone_7_h⟩) (fs := [⟨12, [(.sl (.p (.sl (.p (.int .i64) (.p (.sl .str) (.p (.sl .str) .e)))) .e)), (.int .i64)], [(.sl (.p (.sl (.p (.int .i64) (.p (.sl .str) (.p (.sl .str) .e)))) .e)), .bool, (.p (.int .i64) (.p (.int .i64) .e))], stack_Drop_12⟩, ⟨10, [(.sl (.p (.sl (.p (.int .i64) (.p (.sl .str) (.p (.sl .str) .e)))) .e)), (.int .i64), (.int .i64)], [(.sl (.p (.sl (.p (.int .i64) (.p (.sl .str) (.p (.sl .str) .e)))) .e)), .bool, (.p (.int .i64) (.p (.int .i64) .e))], stack_Move_10⟩, ⟨16, [(.sl .str), (.sl (.p (.sl (.p (.int .i64) (.p (.sl .str) (.p (.sl .str) .e)))) .e))], [(.sl .str), (.p (.int .i64) (.p (.int .i64) .e))], stack_Apply_16⟩, ⟨15, [], [.bool], changeforgelaw2_dropped_15⟩, ⟨19, [(.p (.sl (.p (.int .i64) (.p (.sl .str) (.p (.sl .str) .e)))) .e), (.sl .str)], [(.sl .str), (.p (.int .i64) (.p (.int .i64) .e))], textpatch_Apply_19⟩, ⟨17, [(.sl .str), (.sl .str)], [.bool], changeforgeequal_Strings_17⟩]) (gs := []) (an := [(.int .i64), (.int .i64), (.int .i64), (.int .i64), (.int .i64), (.int .i64), (.int .i64), (.int .i64), .bool, (.int .i64), (.int .i64), .bool, .bool, .bool, (.int .i64), (.int .i64), (.p (.sl (.p (.int .i64) (.p (.sl .str) (.p (.sl .str) .e)))) .e), (.p (.sl (.p (.int .i64) (.p (.sl .str) (.p (.sl .str) .e)))) .e), (.int .i64), (.int .i64), .bool, .bool, .bool, .bool, .bool, .bool, .bool, (.int .i64), .bool]) (by kernel_rfl) Try.func7 (by kernel_rfl) (by kernel_rfl) (by simp only [List.forall_mem_cons, List.not_mem_nil, false_implies, implies_true, and_true]; exact ⟨stack_Drop_12_ok, stack_Move_10_ok, stack_Apply_16_ok, changeforgelaw2_dropped_15_ok, textpatch_Apply_19_ok, changeforgeequal_Strings_17_ok⟩) (fun _ h => by cases h) (by kernel_rfl)


/- changeforge/changeforgeref1.Equal -/
def changeforgeref1_Equal_69_h : List (Nat × SS × Nat) := [(29, ⟨us 26, [], []⟩, 0), (58, ⟨[.d (.v 0), .d (.v 1), .unk, .unk, .unk, .d (.v 5)] ++ us 20, [], []⟩, 1)]
theorem changeforgeref1_Equal_69_ok : Fn.Ok Try.prog ⟨69, [(.sl .str), (.sl .str)], [.bool], changeforgeref1_Equal_69⟩ :=
  Fn.of (c := ⟨Try.prog, [], [], [], changeforgeref1_Equal_69_h⟩) (fs := []) (gs := []) (an := [(.int .i64), (.int .i64), .bool, (.int .i64), (.int .i64), .bool, .str, .str, .str, .str, .bool, (.int .i64)]) (by kernel_rfl) Try.func69 (by kernel_rfl) (by kernel_rfl) (fun _ h => by cases h) (fun _ h => by cases h) (by kernel_rfl)


/- changeforge/changeforgeref1.has -/
def changeforgeref1_has_57_h : List (Nat × SS × Nat) := [(12, ⟨[.d (.v 0), .d (.v 1), .d (.v 2)] ++ us 14 ++ [.d (.v 3)] ++ us 9, [], []⟩, 1)]
theorem changeforgeref1_has_57_ok : Fn.Ok Try.prog ⟨57, [(.sl .str), (.int .i64), (.sl .str)], [.bool], changeforgeref1_has_57⟩ :=
  Fn.of (c := ⟨Try.prog, [(69, 1)], [], [], changeforgeref1_has_57_h⟩) (fs := [⟨69, [(.sl .str), (.sl .str)], [.bool], changeforgeref1_Equal_69⟩]) (gs := []) (an := [.bool, (.int .i64), (.int .i64), (.sl .str), .bool, (.int .i64), (.int .i64), (.int .i64), .bool]) (by kernel_rfl) Try.func57 (by kernel_rfl) (by kernel_rfl) (by simp only [List.forall_mem_cons, List.not_mem_nil, false_implies, implies_true, and_true]; exact changeforgeref1_Equal_69_ok) (fun _ h => by cases h) (by kernel_rfl)


/- changeforge/changeforgeref1.fits -/
def changeforgeref1_fits_64_h : List (Nat × SS × Nat) := []
theorem changeforgeref1_fits_64_ok : Fn.Ok Try.prog ⟨64, [(.p (.sl (.p (.int .i64) (.p (.sl .str) (.p (.sl .str) .e)))) .e)], [(.p (.sl (.p (.int .i64) (.p (.sl .str) (.p (.sl .str) .e)))) .e), (.p (.int .i64) (.p (.int .i64) .e))], changeforgeref1_fits_64⟩ :=
  Fn.of (c := ⟨Try.prog, [(50, 1), (29, 1)], [], [], changeforgeref1_fits_64_h⟩) (fs := [⟨50, [(.p (.sl (.p (.int .i64) (.p (.sl .str) (.p (.sl .str) .e)))) .e)], [(.p (.int .i64) (.p (.int .i64) .e))], changeforgeref1_PatchFault_50⟩, ⟨29, [(.int .i64), (.int .i64)], [(.p (.int .i64) (.p (.int .i64) .e))], changeforgeref1_At_29⟩]) (gs := []) (an := [(.sl (.p (.int .i64) (.p (.sl .str) (.p (.sl .str) .e)))), (.p (.sl (.p (.int .i64) (.p (.sl .str) (.p (.sl .str) .e)))) .e), (.int .i64), .bool, (.int .i64), (.int .i64), (.p (.sl (.p (.int .i64) (.p (.sl .str) (.p (.sl .str) .e)))) .e), (.p (.int .i64) (.p (.int .i64) .e)), (.p (.sl (.p (.int .i64) (.p (.sl .str) (.p (.sl .str) .e)))) .e), (.p (.int .i64) (.p (.int .i64) .e))]) (by kernel_rfl) Try.func64 (by kernel_rfl) (by kernel_rfl) (by simp only [List.forall_mem_cons, List.not_mem_nil, false_implies, implies_true, and_true]; exact ⟨changeforgeref1_PatchFault_50_ok, changeforgeref1_At_29_ok⟩) (fun _ h => by cases h) (by kernel_rfl)

end Go.Proofs.Ytfepfapfogpfkaa.F
end
section
/- What the functions compute, said shortly: lines. -/
namespace Go.Proofs.Ytfepfapfogpfkaa.F
open Go Go.Proofs.Ytfepfapfogpfkaa.V

def nl (s : ByteArray) : Bool := decide (0 ≤ Go.Lib.indexByte s.data.toList 10)
def vfrom : List ByteArray → Int → Int × Int × Unit
  | [], _ => (0, 0, ())
  | s :: r, i => if s.size > 80 then (2, i, ()) else if nl s = true then (5, i, ()) else vfrom r (i + 1)
def vF (l : List ByteArray) : Int × Int × Unit := if l.length > 120 then (2, -1, ()) else vfrom l 0

theorem ContainsRune_nl (s : ByteArray) : strings_ContainsRune_68 (s, 10, ()) = some (nl s, ()) := by
  unfold strings_ContainsRune_68
  simp [nl]

theorem lines_Validate_eq (l : List ByteArray) : lines_Validate_52 (l, ()) = some (vF l, ()) := by
  unfold lines_Validate_52 vF
  by_cases hl : l.length > 120
  · have : ((l.length : Int) > 120) := by omega
    simp [hl, this]
  · have h1 : ¬ ((l.length : Int) > 120) := by omega
    simp only [h1, hl, decide_false, Bool.false_eq_true, if_false]
    refine (loop_val (fun s => ∃ i : Nat, s.1 = (i : Int) ∧ i ≤ l.length) (fun s => l.length - s.1.toNat) (fun s => (vfrom (l.drop s.1.toNat) s.1, ())) ?_ (s := (0, ())) ⟨0, rfl, by omega⟩)
    rintro ⟨_, _⟩ ⟨i, rfl, hi⟩
    by_cases hlt : i < l.length
    · have h2 : ((i : Int) < (l.length : Int)) := by omega
      have hd : l.drop i = l[i] :: l.drop (i + 1) := List.drop_eq_getElem_cons hlt
      simp only [h2, decide_true, if_true, atC_val (List.getElem?_eq_getElem hlt), ContainsRune_nl, Option.bind_some, Int.toNat_natCast, hd, vfrom]
      by_cases h3 : l[i].size > 80
      · have h3' : (80 : Int) < (l[i].size : Int) := by omega
        right; simp [h3, h3']
      · have h3' : ¬ (80 : Int) < (l[i].size : Int) := by omega
        by_cases h4 : nl l[i] = true
        · right; simp [h3, h3', h4, ContainsRune_nl]
        · left
          refine ⟨((i + 1 : Nat), ()), ?_, ⟨i + 1, rfl, hlt⟩, ?_, by simp; omega⟩
          · simp [h3', h4, ContainsRune_nl, wrap_i64 (n := (i : Int) + 1) (by omega) (by omega)]
          · simp [h3, h4]
    · have h2 : ¬ ((i : Int) < (l.length : Int)) := by omega
      right
      simp only [h2, decide_false, Bool.false_eq_true, if_false, Int.toNat_natCast, List.drop_eq_nil_of_le (show l.length ≤ i from by omega), vfrom]
      rfl

end Go.Proofs.Ytfepfapfogpfkaa.F
end
section
/- What the functions compute, said shortly: patches of texts. -/
namespace Go.Proofs.Ytfepfapfogpfkaa.F
open Go Go.Proofs.Ytfepfapfogpfkaa.V

abbrev Hunk := Int × List ByteArray × List ByteArray × Unit
abbrev Patch := List Hunk × Unit
abbrev Fault := Int × Int × Unit
def code (l : List ByteArray) : Int := (vF l).1
theorem lines_Code_eq (l : List ByteArray) : lines_Code_33 (l, ()) = some (code l, ()) := by
  unfold lines_Code_33
  simp [lines_Validate_eq, code]
theorem code_len {l : List ByteArray} (h : code l = 0) : l.length ≤ 120 := by
  unfold code vF at h
  split at h
  · cases h
  · omega
def hc (h : Hunk) (k : Int) : Int :=
  if h.1 < 0 ∨ h.1 > 120 then 3 else if code h.2.1 ≠ 0 then code h.2.1 else if code h.2.2.1 ≠ 0 then code h.2.2.1 else
  if (h.2.1 = [] ∧ h.2.2.1 = []) ∨ h.1 < k then 5 else if h.1 + h.2.1.length > 120 then 3 else 0
theorem len0 {α : Type} (l : List α) : ((l.length : Int) == 0) = l.isEmpty := by cases l <;> simp; omega
theorem End_eq (h : Hunk) (h0 : 0 ≤ h.1) (h1 : h.1 ≤ 4000000000000000000) (h2 : h.2.1.length ≤ 4000000000000000000) : textpatch_End_42 (h, ()) = some (h.1 + h.2.1.length, ()) := by
  unfold textpatch_End_42
  simp only []
  rw [wrap_i64 (by omega) (by omega)]
theorem hunkCode_eq (h : Hunk) (k : Int) : textpatch_hunkCode_55 (h, k, ()) = some (hc h k, ()) := by
  obtain ⟨at_, old, new, ⟨⟩⟩ := h
  unfold textpatch_hunkCode_55 hc
  simp only [lines_Code_eq, Option.bind_some]
  by_cases h1 : at_ < 0
  · simp [h1]
  · by_cases h2 : at_ > 120
    · simp [h1, h2]
    · have h2' : ¬ 120 < at_ := by omega
      by_cases h3 : code old = 0
      · by_cases h4 : code new = 0
        · have hl := code_len h3
          have hE : textpatch_End_42 ((at_, old, new, ()), ()) = some (at_ + old.length, ()) := End_eq _ (by omega) (by omega) (by simp; omega)
          have e1 := len0 old
          have e2 := len0 new
          simp only [h1, h2', h3, h4, e1, e2, hE, decide_false, Bool.false_eq_true, if_false, gt_iff_lt, bne_self_eq_false, or_self, ne_eq, not_true_eq_false, Option.bind_some]
          cases old with
          | nil =>
            cases new with
            | nil => simp
            | cons a l =>
              by_cases h5 : at_ < k
              · simp [h5]
              · have h6 : ¬ (120 : Int) < at_ + (([] : List ByteArray).length : Nat) := by simp; omega
                simp only [List.isEmpty_nil, List.isEmpty_cons, if_true, Bool.false_eq_true, if_false, h5, decide_false, h6, reduceCtorEq, and_false, or_self]
          | cons a l =>
            by_cases h5 : at_ < k
            · simp [h5]
            · by_cases h6 : (120 : Int) < at_ + ((a :: l).length : Nat)
              · simp only [List.isEmpty_cons, Bool.false_eq_true, if_false, h5, decide_false, h6, decide_true, if_true, reduceCtorEq, false_and, or_self]
              · simp only [List.isEmpty_cons, Bool.false_eq_true, if_false, h5, decide_false, h6, reduceCtorEq, false_and, or_self]
        · simp [h1, h2', h3, h4]
      · simp [h1, h2', h3]
theorem hc_zero {h : Hunk} {k : Int} (e : hc h k = 0) : 0 ≤ h.1 ∧ k ≤ h.1 ∧ h.1 + h.2.1.length ≤ 120 ∧ h.2.1.length ≤ 120 ∧ h.2.2.1.length ≤ 120 ∧ code h.2.1 = 0 ∧ code h.2.2.1 = 0 ∧ (h.2.1 ≠ [] ∨ h.2.2.1 ≠ []) := by
  unfold hc at e
  split at e
  · cases e
  · split at e
    · rename_i h1; exact absurd e h1
    · split at e
      · rename_i h1; exact absurd e h1
      · rename_i h1 h2 h3
        have h2 : code h.2.1 = 0 := by simpa using h2
        have h3 : code h.2.2.1 = 0 := by simpa using h3
        have l2 := code_len h2
        have l3 := code_len h3
        split at e
        · cases e
        · split at e
          · cases e
          · rename_i h4 h5
            refine ⟨by omega, by omega, by omega, l2, l3, h2, h3, ?_⟩
            by_cases hn : h.2.1 = []
            · exact .inr fun hn' => h4 (.inl ⟨hn, hn'⟩)
            · exact .inl hn
/-- The first hunk that is not as it should be. -/
def hfrom : List Hunk → Int → Int → Fault
  | [], _, _ => (0, 0, ())
  | h :: r, k, i => if hc h k ≠ 0 then (hc h k, i, ()) else hfrom r (h.1 + h.2.1.length + 1) (i + 1)
def pF (p : Patch) : Fault := if p.1.length > 130 then (2, -1, ()) else hfrom p.1 0 0
theorem textpatch_Validate_eq (p : Patch) : textpatch_Validate_41 (p, ()) = some (pF p, ()) := by
  obtain ⟨l, ⟨⟩⟩ := p
  unfold textpatch_Validate_41 pF
  by_cases hl : l.length > 130
  · have : (130 : Int) < (l.length : Int) := by omega
    simp [hl, this]
  · have h1 : ¬ (130 : Int) < (l.length : Int) := by omega
    simp only [gt_iff_lt, h1, show ¬ 130 < l.length from by omega, decide_false, Bool.false_eq_true, if_false]
    refine (loop_val (fun s => ∃ i : Nat, s.2.1 = (i : Int) ∧ i ≤ l.length) (fun s => l.length - s.2.1.toNat) (fun s => (hfrom (l.drop s.2.1.toNat) s.1 s.2.1, ())) ?_ (s := (0, 0, ())) ⟨0, rfl, by omega⟩)
    rintro ⟨k, _, _⟩ ⟨i, rfl, hi⟩
    by_cases hlt : i < l.length
    · have h2 : ((i : Int) < (l.length : Int)) := by omega
      have hd : l.drop i = l[i] :: l.drop (i + 1) := List.drop_eq_getElem_cons hlt
      generalize hx : l[i] = x at hd
      have hg : l[i]? = some x := by rw [List.getElem?_eq_getElem hlt, hx]
      obtain ⟨at_, old, new, ⟨⟩⟩ := x
      simp only [h2, decide_true, if_true, atC_val hg, hunkCode_eq, Option.bind_some, Int.toNat_natCast, hd, hfrom]
      by_cases h3 : hc (at_, old, new, ()) k = 0
      · left
        have hz := hc_zero h3
        simp only at hz
        have hE : textpatch_End_42 ((at_, old, new, ()), ()) = some (at_ + old.length, ()) := End_eq _ (by simp; omega) (by simp; omega) (by simp; omega)
        refine ⟨(at_ + old.length + 1, (i + 1 : Nat), ()), ?_, ⟨i + 1, rfl, hlt⟩, ?_, by simp; omega⟩
        · simp [h3, hE, wrap_i64 (n := (i : Int) + 1) (by omega) (by omega), wrap_i64 (n := at_ + old.length + 1) (by omega) (by omega)]
        · simp [h3]
      · right; simp [h3]
    · have h2 : ¬ ((i : Int) < (l.length : Int)) := by omega
      right
      simp only [h2, decide_false, Bool.false_eq_true, if_false, Int.toNat_natCast, List.drop_eq_nil_of_le (show l.length ≤ i from by omega), hfrom]
      rfl
/-- The first patch that is not as it should be. -/
def sfrom : List Patch → Int → Fault
  | [], _ => (0, 0, ())
  | p :: r, i => if pF p = (0, 0, ()) then sfrom r (i + 1) else ((pF p).1, i, ())
def sF (l : List Patch) : Fault := if l.length > 12 then (2, -1, ()) else sfrom l 0
end Go.Proofs.Ytfepfapfogpfkaa.F
end
section
/- What the functions compute, said shortly: stacks. -/
namespace Go.Proofs.Ytfepfapfogpfkaa.F
open Go Go.Proofs.Ytfepfapfogpfkaa.V

theorem stack_Validate_eq (l : List Patch) : stack_Validate_23 (l, ()) = some (sF l, ()) := by
  unfold stack_Validate_23 sF
  by_cases hl : l.length > 12
  · have : (12 : Int) < (l.length : Int) := by omega
    simp [hl, this]
  · have h1 : ¬ (12 : Int) < (l.length : Int) := by omega
    simp only [gt_iff_lt, h1, show ¬ 12 < l.length from by omega, decide_false, Bool.false_eq_true, if_false]
    refine (loop_val (fun s => ∃ i : Nat, s.1 = (i : Int) ∧ i ≤ l.length) (fun s => l.length - s.1.toNat) (fun s => (sfrom (l.drop s.1.toNat) s.1, ())) ?_ (s := (0, ())) ⟨0, rfl, by omega⟩)
    rintro ⟨_, _⟩ ⟨i, rfl, hi⟩
    by_cases hlt : i < l.length
    · have h2 : ((i : Int) < (l.length : Int)) := by omega
      have hd : l.drop i = l[i] :: l.drop (i + 1) := List.drop_eq_getElem_cons hlt
      generalize hx : l[i] = x at hd
      have hg : l[i]? = some x := by rw [List.getElem?_eq_getElem hlt, hx]
      obtain ⟨hs, ⟨⟩⟩ := x
      simp only [h2, decide_true, if_true, atC_val hg, textpatch_Validate_eq, Option.bind_some, Int.toNat_natCast, hd, sfrom]
      generalize pF (hs, ()) = F
      obtain ⟨c, j, ⟨⟩⟩ := F
      by_cases h3 : c = 0 ∧ j = 0
      · obtain ⟨rfl, rfl⟩ := h3
        left
        refine ⟨((i + 1 : Nat), ()), ?_, ⟨i + 1, rfl, hlt⟩, ?_, by simp; omega⟩
        · simp [wrap_i64 (n := (i : Int) + 1) (by omega) (by omega)]
        · simp
      · right
        have h3' : ¬ ((c, j, ()) : Fault) = (0, 0, ()) := fun e => h3 (by simpa using e)
        have h3'' : (c == 0 && (j == 0 && true)) = false := by
          rw [Bool.eq_false_iff]; intro e; simp at e; exact h3 e
        simp only [h3'', h3', Bool.not_false, if_true, if_false]
    · have h2 : ¬ ((i : Int) < (l.length : Int)) := by omega
      right
      simp only [h2, decide_false, Bool.false_eq_true, if_false, Int.toNat_natCast, List.drop_eq_nil_of_le (show l.length ≤ i from by omega), sfrom]
      rfl

def posF (n i k : Int) : Fault := if i < 0 ∨ i ≥ n then (3, k, ()) else (0, 0, ())
theorem position_eq (l : List Patch) (i k : Int) : stack_position_24 (l, i, k, ()) = some (posF l.length i k, ()) := by
  unfold stack_position_24 posF
  by_cases h1 : i < 0
  · simp [h1]
  · by_cases h2 : i ≥ (l.length : Int)
    · simp [h1, h2]
    · simp [h1, h2]
def faultF (f : Fault) : Fault := if f.1 = 0 ∧ f.2.1 = 0 then f else (f.1, -1, ())
theorem fault_eq (f : Fault) : stack_fault_27 (f, ()) = some (faultF f, ()) := by
  obtain ⟨c, j, ⟨⟩⟩ := f
  unfold stack_fault_27 faultF
  by_cases h : c = 0 ∧ j = 0
  · obtain ⟨rfl, rfl⟩ := h; simp
  · have : (c == 0 && (j == 0 && true)) = false := by
      rw [Bool.eq_false_iff]; intro e; simp at e; exact h e
    simp only [this, h, Bool.not_false, if_true, if_false]

theorem Clone_eq (l : List ByteArray) (h : l.length ≤ 1000000) : slices_Clone___string_string__34 (l, ()) = some (l, ()) := by
  unfold slices_Clone___string_string__34
  simp only []
  rw [nilC_val]
  · simp [maxLen]; omega
  · rintro rfl; simp [maxLen]
theorem Moved_eq (h : Hunk) (k : Int) (h1 : h.2.1.length ≤ 1000000) (h2 : h.2.2.1.length ≤ 1000000) : textpatch_Moved_49 (h, k, ()) = some ((k, h.2.1, h.2.2.1, ()), ()) := by
  unfold textpatch_Moved_49
  simp [Clone_eq _ h1, Clone_eq _ h2]

/-- Small enough. -/
def okH (h : Hunk) : Prop := h.2.1.length ≤ 1000000 ∧ h.2.2.1.length ≤ 1000000
def okP (p : Patch) : Prop := p.1.length ≤ 1000000 ∧ ∀ h ∈ p.1, okH h
theorem clone_eq (l : List Patch) (hl : l.length ≤ 1000000) (hp : ∀ p ∈ l, okP p) : stack_clone_25 (l, ()) = some (l, ()) := by
  unfold stack_clone_25
  simp only []
  refine (loop_val (fun s => ∃ i : Nat, s.2.1 = (i : Int) ∧ i ≤ l.length ∧ s.1 = l.take i) (fun s => l.length - s.2.1.toNat) (fun s => (l, ())) ?_ (s := ([], 0, ())) ⟨0, rfl, by omega, rfl⟩)
  rintro ⟨_, _, _⟩ ⟨i, rfl, hi, rfl⟩
  by_cases hlt : i < l.length
  · left
    have h2 : ((i : Int) < (l.length : Int)) := by omega
    have hg : l[i]? = some l[i] := List.getElem?_eq_getElem hlt
    have hpi := hp _ (List.getElem_mem hlt)
    have ht : l.take (i + 1) = l.take i ++ [l[i]] := by rw [List.take_succ, hg]; rfl
    generalize l[i] = x at hg hpi ht
    obtain ⟨hs, ⟨⟩⟩ := x
    have hlen : (l.take i).length = i := by rw [List.length_take]; omega
    refine ⟨(l.take (i + 1), (i + 1 : Nat), ()), ?_, ⟨i + 1, rfl, hlt, rfl⟩, rfl, by simp; omega⟩
    simp only [h2, decide_true, if_true, atC_val hg]
    refine (loop_val (fun s => s.1 = l.take i ∧ s.2.1 = (i : Int) ∧ s.2.2.1 = hs ∧ s.2.2.2.1 = (hs.length : Int) ∧ ∃ j : Nat, s.2.2.2.2.1 = (j : Int) ∧ j ≤ hs.length ∧ s.2.2.2.2.2.1 = hs.take j) (fun s => hs.length - s.2.2.2.2.1.toNat) (fun s => Sum.inl (l.take (i + 1), ((i + 1 : Nat) : Int), ())) ?_ (s := (l.take i, (i : Int), hs, (hs.length : Int), 0, [], ())) ⟨rfl, rfl, rfl, rfl, 0, rfl, by omega, rfl⟩)
    rintro ⟨a1, a2, a3, a4, a5, a6, ⟨⟩⟩ ⟨h1, h3, h4, h5, j, h6, hj, h7⟩
    simp only at h1 h3 h4 h5 h6 h7
    subst h1 h3 h4 h5 h6 h7
    by_cases hjl : j < a3.length
    · left
      have h8 : ((j : Int) < (a3.length : Int)) := by omega
      have hg' : a3[j]? = some a3[j] := List.getElem?_eq_getElem hjl
      have hh := hpi.2 _ (List.getElem_mem hjl)
      have ht' : a3.take (j + 1) = a3.take j ++ [a3[j]] := by rw [List.take_succ, hg']; rfl
      have hpl := hpi.1
      generalize a3[j] = y at hg' hh ht'
      obtain ⟨at_, old, new, ⟨⟩⟩ := y
      refine ⟨(l.take i, (i : Int), a3, (a3.length : Int), (j + 1 : Nat), a3.take (j + 1), ()), ?_, ⟨rfl, rfl, rfl, rfl, j + 1, rfl, hjl, rfl⟩, rfl, by simp; omega⟩
      have hlj : (a3.take j).length = j := by rw [List.length_take]; omega
      simp only at hpl
      simp only [h8, decide_true, if_true, atC_val hg', Moved_eq (at_, old, new, ()) at_ hh.1 hh.2, Option.bind_some, hlj, List.length_cons, List.length_nil, ← ht', wrap_i64 (n := (j : Int) + 1) (by omega) (by omega)]
      rw [if_pos ⟨by omega, by simp [maxLen]; omega⟩]
      rfl
    · right
      have h8 : ¬ ((j : Int) < (a3.length : Int)) := by omega
      simp only [h8, decide_false, Bool.false_eq_true, if_false, List.take_of_length_le (show a3.length ≤ j from by omega), hlen, List.length_cons, List.length_nil, wrap_i64 (n := (i : Int) + 1) (by omega) (by omega)]
      rw [if_pos ⟨by omega, by simp [maxLen]; omega⟩, ht]
      rfl
  · right
    have h2 : ¬ ((i : Int) < (l.length : Int)) := by omega
    simp only [h2, decide_false, Bool.false_eq_true, if_false, List.take_of_length_le (show l.length ≤ i from by omega)]
    rfl
end Go.Proofs.Ytfepfapfogpfkaa.F
end
section
/- What the functions compute, said shortly: exchanging patches. -/
namespace Go.Proofs.Ytfepfapfogpfkaa.F
open Go Go.Proofs.Ytfepfapfogpfkaa.V

abbrev Span := Int × Int × Unit
/-- A patch within bounds. -/
def bdH (h : Hunk) : Prop := 0 ≤ h.1 ∧ h.1 ≤ 120 ∧ h.2.1.length ≤ 120 ∧ h.2.2.1.length ≤ 120
def bd (p : Patch) : Prop := p.1.length ≤ 130 ∧ ∀ h ∈ p.1, bdH h
theorem hfrom_bd : ∀ {l : List Hunk} {k i : Int}, hfrom l k i = (0, 0, ()) → ∀ h ∈ l, bdH h
  | [], _, _, _, h, hh => by cases hh
  | h :: r, k, i, e, h', hh => by
    simp only [hfrom] at e
    split at e
    · rename_i hne
      injection e with e1 e2
      exact absurd e1 hne
    · rename_i hz
      have hz : hc h k = 0 := by simpa using hz
      rcases List.mem_cons.1 hh with rfl | hh
      · have := hc_zero hz
        exact ⟨this.1, by omega, by omega, by omega⟩
      · exact hfrom_bd e h' hh
theorem pF_bd {p : Patch} (e : pF p = (0, 0, ())) : bd p := by
  unfold pF at e
  split at e
  · injection e with e; cases e
  · exact ⟨by omega, hfrom_bd e⟩
theorem bd_ok {p : Patch} (h : bd p) : okP p := ⟨by have := h.1; omega, fun x hx => by have := h.2 x hx; exact ⟨by have := this.2.2.1; omega, by have := this.2.2.2; omega⟩⟩

def dl (h : Hunk) : Int := (h.2.2.1.length : Int) - h.2.1.length
def sh (l : List Hunk) : Int := (l.map dl).sum
def newsF : List Hunk → Int → List Span
  | [], _ => []
  | h :: r, s => (h.1 + s, h.1 + s + h.2.2.1.length, ()) :: newsF r (s + dl h)
theorem newsF_app : ∀ (l m : List Hunk) (s : Int), newsF (l ++ m) s = newsF l s ++ newsF m (s + sh l)
  | [], m, s => by simp [newsF, sh]
  | h :: l, m, s => by
    simp only [List.cons_append, newsF, newsF_app l m, sh, List.map_cons, List.sum_cons, Int.add_assoc]
theorem newsF_len : ∀ (l : List Hunk) (s : Int), (newsF l s).length = l.length
  | [], _ => rfl
  | h :: l, s => by simp [newsF, newsF_len l]
theorem sh_bd : ∀ {l : List Hunk}, (∀ h ∈ l, bdH h) → -(120 * (l.length : Int)) ≤ sh l ∧ sh l ≤ 120 * (l.length : Int)
  | [], _ => by simp [sh]
  | h :: l, hh => by
    have h1 := sh_bd (l := l) fun x hx => hh x (by simp [hx])
    have h2 := hh h (by simp)
    simp only [sh, List.map_cons, List.sum_cons, List.length_cons] at h1 ⊢
    have := h2.2.2.1
    have := h2.2.2.2
    have e : dl h = (h.2.2.1.length : Int) - h.2.1.length := rfl
    omega
theorem sh_snoc (l : List Hunk) (h : Hunk) : sh (l ++ [h]) = sh l + dl h := by simp [sh]
theorem news_eq (p : Patch) (hp : bd p) : commute_news_37 (p, ()) = some (newsF p.1 0, ()) := by
  obtain ⟨l, ⟨⟩⟩ := p
  obtain ⟨hl, hb⟩ := hp
  simp only at hl hb
  unfold commute_news_37
  simp only []
  refine (loop_val (fun s => ∃ i : Nat, s.2.2.1 = (i : Int) ∧ i ≤ l.length ∧ s.1 = newsF (l.take i) 0 ∧ s.2.1 = sh (l.take i)) (fun s => l.length - s.2.2.1.toNat) (fun s => (newsF l 0, ())) ?_ (s := ([], 0, 0, ())) ⟨0, rfl, by omega, rfl, rfl⟩)
  rintro ⟨a1, a2, a3, ⟨⟩⟩ ⟨i, h1, hi, h2, h3⟩
  simp only at h1 h2 h3
  subst h1 h2 h3
  by_cases hlt : i < l.length
  · left
    have h2 : ((i : Int) < (l.length : Int)) := by omega
    have hg : l[i]? = some l[i] := List.getElem?_eq_getElem hlt
    have hbi := hb _ (List.getElem_mem hlt)
    have ht : l.take (i + 1) = l.take i ++ [l[i]] := by rw [List.take_succ, hg]; rfl
    generalize l[i] = x at hg hbi ht
    obtain ⟨at_, old, new, ⟨⟩⟩ := x
    obtain ⟨b1, b2, b3, b4⟩ := hbi
    simp only at b1 b2 b3 b4
    have hs := sh_bd (l := l.take i) fun x hx => hb x (List.mem_of_mem_take hx)
    have hlen : (l.take i).length = i := by rw [List.length_take]; omega
    rw [hlen] at hs
    have e1 : sh (l.take (i + 1)) = sh (l.take i) + ((new.length : Int) - old.length) := by rw [ht, sh_snoc]; rfl
    have e2 : newsF (l.take (i + 1)) 0 = newsF (l.take i) 0 ++ [(at_ + sh (l.take i), at_ + sh (l.take i) + new.length, ())] := by rw [ht, newsF_app]; simp [newsF]
    refine ⟨(newsF (l.take (i + 1)) 0, sh (l.take (i + 1)), (i + 1 : Nat), ()), ?_, ⟨i + 1, rfl, hlt, rfl, rfl⟩, rfl, by simp; omega⟩
    generalize sh (l.take i) = S at hs e1 e2
    simp only [h2, decide_true, if_true, atC_val hg, wrap_i64 (n := at_ + S) (by omega) (by omega), wrap_i64 (n := at_ + S + (new.length : Int)) (by omega) (by omega), wrap_i64 (n := (new.length : Int) - (old.length : Int)) (by omega) (by omega), wrap_i64 (n := S + ((new.length : Int) - (old.length : Int))) (by omega) (by omega), wrap_i64 (n := (i : Int) + 1) (by omega) (by omega), newsF_len, hlen, List.length_cons, List.length_nil, ← e2]
    rw [if_pos ⟨by omega, by simp [maxLen]; omega⟩, e1]
    rfl
  · right
    have h2 : ¬ ((i : Int) < (l.length : Int)) := by omega
    simp only [h2, decide_false, Bool.false_eq_true, if_false, List.take_of_length_le (show l.length ≤ i from by omega)]
    rfl

def oldsF (l : List Hunk) : List Span := l.map fun h => (h.1, h.1 + h.2.1.length, ())
theorem olds_eq (p : Patch) (hp : bd p) : commute_olds_38 (p, ()) = some (oldsF p.1, ()) := by
  obtain ⟨l, ⟨⟩⟩ := p
  obtain ⟨hl, hb⟩ := hp
  simp only at hl hb
  unfold commute_olds_38
  simp only []
  refine (loop_val (fun s => ∃ i : Nat, s.2.1 = (i : Int) ∧ i ≤ l.length ∧ s.1 = oldsF (l.take i)) (fun s => l.length - s.2.1.toNat) (fun s => (oldsF l, ())) ?_ (s := ([], 0, ())) ⟨0, rfl, by omega, rfl⟩)
  rintro ⟨a1, a2, ⟨⟩⟩ ⟨i, h1, hi, h2⟩
  simp only at h1 h2
  subst h1 h2
  by_cases hlt : i < l.length
  · left
    have h2 : ((i : Int) < (l.length : Int)) := by omega
    have hg : l[i]? = some l[i] := List.getElem?_eq_getElem hlt
    have hbi := hb _ (List.getElem_mem hlt)
    have ht : l.take (i + 1) = l.take i ++ [l[i]] := by rw [List.take_succ, hg]; rfl
    generalize l[i] = x at hg hbi ht
    obtain ⟨at_, old, new, ⟨⟩⟩ := x
    obtain ⟨b1, b2, b3, b4⟩ := hbi
    simp only at b1 b2 b3 b4
    have hlen : (oldsF (l.take i)).length = i := by rw [oldsF, List.length_map, List.length_take]; omega
    have e2 : oldsF (l.take (i + 1)) = oldsF (l.take i) ++ [(at_, at_ + old.length, ())] := by rw [ht]; simp [oldsF]
    have hE : textpatch_End_42 ((at_, old, new, ()), ()) = some (at_ + old.length, ()) := End_eq _ (by simp; omega) (by simp; omega) (by simp; omega)
    refine ⟨(oldsF (l.take (i + 1)), (i + 1 : Nat), ()), ?_, ⟨i + 1, rfl, hlt, rfl⟩, rfl, by simp; omega⟩
    simp only [h2, decide_true, if_true, atC_val hg, hE, Option.bind_some, wrap_i64 (n := (i : Int) + 1) (by omega) (by omega), hlen, List.length_cons, List.length_nil, ← e2]
    rw [if_pos ⟨by omega, by simp [maxLen]; omega⟩]
    rfl
  · right
    have h2 : ¬ ((i : Int) < (l.length : Int)) := by omega
    simp only [h2, decide_false, Bool.false_eq_true, if_false, List.take_of_length_le (show l.length ≤ i from by omega)]
    rfl
def apF (x y : Span) : Bool := decide (x.2.1 < y.1) || decide (y.2.1 < x.1)
theorem apart_eq (x y : Span) : commute_apart_53 (x, y, ()) = some (apF x y, ()) := by
  obtain ⟨a, b, ⟨⟩⟩ := x
  obtain ⟨c, d, ⟨⟩⟩ := y
  unfold commute_apart_53 apF
  by_cases h : b < c <;> simp [h]
def inF (a b : List Span) : Bool := a.all fun x => b.all fun y => apF x y
theorem independent_eq (a b : List Span) (ha : a.length ≤ 1000000) (hb : b.length ≤ 1000000) : commute_independent_36 (a, b, ()) = some (inF a b, ()) := by
  unfold commute_independent_36
  simp only []
  refine (loop_val (fun s => ∃ i : Nat, s.1 = (i : Int) ∧ i ≤ a.length) (fun s => a.length - s.1.toNat) (fun s => (inF (a.drop s.1.toNat) b, ())) ?_ (s := (0, ())) ⟨0, rfl, by omega⟩)
  rintro ⟨a1, ⟨⟩⟩ ⟨i, h1, hi⟩
  simp only at h1
  subst h1
  by_cases hlt : i < a.length
  · have h2 : ((i : Int) < (a.length : Int)) := by omega
    have hg : a[i]? = some a[i] := List.getElem?_eq_getElem hlt
    have hd : a.drop i = a[i] :: a.drop (i + 1) := List.drop_eq_getElem_cons hlt
    generalize a[i] = x at hg hd
    obtain ⟨lo, hi', ⟨⟩⟩ := x
    simp only [h2, decide_true, if_true, atC_val hg, Int.toNat_natCast, hd]
    by_cases hall : b.all (fun y => apF (lo, hi', ()) y) = true
    · left
      refine ⟨((i + 1 : Nat), ()), ?_, ⟨i + 1, rfl, hlt⟩, by simp [inF, hall], by simp; omega⟩
      refine (loop_val (fun s => s.1 = (i : Int) ∧ s.2.1 = (b.length : Int) ∧ s.2.2.2.1 = lo ∧ s.2.2.2.2.1 = hi' ∧ ∃ j : Nat, s.2.2.1 = (j : Int) ∧ j ≤ b.length) (fun s => b.length - s.2.2.1.toNat) (fun s => Sum.inl (((i + 1 : Nat) : Int), ())) ?_ (s := ((i : Int), (b.length : Int), 0, lo, hi', ())) ⟨rfl, rfl, rfl, rfl, 0, rfl, by omega⟩)
      rintro ⟨c1, c2, c3, c4, c5, ⟨⟩⟩ ⟨g1, g2, g3, g4, j, g5, hj⟩
      simp only at g1 g2 g3 g4 g5
      subst g1 g2 g3 g4 g5
      by_cases hjl : j < b.length
      · left
        have h8 : ((j : Int) < (b.length : Int)) := by omega
        have hg' : b[j]? = some b[j] := List.getElem?_eq_getElem hjl
        have hy := List.all_eq_true.1 hall _ (List.getElem_mem hjl)
        generalize b[j] = y at hg' hy
        obtain ⟨lo', hi'', ⟨⟩⟩ := y
        refine ⟨((i : Int), (b.length : Int), (j + 1 : Nat), c4, c5, ()), ?_, ⟨rfl, rfl, rfl, rfl, j + 1, rfl, hjl⟩, rfl, by simp; omega⟩
        simp only [h8, decide_true, if_true, atC_val hg', apart_eq, hy, Option.bind_some, Bool.not_true, Bool.false_eq_true, if_false, wrap_i64 (n := (j : Int) + 1) (by omega) (by omega)]
        rfl
      · right
        have h8 : ¬ ((j : Int) < (b.length : Int)) := by omega
        simp only [h8, decide_false, Bool.false_eq_true, if_false, wrap_i64 (n := (i : Int) + 1) (by omega) (by omega)]
        rfl
    · right
      have hres : inF ((lo, hi', ()) :: a.drop (i + 1)) b = false := by simp only [inF, List.all_cons]; rw [Bool.eq_false_iff]; intro e; rw [Bool.and_eq_true] at e; exact hall e.1
      rw [hres]
      refine (loop_val (fun s => s.1 = (i : Int) ∧ s.2.1 = (b.length : Int) ∧ s.2.2.2.1 = lo ∧ s.2.2.2.2.1 = hi' ∧ ∃ j : Nat, s.2.2.1 = (j : Int) ∧ j ≤ b.length ∧ ¬ (b.drop j).all (fun y => apF (lo, hi', ()) y) = true) (fun s => b.length - s.2.2.1.toNat) (fun s => Sum.inr (false, ())) ?_ (s := ((i : Int), (b.length : Int), 0, lo, hi', ())) ⟨rfl, rfl, rfl, rfl, 0, rfl, by omega, hall⟩)
      rintro ⟨c1, c2, c3, c4, c5, ⟨⟩⟩ ⟨g1, g2, g3, g4, j, g5, hj, hn⟩
      simp only at g1 g2 g3 g4 g5
      subst g1 g2 g3 g4 g5
      by_cases hjl : j < b.length
      · have h8 : ((j : Int) < (b.length : Int)) := by omega
        have hg' : b[j]? = some b[j] := List.getElem?_eq_getElem hjl
        have hd' : b.drop j = b[j] :: b.drop (j + 1) := List.drop_eq_getElem_cons hjl
        generalize b[j] = y at hg' hd'
        obtain ⟨lo', hi'', ⟨⟩⟩ := y
        simp only [h8, decide_true, if_true, atC_val hg', apart_eq, Option.bind_some]
        cases hy : apF (c4, c5, ()) (lo', hi'', ()) with
        | true =>
          left
          refine ⟨((i : Int), (b.length : Int), (j + 1 : Nat), c4, c5, ()), ?_, ⟨rfl, rfl, rfl, rfl, j + 1, rfl, hjl, ?_⟩, trivial, by simp; omega⟩
          · simp only [Bool.not_true, Bool.false_eq_true, if_false, wrap_i64 (n := (j : Int) + 1) (by omega) (by omega)]
            rfl
          · rw [hd', List.all_cons, hy, Bool.true_and] at hn; exact hn
        | false => right; rfl
      · exfalso
        rw [List.drop_eq_nil_of_le (by omega)] at hn
        exact hn rfl
  · have h2 : ¬ ((i : Int) < (a.length : Int)) := by omega
    right
    simp only [h2, decide_false, Bool.false_eq_true, if_false, Int.toNat_natCast, List.drop_eq_nil_of_le (show a.length ≤ i from by omega)]
    rfl
end Go.Proofs.Ytfepfapfogpfkaa.F
end
section
/- What the functions compute, said shortly: exchanging patches, whole. -/
namespace Go.Proofs.Ytfepfapfogpfkaa.F
open Go Go.Proofs.Ytfepfapfogpfkaa.V

def growF : List Hunk → List Span → Int → Int
  | h :: r, s :: t, k => (if s.2.1 < k then dl h else 0) + growF r t k
  | _, _, _ => 0
theorem growF_snoc {h : Hunk} {s : Span} {k : Int} : ∀ {l : List Hunk} {m : List Span}, l.length = m.length → growF (l ++ [h]) (m ++ [s]) k = growF l m k + if s.2.1 < k then dl h else 0
  | [], [], _ => by simp [growF]
  | a :: l, b :: m, e => by
    simp only [List.cons_append, growF, growF_snoc (l := l) (m := m) (by simpa using e), Int.add_assoc]
  | [], _ :: _, e => by simp at e
  | _ :: _, [], e => by simp at e
theorem growF_bd {k : Int} : ∀ {l : List Hunk} {m : List Span}, (∀ h ∈ l, bdH h) → -(120 * (l.length : Int)) ≤ growF l m k ∧ growF l m k ≤ 120 * (l.length : Int)
  | [], _, _ => by simp [growF]
  | h :: l, [], _ => by simp only [growF, List.length_cons]; omega
  | h :: l, b :: m, hh => by
    have h1 := growF_bd (k := k) (l := l) (m := m) fun x hx => hh x (by simp [hx])
    have h2 := hh h (by simp)
    have := h2.2.2.1
    have := h2.2.2.2
    have e : dl h = (h.2.2.1.length : Int) - h.2.1.length := rfl
    simp only [growF, List.length_cons]
    split <;> omega
theorem growth_eq (p : Patch) (sp : List Span) (k : Int) (hp : bd p) (hs : sp.length = p.1.length) : commute_growth_54 (p, sp, k, ()) = some (growF p.1 sp k, ()) := by
  obtain ⟨l, ⟨⟩⟩ := p
  obtain ⟨hl, hb⟩ := hp
  simp only at hl hb hs
  unfold commute_growth_54
  simp only []
  refine (loop_val (fun s => ∃ i : Nat, s.2.1 = (i : Int) ∧ i ≤ l.length ∧ s.1 = growF (l.take i) (sp.take i) k) (fun s => l.length - s.2.1.toNat) (fun s => (growF l sp k, ())) ?_ (s := (0, 0, ())) ⟨0, rfl, by omega, rfl⟩)
  rintro ⟨a1, a2, ⟨⟩⟩ ⟨i, h1, hi, h2⟩
  simp only at h1 h2
  subst h1 h2
  by_cases hlt : i < l.length
  · left
    have h2 : ((i : Int) < (l.length : Int)) := by omega
    have hg : l[i]? = some l[i] := List.getElem?_eq_getElem hlt
    have hlt' : i < sp.length := by omega
    have hg' : sp[i]? = some sp[i] := List.getElem?_eq_getElem hlt'
    have hbi := hb _ (List.getElem_mem hlt)
    have ht : l.take (i + 1) = l.take i ++ [l[i]] := by rw [List.take_succ, hg]; rfl
    have ht' : sp.take (i + 1) = sp.take i ++ [sp[i]] := by rw [List.take_succ, hg']; rfl
    generalize l[i] = x at hg hbi ht
    generalize sp[i] = y at hg' ht'
    obtain ⟨at_, old, new, ⟨⟩⟩ := x
    obtain ⟨lo, hi', ⟨⟩⟩ := y
    obtain ⟨b1, b2, b3, b4⟩ := hbi
    simp only at b1 b2 b3 b4
    have hlen : (l.take i).length = i := by rw [List.length_take]; omega
    have hlen' : (sp.take i).length = i := by rw [List.length_take]; omega
    have hgb := growF_bd (k := k) (m := sp.take i) (l := l.take i) fun x hx => hb x (List.mem_of_mem_take hx)
    rw [hlen] at hgb
    have e1 : growF (l.take (i + 1)) (sp.take (i + 1)) k = growF (l.take i) (sp.take i) k + if hi' < k then (new.length : Int) - old.length else 0 := by rw [ht, ht', growF_snoc (by rw [hlen, hlen'])]; rfl
    refine ⟨(growF (l.take (i + 1)) (sp.take (i + 1)) k, (i + 1 : Nat), ()), ?_, ⟨i + 1, rfl, hlt, rfl⟩, rfl, by simp; omega⟩
    generalize growF (l.take i) (sp.take i) k = S at hgb e1
    by_cases hk : hi' < k
    · rw [if_pos hk] at e1
      simp only [h2, decide_true, if_true, atC_val hg, atC_val hg', hk, wrap_i64 (n := (new.length : Int) - (old.length : Int)) (by omega) (by omega), wrap_i64 (n := S + ((new.length : Int) - (old.length : Int))) (by omega) (by omega), wrap_i64 (n := (i : Int) + 1) (by omega) (by omega), e1]
      rfl
    · rw [if_neg hk] at e1
      simp only [h2, decide_true, if_true, atC_val hg, atC_val hg', hk, decide_false, Bool.false_eq_true, if_false, wrap_i64 (n := (i : Int) + 1) (by omega) (by omega), e1, Int.add_zero]
      rfl
  · right
    have h2 : ¬ ((i : Int) < (l.length : Int)) := by omega
    simp only [h2, decide_false, Bool.false_eq_true, if_false, List.take_of_length_le (show l.length ≤ i from by omega), List.take_of_length_le (show sp.length ≤ i from by omega)]
    rfl

def shiftL (l by_ : List Hunk) (sp : List Span) (sg : Int) : List Hunk := l.map fun h => (h.1 + sg * growF by_ sp h.1, h.2.1, h.2.2.1, ())
theorem shifted_eq (p q : Patch) (sp : List Span) (sg : Int) (hp : bd p) (hq : bd q) (hs : sp.length = q.1.length) (hsg : sg = 1 ∨ sg = -1) : commute_shifted_40 (p, q, sp, sg, ()) = some ((shiftL p.1 q.1 sp sg, ()), ()) := by
  obtain ⟨l, ⟨⟩⟩ := p
  obtain ⟨m, ⟨⟩⟩ := q
  obtain ⟨hl, hb⟩ := hp
  have hq' := hq
  obtain ⟨hm, hbm⟩ := hq
  simp only at hl hb hm hbm hs
  unfold commute_shifted_40
  simp only []
  refine (loop_val (fun s => ∃ i : Nat, s.1 = (i : Int) ∧ i ≤ l.length ∧ s.2.1 = shiftL (l.take i) m sp sg) (fun s => l.length - s.1.toNat) (fun s => ((shiftL l m sp sg, ()), ())) ?_ (s := (0, [], ())) ⟨0, rfl, by omega, rfl⟩)
  rintro ⟨a1, a2, ⟨⟩⟩ ⟨i, h1, hi, h2⟩
  simp only at h1 h2
  subst h1 h2
  by_cases hlt : i < l.length
  · left
    have h2 : ((i : Int) < (l.length : Int)) := by omega
    have hg : l[i]? = some l[i] := List.getElem?_eq_getElem hlt
    have hbi := hb _ (List.getElem_mem hlt)
    have ht : l.take (i + 1) = l.take i ++ [l[i]] := by rw [List.take_succ, hg]; rfl
    generalize l[i] = x at hg hbi ht
    obtain ⟨at_, old, new, ⟨⟩⟩ := x
    obtain ⟨b1, b2, b3, b4⟩ := hbi
    simp only at b1 b2 b3 b4
    have hlen : (shiftL (l.take i) m sp sg).length = i := by rw [shiftL, List.length_map, List.length_take]; omega
    have hgb := growF_bd (k := at_) (m := sp) hbm
    have e2 : shiftL (l.take (i + 1)) m sp sg = shiftL (l.take i) m sp sg ++ [(at_ + sg * growF m sp at_, old, new, ())] := by rw [ht]; simp [shiftL]
    have hG : commute_growth_54 ((m, ()), sp, at_, ()) = some (growF m sp at_, ()) := growth_eq (m, ()) sp at_ hq' hs
    refine ⟨((i + 1 : Nat), shiftL (l.take (i + 1)) m sp sg, ()), ?_, ⟨i + 1, rfl, hlt, rfl⟩, rfl, by simp; omega⟩
    generalize growF m sp at_ = S at hgb e2 hG
    have hsS : -(120 * (m.length : Int)) ≤ sg * S ∧ sg * S ≤ 120 * (m.length : Int) := by rcases hsg with rfl | rfl <;> omega
    have hM : ∀ T : Int, textpatch_Moved_49 ((at_, old, new, ()), T, ()) = some ((T, old, new, ()), ()) := fun T => Moved_eq _ _ (by simp; omega) (by simp; omega)
    simp only [h2, decide_true, if_true, atC_val hg, hG, Option.bind_some, wrap_i64 (n := sg * S) (by omega) (by omega), wrap_i64 (n := at_ + sg * S) (by omega) (by omega), hM, hlen, List.length_cons, List.length_nil, wrap_i64 (n := (i : Int) + 1) (by omega) (by omega), ← e2]
    rw [if_pos ⟨by omega, by simp [maxLen]; omega⟩]
    rfl
  · right
    have h2 : ¬ ((i : Int) < (l.length : Int)) := by omega
    simp only [h2, decide_false, Bool.false_eq_true, if_false, List.take_of_length_le (show l.length ≤ i from by omega)]
    rfl
theorem shiftL_len {l by_ : List Hunk} {sp : List Span} {sg : Int} : (shiftL l by_ sp sg).length = l.length := by simp [shiftL]
theorem f0 (f : Fault) : (f.1 == 0 && (f.2.1 == 0 && true)) = decide (f = (0, 0, ())) := by
  obtain ⟨c, j, ⟨⟩⟩ := f
  by_cases h : c = 0 ∧ j = 0
  · obtain ⟨rfl, rfl⟩ := h; rfl
  · rw [decide_eq_false (fun e => h (by simpa using e)), Bool.eq_false_iff]
    intro e; simp at e; exact h e
theorem Fit_eq (p : Patch) : textpatch_Fit_39 (p, ()) = some (if pF p = (0, 0, ()) then (p, (0, 0, ()), ()) else (([], ()), (10, -1, ()), ())) := by
  obtain ⟨l, ⟨⟩⟩ := p
  unfold textpatch_Fit_39
  simp only [textpatch_Validate_eq, Option.bind_some, f0]
  by_cases h : pF (l, ()) = (0, 0, ()) <;> simp [h]
def chF (p q : Patch) : Fault := if pF p = (0, 0, ()) then (if pF q = (0, 0, ()) then (0, 0, ()) else ((pF q).1, -2, ())) else pF p
theorem check_eq (p q : Patch) : commute_check_35 (p, q, ()) = some (chF p q, ()) := by
  obtain ⟨l, ⟨⟩⟩ := p
  obtain ⟨m, ⟨⟩⟩ := q
  unfold commute_check_35 chF
  have e1 := f0 (pF (l, ()))
  have e2 := f0 (pF (m, ()))
  simp only [textpatch_Validate_eq, Option.bind_some]
  generalize pF (l, ()) = f at e1
  generalize pF (m, ()) = g at e2
  obtain ⟨c, j, ⟨⟩⟩ := f
  obtain ⟨d, k, ⟨⟩⟩ := g
  simp only at e1 e2
  simp only [e1, e2]
  by_cases h : ((c, j, ()) : Fault) = (0, 0, ())
  · by_cases h' : ((d, k, ()) : Fault) = (0, 0, ()) <;> simp only [h, h', decide_true, decide_false, Bool.not_true, Bool.not_false, Bool.false_eq_true, if_false, if_true]
  · simp only [h, decide_false, Bool.not_false, if_true, if_false]
theorem chF_zero {p q : Patch} (h : chF p q = (0, 0, ())) : pF p = (0, 0, ()) ∧ pF q = (0, 0, ()) := by
  unfold chF at h
  split at h
  · rename_i h1
    split at h
    · rename_i h2; exact ⟨h1, h2⟩
    · injection h with _ h; cases h
  · rename_i h1; exact absurd h h1
abbrev E0 : Patch := ([], ())
def comF (p q : Patch) : Patch × Patch × Bool × Fault × Unit :=
  if chF p q = (0, 0, ()) then
    if inF (newsF p.1 0) (oldsF q.1) = true then
      let a : Patch := (shiftL q.1 p.1 (newsF p.1 0) (-1), ())
      if pF a = (0, 0, ()) then
        let b : Patch := (shiftL p.1 a.1 (oldsF a.1) 1, ())
        if pF b = (0, 0, ()) then (a, b, true, (0, 0, ()), ()) else (E0, E0, false, (10, -1, ()), ())
      else (E0, E0, false, (10, -1, ()), ())
    else (E0, E0, false, (0, 0, ()), ())
  else (E0, E0, false, chF p q, ())
theorem Commute_eq (p q : Patch) : commute_Commute_18 (p, q, ()) = some (comF p q) := by
  obtain ⟨l, ⟨⟩⟩ := p
  obtain ⟨m, ⟨⟩⟩ := q
  unfold commute_Commute_18 comF
  have e1 := f0 (chF (l, ()) (m, ()))
  simp only [check_eq, Option.bind_some]
  by_cases hc : chF (l, ()) (m, ()) = (0, 0, ())
  · obtain ⟨hp, hq⟩ := chF_zero hc
    have bp := pF_bd hp
    have bq := pF_bd hq
    have hn := newsF_len l 0
    have hind : commute_independent_36 (newsF l 0, oldsF m, ()) = some (inF (newsF l 0) (oldsF m), ()) := independent_eq _ _ (by rw [hn]; have := bp.1; simp at this; omega) (by simp [oldsF]; have := bq.1; simp at this; omega)
    have hsh : commute_shifted_40 ((m, ()), (l, ()), newsF l 0, -1, ()) = some ((shiftL m l (newsF l 0) (-1), ()), ()) := shifted_eq (m, ()) (l, ()) _ _ bq bp hn (.inr rfl)
    simp only [hc, news_eq (l, ()) bp, olds_eq (m, ()) bq, hind, hsh, Fit_eq, Option.bind_some, BEq.rfl, Bool.and_self, Bool.not_true, Bool.false_eq_true, if_false, if_true]
    cases hi : inF (newsF l 0) (oldsF m) with
    | false => simp
    | true =>
      simp only [Bool.not_true, Bool.false_eq_true, if_false, if_true]
      by_cases ha : pF (shiftL m l (newsF l 0) (-1), ()) = (0, 0, ())
      · have ba := pF_bd ha
        have hsh2 : commute_shifted_40 ((l, ()), (shiftL m l (newsF l 0) (-1), ()), oldsF (shiftL m l (newsF l 0) (-1)), 1, ()) = some ((shiftL l (shiftL m l (newsF l 0) (-1)) (oldsF (shiftL m l (newsF l 0) (-1))) 1, ()), ()) := shifted_eq (l, ()) (shiftL m l (newsF l 0) (-1), ()) _ _ bp ba (by simp [oldsF]) (.inl rfl)
        simp only [ha, if_true, olds_eq _ ba, hsh2, Fit_eq, Option.bind_some, BEq.rfl, Bool.and_self, Bool.not_true, Bool.false_eq_true, if_false]
        by_cases hb : pF (shiftL l (shiftL m l (newsF l 0) (-1)) (oldsF (shiftL m l (newsF l 0) (-1))) 1, ()) = (0, 0, ())
        · simp [hb]
        · simp [hb]
      · simp [ha]
  · have : (decide (chF (l, ()) (m, ()) = (0, 0, ()))) = false := decide_eq_false hc
    rw [this] at e1
    generalize chF (l, ()) (m, ()) = f at e1 hc
    obtain ⟨c, j, ⟨⟩⟩ := f
    simp only at e1
    simp only [e1, hc, Bool.not_false, if_true, if_false]
end Go.Proofs.Ytfepfapfogpfkaa.F
end
section
/- What the functions compute, said shortly: moving. -/
namespace Go.Proofs.Ytfepfapfogpfkaa.F
open Go Go.Proofs.Ytfepfapfogpfkaa.V

/-- The patches i and i + 1 exchanged, if they can be. -/
def swF (l : List Patch) (i : Nat) : Bool × Fault × List Patch × Unit :=
  let r := comF (l.getD i E0) (l.getD (i + 1) E0)
  (r.2.2.1, r.2.2.2.1, (if r.2.2.1 = true then (l.set i r.1).set (i + 1) r.2.1 else l), ())
theorem swF_len {l : List Patch} {i : Nat} : (swF l i).2.2.1.length = l.length := by
  unfold swF
  simp only []
  split <;> simp
theorem swap_eq (l : List Patch) (i : Nat) (hi : i + 1 < l.length) (hl : l.length ≤ 1000000) : stack_swap_26 (l, (i : Int), ()) = some (swF l i) := by
  have g1 : l[i]? = some (l.getD i E0) := by rw [List.getD_eq_getElem?_getD, List.getElem?_eq_getElem (by omega)]; rfl
  have g2 : l[i + 1]? = some (l.getD (i + 1) E0) := by rw [List.getD_eq_getElem?_getD, List.getElem?_eq_getElem (by omega)]; rfl
  unfold stack_swap_26 swF
  generalize l.getD i E0 = p at g1
  generalize l.getD (i + 1) E0 = q at g2
  obtain ⟨hp, ⟨⟩⟩ := p
  obtain ⟨hq, ⟨⟩⟩ := q
  have c1 : 0 ≤ (i : Int) ∧ (i : Int) < (l.length : Int) := by omega
  have c2 : 0 ≤ ((i + 1 : Nat) : Int) ∧ ((i + 1 : Nat) : Int) < (l.length : Int) := by omega
  have hw : IntKind.wrap .i64 ((i : Int) + 1) = ((i + 1 : Nat) : Int) := by rw [wrap_i64 (by omega) (by omega)]; rfl
  simp only [hw, c1, c2, and_self, if_true, atC_val g1, atC_val g2, Commute_eq, Option.bind_some, Int.toNat_natCast]
  obtain ⟨a, b, ok, f, ⟨⟩⟩ := comF (hp, ()) (hq, ())
  obtain ⟨a, ⟨⟩⟩ := a
  obtain ⟨b, ⟨⟩⟩ := b
  obtain ⟨c, j, ⟨⟩⟩ := f
  cases ok with
  | false => simp
  | true =>
    have g3 : (l.set i (a, ()))[i + 1]? = some (hq, ()) := by rw [List.getElem?_set_ne (by omega)]; exact g2
    have c3 : 0 ≤ ((i + 1 : Nat) : Int) ∧ ((i + 1 : Nat) : Int) < ((l.set i (a, ())).length : Int) := by rw [List.length_set]; exact c2
    simp only [if_true, c3, and_self, atC_val g3, Option.bind_some, List.length_set]
    rw [if_pos ⟨trivial, c2.2⟩]
    simp

/-- Step by step from one place to another. -/
def mvF : Nat → Nat → Nat → List Patch → List Patch × Bool × Fault × Unit
  | 0, _, _, l => (l, true, (0, 0, ()), ())
  | n + 1, k, t, l => if k = t then (l, true, (0, 0, ()), ()) else
    let i := if t < k then k - 1 else k
    let r := swF l i
    if r.1 = true then mvF n (if t < k then k - 1 else k + 1) t r.2.2.1 else ([], false, faultF r.2.1, ())
theorem mvF_self {k : Nat} {l : List Patch} : ∀ n, mvF n k k l = (l, true, (0, 0, ()), ())
  | 0 => rfl
  | n + 1 => by simp [mvF]
theorem mvF_dn {n k t : Nat} {l : List Patch} (h1 : ¬ k = t) (h2 : t < k) : mvF (n + 1) k t l = if (swF l (k - 1)).1 = true then mvF n (k - 1) t (swF l (k - 1)).2.2.1 else ([], false, faultF (swF l (k - 1)).2.1, ()) := by
  simp only [mvF, if_neg h1, if_pos h2]
theorem mvF_up {n k t : Nat} {l : List Patch} (h1 : ¬ k = t) (h2 : ¬ t < k) : mvF (n + 1) k t l = if (swF l k).1 = true then mvF n (k + 1) t (swF l k).2.2.1 else ([], false, faultF (swF l k).2.1, ()) := by
  simp only [mvF, if_neg h1, if_neg h2]
def Dst (k t : Nat) : Nat := if t < k then k - t else t - k
theorem hfrom_code : ∀ {l : List Hunk} {k i : Int}, (hfrom l k i).1 = 0 → hfrom l k i = (0, 0, ())
  | [], _, _, _ => rfl
  | h :: r, k, i, e => by
    simp only [hfrom] at e ⊢
    split at e
    · rename_i hne; exact absurd e hne
    · rename_i hne; rw [if_neg hne]; exact hfrom_code e
theorem pF_code {p : Patch} (e : (pF p).1 = 0) : pF p = (0, 0, ()) := by
  unfold pF at e ⊢
  split at e
  · cases e
  · rename_i h; rw [if_neg h]; exact hfrom_code e
theorem sfrom_bd : ∀ {l : List Patch} {i : Int}, sfrom l i = (0, 0, ()) → ∀ p ∈ l, pF p = (0, 0, ())
  | [], _, _, p, h => by cases h
  | q :: l, i, e, p, h => by
    simp only [sfrom] at e
    split at e
    · rename_i hq
      rcases List.mem_cons.1 h with rfl | h
      · exact hq
      · exact sfrom_bd e p h
    · rename_i hq
      exfalso
      have hc : (pF q).1 = 0 := by injection e
      exact hq (pF_code hc)
theorem sF_bd {l : List Patch} (e : sF l = (0, 0, ())) : l.length ≤ 12 ∧ ∀ p ∈ l, pF p = (0, 0, ()) := by
  unfold sF at e
  split at e
  · cases e
  · exact ⟨by omega, sfrom_bd e⟩
theorem posF_zero {n i k : Int} (e : posF n i k = (0, 0, ())) : 0 ≤ i ∧ i < n := by
  unfold posF at e
  split at e
  · cases e
  · omega
theorem Dst_zero {k t : Nat} (h : Dst k t = 0) : k = t := by unfold Dst at h; split at h <;> omega
def moveF (l : List Patch) (k t : Int) : List Patch × Bool × Fault × Unit :=
  if sF l = (0, 0, ()) then
    if posF l.length k (-2) = (0, 0, ()) then
      if posF l.length t (-3) = (0, 0, ()) then mvF (Dst k.toNat t.toNat) k.toNat t.toNat l else ([], false, posF l.length t (-3), ())
    else ([], false, posF l.length k (-2), ())
  else ([], false, sF l, ())
theorem Move_eq (l : List Patch) (k t : Int) : stack_Move_10 (l, k, t, ()) = some (moveF l k t) := by
  unfold stack_Move_10 moveF
  have es := f0 (sF l)
  have ek := f0 (posF l.length k (-2))
  have et := f0 (posF l.length t (-3))
  simp only [stack_Validate_eq, position_eq, Option.bind_some]
  by_cases h1 : sF l = (0, 0, ())
  · obtain ⟨hl, hps⟩ := sF_bd h1
    have hcl : stack_clone_25 (l, ()) = some (l, ()) := clone_eq l (by omega) fun p hp => bd_ok (pF_bd (hps p hp))
    simp only [h1, BEq.rfl, Bool.and_self, if_true]
    by_cases h2 : posF l.length k (-2) = (0, 0, ())
    · simp only [h2, BEq.rfl, Bool.and_self, if_true]
      by_cases h3 : posF l.length t (-3) = (0, 0, ())
      · simp only [h3, BEq.rfl, Bool.and_self, if_true, Bool.not_true, Bool.false_eq_true, if_false, hcl, Option.bind_some]
        obtain ⟨k0, k1⟩ := posF_zero h2
        obtain ⟨t0, t1⟩ := posF_zero h3
        obtain ⟨kn, rfl⟩ := Int.eq_ofNat_of_zero_le k0
        obtain ⟨tn, rfl⟩ := Int.eq_ofNat_of_zero_le t0
        simp only [Int.toNat_natCast]
        refine (loop_val (fun s => ∃ i : Nat, s.1 = (i : Int) ∧ i < l.length ∧ s.2.1.length = l.length) (fun s => Dst s.1.toNat tn) (fun s => mvF (Dst s.1.toNat tn) s.1.toNat tn s.2.1) ?_ (s := ((kn : Int), l, ())) ⟨kn, rfl, by omega, rfl⟩)
        rintro ⟨a1, m, ⟨⟩⟩ ⟨i, g1, g2, g3⟩
        simp only at g1 g3
        subst g1
        by_cases he : i = tn
        · right
          subst he
          simp only [Int.toNat_natCast, mvF_self]
          simp
        · have he' : ((i : Int) != (tn : Int)) = true := by simp; omega
          have hw : IntKind.wrap .i64 ((i : Int) + 1) = ((i + 1 : Nat) : Int) := by rw [wrap_i64 (by omega) (by omega)]; rfl
          simp only [he', if_true, Int.toNat_natCast, hw]
          by_cases hd : tn < i
          · have hd' : ((tn : Int) < (i : Int)) := by omega
            have hw' : IntKind.wrap .i64 ((i : Int) - 1) = ((i - 1 : Nat) : Int) := by rw [wrap_i64 (by omega) (by omega)]; omega
            have hsw := swap_eq m (i - 1) (by omega) (by omega)
            have hD : Dst i tn = Dst (i - 1) tn + 1 := by unfold Dst; rw [if_pos hd]; split <;> omega
            simp only [hd', decide_true, if_true, hw', hsw, Option.bind_some]
            rw [hD, mvF_dn he hd]
            have hlen := swF_len (l := m) (i := i - 1)
            generalize swF m (i - 1) = r at hlen
            obtain ⟨ok, f, m', ⟨⟩⟩ := r
            obtain ⟨c, j, ⟨⟩⟩ := f
            cases ok with
            | true =>
              left
              have hlen : m'.length = m.length := hlen
              exact ⟨(((i - 1 : Nat) : Int), m', ()), rfl, ⟨i - 1, rfl, by omega, by show m'.length = l.length; omega⟩, by simp only [Int.toNat_natCast, if_true], by simp only [Int.toNat_natCast]; omega⟩
            | false => right; simp [fault_eq]
          · have hd' : ¬ ((tn : Int) < (i : Int)) := by omega
            have hsw := swap_eq m i (by omega) (by omega)
            have hD : Dst i tn = Dst (i + 1) tn + 1 := by unfold Dst; rw [if_neg hd]; split <;> omega
            simp only [hd', decide_false, Bool.false_eq_true, if_false, hsw, Option.bind_some]
            rw [hD, mvF_up he hd]
            have hlen := swF_len (l := m) (i := i)
            generalize swF m i = r at hlen
            obtain ⟨ok, f, m', ⟨⟩⟩ := r
            obtain ⟨c, j, ⟨⟩⟩ := f
            cases ok with
            | true =>
              left
              have hlen : m'.length = m.length := hlen
              exact ⟨(((i + 1 : Nat) : Int), m', ()), rfl, ⟨i + 1, rfl, by omega, by show m'.length = l.length; omega⟩, by simp only [Int.toNat_natCast, if_true], by simp only [Int.toNat_natCast]; omega⟩
            | false => right; simp [fault_eq]
      · rw [decide_eq_false h3] at et
        generalize posF l.length t (-3) = f at et h3
        obtain ⟨c, j, ⟨⟩⟩ := f
        simp only at et
        simp only [et, h3, Bool.not_false, if_true, if_false]
    · rw [decide_eq_false h2] at ek
      generalize posF l.length k (-2) = f at ek h2
      obtain ⟨c, j, ⟨⟩⟩ := f
      simp only at ek
      simp only [ek, h2, Bool.not_false, if_true, if_false, Bool.false_eq_true]
  · rw [decide_eq_false h1] at es
    generalize sF l = f at es h1
    obtain ⟨c, j, ⟨⟩⟩ := f
    simp only at es
    simp only [es, h1, Bool.not_false, if_true, if_false, Bool.false_eq_true]
end Go.Proofs.Ytfepfapfogpfkaa.F
end
