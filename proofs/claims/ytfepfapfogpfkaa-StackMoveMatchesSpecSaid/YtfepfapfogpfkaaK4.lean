/- Texts of ours, put together: GD, GP0, GP1, GP2, GP3, GD2, GP4. -/
import Derived.Test.YtfepfapfogpfkaaK3
import Derived.Test.YtfepfapfogpfkaaShelf
section
/- What the functions compute, as plain Lean functions: printed by a program of ours. -/
namespace Go.Proofs.Ytfepfapfogpfkaa.F
open Go Go.Proofs.Ytfepfapfogpfkaa.V
set_option maxRecDepth 100000
set_option linter.unusedVariables false

noncomputable def strings_ContainsRune_68 (a : ByteArray × Int × Unit) : Option (Bool × Unit) := if 0 ≤ a.2.1 ∧ a.2.1 < 128 then some (decide (0 ≤ Go.Lib.indexByte a.1.data.toList a.2.1.toNat.toUInt8), ()) else none
/- unicode/utf8.ValidRune -/
noncomputable def utf8_ValidRune_77 (a : (Int) × Unit) : Option ((Bool) × Unit) :=
  let x0 := a.1
  let j0 : (Bool) × Unit → _ := fun s0 =>
    let x1 := s0.1
    if x1 = true then
     some (true, ())
    else
     let j0 : (Bool) × Unit → _ := fun s0 =>
       let x2 := s0.1
       if x2 = true then
        some (true, ())
       else
        some (false, ())
     let x2 : Bool := decide ((57343 : Int) < x0)
     if x2 = true then
      let x3 : Bool := decide ((x0 : Int) ≤ 1114111)
      j0 (x3, ())
     else
      j0 (false, ())
  let x1 : Bool := decide ((0 : Int) ≤ x0)
  if x1 = true then
   let x2 : Bool := decide ((x0 : Int) < 55296)
   j0 (x2, ())
  else
   j0 (false, ())

/- internal/bytealg.Cutover -/
noncomputable def bytealg_Cutover_78 (a : (Int) × Unit) : Option ((Int) × Unit) :=
  let x0 := a.1
  let x1 : Int := IntKind.wrap .i64 (x0 + 16)
  if (8 : Int) ≠ 0 then
   let x2 : Int := IntKind.wrap .i64 (Int.tdiv x1 8)
   some (x2, ())
  else none

/- changeforge/lines.Validate -/
noncomputable def lines_Validate_52 (a : (List (ByteArray)) × Unit) : Option (((Int) × (Int) × Unit) × Unit) :=
  let x0 := a.1
  let x1 : Int := (List.length x0 : Int)
  let x2 : Bool := decide ((x1 : Int) > 120)
  if x2 = true then
   let x3 : (Int) × (Int) × Unit := (2, (-1), ())
   some (x3, ())
  else
   let x3 : Int := (List.length x0 : Int)
   let j0 : Unit → _ := fun s0 =>
     let x4 : (Int) × (Int) × Unit := (0, 0, ())
     some (x4, ())
   loopC (fun (s1 : (Int) × Unit) =>
     let x4 := s1.1
     let x5 : Bool := decide ((x4 : Int) < x3)
     if x5 = true then
      atC x0 x4 fun y6 =>
       let x6 : ByteArray := y6
       let x7 : ByteArray := x6
       let x8 : Int := (ByteArray.size x7 : Int)
       let x9 : Bool := decide ((x8 : Int) > 80)
       if x9 = true then
        let x10 : Int := x4
        let x11 : (Int) × (Int) × Unit := (2, x10, ())
        some (.inr (x11, ()))
       else
        Option.bind (strings_ContainsRune_68 (x7, 10, ())) fun r10 =>
         let x10 := r10.1
         if x10 = true then
          let x11 : Int := x4
          let x12 : (Int) × (Int) × Unit := (5, x11, ())
          some (.inr (x12, ()))
         else
          let x11 : Int := IntKind.wrap .i64 (x4 + 1)
          some (.inl (x11, ()))
     else
      Option.map .inr (j0 (())))
     (0, ())

/- changeforge/lines.Code -/
noncomputable def lines_Code_33 (a : (List (ByteArray)) × Unit) : Option ((Int) × Unit) :=
  let x0 := a.1
  Option.bind (lines_Validate_52 (x0, ())) fun r1 =>
   let x1 := r1.1
   let x2 : Int := x1.1
   some (x2, ())

/- changeforge/textpatch.End -/
noncomputable def textpatch_End_42 (a : ((Int) × (List (ByteArray)) × (List (ByteArray)) × Unit) × Unit) : Option ((Int) × Unit) :=
  let x0 := a.1
  let x1 : Int := x0.1
  let x2 : List (ByteArray) := x0.2.1
  let x3 : List (ByteArray) := x0.2.2.1
  let x4 : Int := (List.length x2 : Int)
  let x5 : Int := IntKind.wrap .i64 (x1 + x4)
  some (x5, ())

/- changeforge/textpatch.hunkCode -/
noncomputable def textpatch_hunkCode_55 (a : ((Int) × (List (ByteArray)) × (List (ByteArray)) × Unit) × (Int) × Unit) : Option ((Int) × Unit) :=
  let x0 := a.1
  let x1 := a.2.1
  let x2 : Int := x0.1
  let x3 : List (ByteArray) := x0.2.1
  let x4 : List (ByteArray) := x0.2.2.1
  let j0 : (Bool) × Unit → _ := fun s0 =>
    let x5 := s0.1
    if x5 = true then
     some (3, ())
    else
     Option.bind (lines_Code_33 (x3, ())) fun r6 =>
      let x6 := r6.1
      let x7 : Bool := ((x6 : Int) != 0)
      if x7 = true then
       Option.bind (lines_Code_33 (x3, ())) fun r8 =>
        let x8 := r8.1
        some (x8, ())
      else
       Option.bind (lines_Code_33 (x4, ())) fun r8 =>
        let x8 := r8.1
        let x9 : Bool := ((x8 : Int) != 0)
        if x9 = true then
         Option.bind (lines_Code_33 (x4, ())) fun r10 =>
          let x10 := r10.1
          some (x10, ())
        else
         let j0 : (Bool) × Unit → _ := fun s0 =>
           let x10 := s0.1
           if x10 = true then
            some (5, ())
           else
            let x11 : (Int) × (List (ByteArray)) × (List (ByteArray)) × Unit := (x2, x3, x4, ())
            Option.bind (textpatch_End_42 (x11, ())) fun r12 =>
             let x12 := r12.1
             let x13 : Bool := decide ((x12 : Int) > 120)
             if x13 = true then
              some (3, ())
             else
              some (0, ())
         let x10 : Int := (List.length x3 : Int)
         let x11 : Bool := ((x10 : Int) == 0)
         if x11 = true then
          let x12 : Int := (List.length x4 : Int)
          let x13 : Bool := ((x12 : Int) == 0)
          if x13 = true then
           j0 (true, ())
          else
           let x14 : Bool := decide ((x2 : Int) < x1)
           j0 (x14, ())
         else
          let x12 : Bool := decide ((x2 : Int) < x1)
          j0 (x12, ())
  let x5 : Bool := decide ((x2 : Int) < 0)
  if x5 = true then
   j0 (true, ())
  else
   let x6 : Bool := decide ((x2 : Int) > 120)
   j0 (x6, ())

/- changeforge/textpatch.Validate -/
noncomputable def textpatch_Validate_41 (a : ((List ((Int) × (List (ByteArray)) × (List (ByteArray)) × Unit)) × Unit) × Unit) : Option (((Int) × (Int) × Unit) × Unit) :=
  let x0 := a.1
  let x1 : List ((Int) × (List (ByteArray)) × (List (ByteArray)) × Unit) := x0.1
  let x2 : Int := (List.length x1 : Int)
  let x3 : Bool := decide ((x2 : Int) > 130)
  if x3 = true then
   let x4 : (Int) × (Int) × Unit := (2, (-1), ())
   some (x4, ())
  else
   let x4 : Int := (List.length x1 : Int)
   let j0 : Unit → _ := fun s0 =>
     let x5 : (Int) × (Int) × Unit := (0, 0, ())
     some (x5, ())
   loopC (fun (s1 : (Int) × (Int) × Unit) =>
     let x5 := s1.1
     let x6 := s1.2.1
     let x7 : Bool := decide ((x6 : Int) < x4)
     if x7 = true then
      atC x1 x6 fun y8 =>
       let x8 : (Int) × (List (ByteArray)) × (List (ByteArray)) × Unit := y8
       let x9 : (Int) × (List (ByteArray)) × (List (ByteArray)) × Unit := (x8.1, x8.2.1, x8.2.2.1, ())
       let x10 : Int := x9.1
       let x11 : List (ByteArray) := x9.2.1
       let x12 : List (ByteArray) := x9.2.2.1
       let x13 : (Int) × (List (ByteArray)) × (List (ByteArray)) × Unit := (x10, x11, x12, ())
       Option.bind (textpatch_hunkCode_55 (x13, x5, ())) fun r14 =>
        let x14 := r14.1
        let x15 : Bool := ((x14 : Int) != 0)
        if x15 = true then
         let x16 : Int := x14
         let x17 : Int := x6
         let x18 : (Int) × (Int) × Unit := (x16, x17, ())
         some (.inr (x18, ()))
        else
         let x16 : (Int) × (List (ByteArray)) × (List (ByteArray)) × Unit := (x10, x11, x12, ())
         Option.bind (textpatch_End_42 (x16, ())) fun r17 =>
          let x17 := r17.1
          let x18 : Int := IntKind.wrap .i64 (x17 + 1)
          let x19 : Int := IntKind.wrap .i64 (x6 + 1)
          some (.inl (x18, x19, ()))
     else
      Option.map .inr (j0 (())))
     (0, 0, ())

/- changeforge/stack.Validate -/
noncomputable def stack_Validate_23 (a : (List ((List ((Int) × (List (ByteArray)) × (List (ByteArray)) × Unit)) × Unit)) × Unit) : Option (((Int) × (Int) × Unit) × Unit) :=
  let x0 := a.1
  let x1 : Int := (List.length x0 : Int)
  let x2 : Bool := decide ((x1 : Int) > 12)
  if x2 = true then
   let x3 : (Int) × (Int) × Unit := (2, (-1), ())
   some (x3, ())
  else
   let x3 : Int := (List.length x0 : Int)
   let j0 : Unit → _ := fun s0 =>
     let x4 : (Int) × (Int) × Unit := (0, 0, ())
     some (x4, ())
   loopC (fun (s1 : (Int) × Unit) =>
     let x4 := s1.1
     let x5 : Bool := decide ((x4 : Int) < x3)
     if x5 = true then
      atC x0 x4 fun y6 =>
       let x6 : (List ((Int) × (List (ByteArray)) × (List (ByteArray)) × Unit)) × Unit := y6
       let x7 : (List ((Int) × (List (ByteArray)) × (List (ByteArray)) × Unit)) × Unit := (x6.1, ())
       let x8 : List ((Int) × (List (ByteArray)) × (List (ByteArray)) × Unit) := x7.1
       let x9 : (List ((Int) × (List (ByteArray)) × (List (ByteArray)) × Unit)) × Unit := (x8, ())
       Option.bind (textpatch_Validate_41 (x9, ())) fun r10 =>
        let x10 := r10.1
        let x11 : Int := x10.1
        let x12 : Int := x10.2.1
        let x13 : (Int) × (Int) × Unit := (x11, x12, ())
        let x14 : (Int) × (Int) × Unit := (0, 0, ())
        let x15 : Bool := (!((x13.1 : Int) == x14.1 && ((x13.2.1 : Int) == x14.2.1 && true)))
        if x15 = true then
         let x16 : Int := x11
         let x17 : Int := x4
         let x18 : (Int) × (Int) × Unit := (x16, x17, ())
         some (.inr (x18, ()))
        else
         let x16 : Int := IntKind.wrap .i64 (x4 + 1)
         some (.inl (x16, ()))
     else
      Option.map .inr (j0 (())))
     (0, ())

/- changeforge/stack.position -/
noncomputable def stack_position_24 (a : (List ((List ((Int) × (List (ByteArray)) × (List (ByteArray)) × Unit)) × Unit)) × (Int) × (Int) × Unit) : Option (((Int) × (Int) × Unit) × Unit) :=
  let x0 := a.1
  let x1 := a.2.1
  let x2 := a.2.2.1
  let j0 : (Bool) × Unit → _ := fun s0 =>
    let x3 := s0.1
    if x3 = true then
     let x4 : Int := x2
     let x5 : (Int) × (Int) × Unit := (3, x4, ())
     some (x5, ())
    else
     let x4 : (Int) × (Int) × Unit := (0, 0, ())
     some (x4, ())
  let x3 : Bool := decide ((x1 : Int) < 0)
  if x3 = true then
   j0 (true, ())
  else
   let x4 : Int := (List.length x0 : Int)
   let x5 : Bool := decide ((x1 : Int) ≥ x4)
   j0 (x5, ())

/- slices.Clone[[]string,string] -/
noncomputable def slices_Clone___string_string__34 (a : (List (ByteArray)) × Unit) : Option ((List (ByteArray)) × Unit) :=
  let x0 := a.1
  nilC x0 fun x1 =>
   if x1 = true then
    some (([] : List (ByteArray)), ())
   else
    let x2 : List (ByteArray) := []
    if (List.length x2 + List.length x0) * 16 ≤ 140737488355328 ∧ List.length x2 + List.length x0 ≤ maxLen then
     let x3 : List (ByteArray) := x2 ++ x0
     some (x3, ())
    else none

/- changeforge/textpatch.Moved -/
noncomputable def textpatch_Moved_49 (a : ((Int) × (List (ByteArray)) × (List (ByteArray)) × Unit) × (Int) × Unit) : Option (((Int) × (List (ByteArray)) × (List (ByteArray)) × Unit) × Unit) :=
  let x0 := a.1
  let x1 := a.2.1
  let x2 : Int := x0.1
  let x3 : List (ByteArray) := x0.2.1
  let x4 : List (ByteArray) := x0.2.2.1
  Option.bind (slices_Clone___string_string__34 (x3, ())) fun r5 =>
   let x5 := r5.1
   Option.bind (slices_Clone___string_string__34 (x4, ())) fun r6 =>
    let x6 := r6.1
    let x7 : Int := x1
    let x8 : List (ByteArray) := x5
    let x9 : List (ByteArray) := x6
    let x10 : (Int) × (List (ByteArray)) × (List (ByteArray)) × Unit := (x7, x8, x9, ())
    some (x10, ())

/- changeforge/stack.clone -/
noncomputable def stack_clone_25 (a : (List ((List ((Int) × (List (ByteArray)) × (List (ByteArray)) × Unit)) × Unit)) × Unit) : Option ((List ((List ((Int) × (List (ByteArray)) × (List (ByteArray)) × Unit)) × Unit)) × Unit) :=
  let x0 := a.1
  let x1 : Int := (List.length x0 : Int)
  let j0 : (List ((List ((Int) × (List (ByteArray)) × (List (ByteArray)) × Unit)) × Unit)) × Unit → _ := fun s0 =>
    let x2 := s0.1
    some (x2, ())
  loopC (fun (s1 : (List ((List ((Int) × (List (ByteArray)) × (List (ByteArray)) × Unit)) × Unit)) × (Int) × Unit) =>
    let x2 := s1.1
    let x3 := s1.2.1
    let x4 : Bool := decide ((x3 : Int) < x1)
    if x4 = true then
     atC x0 x3 fun y5 =>
      let x5 : (List ((Int) × (List (ByteArray)) × (List (ByteArray)) × Unit)) × Unit := y5
      let x6 : (List ((Int) × (List (ByteArray)) × (List (ByteArray)) × Unit)) × Unit := (x5.1, ())
      let x7 : List ((Int) × (List (ByteArray)) × (List (ByteArray)) × Unit) := x6.1
      let x8 : Int := (List.length x7 : Int)
      let j2 : (List ((List ((Int) × (List (ByteArray)) × (List (ByteArray)) × Unit)) × Unit)) × (Int) × (List ((Int) × (List (ByteArray)) × (List (ByteArray)) × Unit)) × Unit → _ := fun s2 =>
        let x9 := s2.1
        let x10 := s2.2.1
        let x11 := s2.2.2.1
        let x12 : (List ((Int) × (List (ByteArray)) × (List (ByteArray)) × Unit)) × Unit := (x11, ())
        let x13 : List ((List ((Int) × (List (ByteArray)) × (List (ByteArray)) × Unit)) × Unit) := [x12]
        if (List.length x9 + List.length x13) * 24 ≤ 140737488355328 ∧ List.length x9 + List.length x13 ≤ maxLen then
         let x14 : List ((List ((Int) × (List (ByteArray)) × (List (ByteArray)) × Unit)) × Unit) := x9 ++ x13
         let x15 : Int := IntKind.wrap .i64 (x10 + 1)
         some (.inl (x14, x15, ()))
        else none
      loopC (fun (s3 : (List ((List ((Int) × (List (ByteArray)) × (List (ByteArray)) × Unit)) × Unit)) × (Int) × (List ((Int) × (List (ByteArray)) × (List (ByteArray)) × Unit)) × (Int) × (Int) × (List ((Int) × (List (ByteArray)) × (List (ByteArray)) × Unit)) × Unit) =>
        let x9 := s3.1
        let x10 := s3.2.1
        let x11 := s3.2.2.1
        let x12 := s3.2.2.2.1
        let x13 := s3.2.2.2.2.1
        let x14 := s3.2.2.2.2.2.1
        let x15 : Bool := decide ((x13 : Int) < x12)
        if x15 = true then
         atC x11 x13 fun y16 =>
          let x16 : (Int) × (List (ByteArray)) × (List (ByteArray)) × Unit := y16
          let x17 : (Int) × (List (ByteArray)) × (List (ByteArray)) × Unit := (x16.1, x16.2.1, x16.2.2.1, ())
          let x18 : Int := x17.1
          let x19 : List (ByteArray) := x17.2.1
          let x20 : List (ByteArray) := x17.2.2.1
          let x21 : (Int) × (List (ByteArray)) × (List (ByteArray)) × Unit := (x18, x19, x20, ())
          Option.bind (textpatch_Moved_49 (x21, x18, ())) fun r22 =>
           let x22 := r22.1
           let x23 : List ((Int) × (List (ByteArray)) × (List (ByteArray)) × Unit) := [x22]
           if (List.length x14 + List.length x23) * 56 ≤ 140737488355328 ∧ List.length x14 + List.length x23 ≤ maxLen then
            let x24 : List ((Int) × (List (ByteArray)) × (List (ByteArray)) × Unit) := x14 ++ x23
            let x25 : Int := IntKind.wrap .i64 (x13 + 1)
            some (.inl (x9, x10, x11, x12, x25, x24, ()))
           else none
        else
         Option.map .inr (j2 (x9, x10, x14, ())))
        (x2, x3, x7, x8, 0, ([] : List ((Int) × (List (ByteArray)) × (List (ByteArray)) × Unit)), ())
    else
     Option.map .inr (j0 (x2, ())))
    (([] : List ((List ((Int) × (List (ByteArray)) × (List (ByteArray)) × Unit)) × Unit)), 0, ())

/- changeforge/commute.check -/
noncomputable def commute_check_35 (a : ((List ((Int) × (List (ByteArray)) × (List (ByteArray)) × Unit)) × Unit) × ((List ((Int) × (List (ByteArray)) × (List (ByteArray)) × Unit)) × Unit) × Unit) : Option (((Int) × (Int) × Unit) × Unit) :=
  let x0 := a.1
  let x1 := a.2.1
  let x2 : List ((Int) × (List (ByteArray)) × (List (ByteArray)) × Unit) := x0.1
  let x3 : List ((Int) × (List (ByteArray)) × (List (ByteArray)) × Unit) := x1.1
  let x4 : (List ((Int) × (List (ByteArray)) × (List (ByteArray)) × Unit)) × Unit := (x2, ())
  Option.bind (textpatch_Validate_41 (x4, ())) fun r5 =>
   let x5 := r5.1
   let x6 : Int := x5.1
   let x7 : Int := x5.2.1
   let x8 : (Int) × (Int) × Unit := (x6, x7, ())
   let x9 : (Int) × (Int) × Unit := (0, 0, ())
   let x10 : Bool := (!((x8.1 : Int) == x9.1 && ((x8.2.1 : Int) == x9.2.1 && true)))
   if x10 = true then
    let x11 : (Int) × (Int) × Unit := (x6, x7, ())
    some (x11, ())
   else
    let x11 : (List ((Int) × (List (ByteArray)) × (List (ByteArray)) × Unit)) × Unit := (x3, ())
    Option.bind (textpatch_Validate_41 (x11, ())) fun r12 =>
     let x12 := r12.1
     let x13 : Int := x12.1
     let x14 : Int := x12.2.1
     let x15 : (Int) × (Int) × Unit := (x13, x14, ())
     let x16 : (Int) × (Int) × Unit := (0, 0, ())
     let x17 : Bool := (!((x15.1 : Int) == x16.1 && ((x15.2.1 : Int) == x16.2.1 && true)))
     if x17 = true then
      let x18 : Int := x13
      let x19 : (Int) × (Int) × Unit := (x18, (-2), ())
      some (x19, ())
     else
      let x18 : (Int) × (Int) × Unit := (0, 0, ())
      some (x18, ())

/- changeforge/commute.news -/
noncomputable def commute_news_37 (a : ((List ((Int) × (List (ByteArray)) × (List (ByteArray)) × Unit)) × Unit) × Unit) : Option ((List ((Int) × (Int) × Unit)) × Unit) :=
  let x0 := a.1
  let x1 : List ((Int) × (List (ByteArray)) × (List (ByteArray)) × Unit) := x0.1
  let x2 : Int := (List.length x1 : Int)
  let j0 : (List ((Int) × (Int) × Unit)) × Unit → _ := fun s0 =>
    let x3 := s0.1
    some (x3, ())
  loopC (fun (s1 : (List ((Int) × (Int) × Unit)) × (Int) × (Int) × Unit) =>
    let x3 := s1.1
    let x4 := s1.2.1
    let x5 := s1.2.2.1
    let x6 : Bool := decide ((x5 : Int) < x2)
    if x6 = true then
     atC x1 x5 fun y7 =>
      let x7 : (Int) × (List (ByteArray)) × (List (ByteArray)) × Unit := y7
      let x8 : (Int) × (List (ByteArray)) × (List (ByteArray)) × Unit := (x7.1, x7.2.1, x7.2.2.1, ())
      let x9 : Int := x8.1
      let x10 : List (ByteArray) := x8.2.1
      let x11 : List (ByteArray) := x8.2.2.1
      let x12 : Int := IntKind.wrap .i64 (x9 + x4)
      let x13 : Int := IntKind.wrap .i64 (x9 + x4)
      let x14 : Int := (List.length x11 : Int)
      let x15 : Int := IntKind.wrap .i64 (x13 + x14)
      let x16 : Int := x12
      let x17 : Int := x15
      let x18 : (Int) × (Int) × Unit := (x16, x17, ())
      let x19 : List ((Int) × (Int) × Unit) := [x18]
      if (List.length x3 + List.length x19) * 16 ≤ 140737488355328 ∧ List.length x3 + List.length x19 ≤ maxLen then
       let x20 : List ((Int) × (Int) × Unit) := x3 ++ x19
       let x21 : Int := (List.length x11 : Int)
       let x22 : Int := (List.length x10 : Int)
       let x23 : Int := IntKind.wrap .i64 (x21 - x22)
       let x24 : Int := IntKind.wrap .i64 (x4 + x23)
       let x25 : Int := IntKind.wrap .i64 (x5 + 1)
       some (.inl (x20, x24, x25, ()))
      else none
    else
     Option.map .inr (j0 (x3, ())))
    (([] : List ((Int) × (Int) × Unit)), 0, 0, ())

/- changeforge/commute.olds -/
noncomputable def commute_olds_38 (a : ((List ((Int) × (List (ByteArray)) × (List (ByteArray)) × Unit)) × Unit) × Unit) : Option ((List ((Int) × (Int) × Unit)) × Unit) :=
  let x0 := a.1
  let x1 : List ((Int) × (List (ByteArray)) × (List (ByteArray)) × Unit) := x0.1
  let x2 : Int := (List.length x1 : Int)
  let j0 : (List ((Int) × (Int) × Unit)) × Unit → _ := fun s0 =>
    let x3 := s0.1
    some (x3, ())
  loopC (fun (s1 : (List ((Int) × (Int) × Unit)) × (Int) × Unit) =>
    let x3 := s1.1
    let x4 := s1.2.1
    let x5 : Bool := decide ((x4 : Int) < x2)
    if x5 = true then
     atC x1 x4 fun y6 =>
      let x6 : (Int) × (List (ByteArray)) × (List (ByteArray)) × Unit := y6
      let x7 : (Int) × (List (ByteArray)) × (List (ByteArray)) × Unit := (x6.1, x6.2.1, x6.2.2.1, ())
      let x8 : Int := x7.1
      let x9 : List (ByteArray) := x7.2.1
      let x10 : List (ByteArray) := x7.2.2.1
      let x11 : (Int) × (List (ByteArray)) × (List (ByteArray)) × Unit := (x8, x9, x10, ())
      Option.bind (textpatch_End_42 (x11, ())) fun r12 =>
       let x12 := r12.1
       let x13 : Int := x8
       let x14 : Int := x12
       let x15 : (Int) × (Int) × Unit := (x13, x14, ())
       let x16 : List ((Int) × (Int) × Unit) := [x15]
       if (List.length x3 + List.length x16) * 16 ≤ 140737488355328 ∧ List.length x3 + List.length x16 ≤ maxLen then
        let x17 : List ((Int) × (Int) × Unit) := x3 ++ x16
        let x18 : Int := IntKind.wrap .i64 (x4 + 1)
        some (.inl (x17, x18, ()))
       else none
    else
     Option.map .inr (j0 (x3, ())))
    (([] : List ((Int) × (Int) × Unit)), 0, ())

/- changeforge/commute.apart -/
noncomputable def commute_apart_53 (a : ((Int) × (Int) × Unit) × ((Int) × (Int) × Unit) × Unit) : Option ((Bool) × Unit) :=
  let x0 := a.1
  let x1 := a.2.1
  let x2 : Int := x0.1
  let x3 : Int := x0.2.1
  let x4 : Int := x1.1
  let x5 : Int := x1.2.1
  let j0 : (Bool) × Unit → _ := fun s0 =>
    let x6 := s0.1
    some (x6, ())
  let x6 : Bool := decide ((x3 : Int) < x4)
  if x6 = true then
   j0 (true, ())
  else
   let x7 : Bool := decide ((x5 : Int) < x2)
   j0 (x7, ())

/- changeforge/commute.independent -/
noncomputable def commute_independent_36 (a : (List ((Int) × (Int) × Unit)) × (List ((Int) × (Int) × Unit)) × Unit) : Option ((Bool) × Unit) :=
  let x0 := a.1
  let x1 := a.2.1
  let x2 : Int := (List.length x0 : Int)
  let j0 : Unit → _ := fun s0 =>
    some (true, ())
  loopC (fun (s1 : (Int) × Unit) =>
    let x3 := s1.1
    let x4 : Bool := decide ((x3 : Int) < x2)
    if x4 = true then
     let j2 : (Int) × Unit → _ := fun s2 =>
       let x5 := s2.1
       let x6 : Int := IntKind.wrap .i64 (x5 + 1)
       some (.inl (x6, ()))
     atC x0 x3 fun y5 =>
      let x5 : (Int) × (Int) × Unit := y5
      let x6 : (Int) × (Int) × Unit := (x5.1, x5.2.1, ())
      let x7 : Int := x6.1
      let x8 : Int := x6.2.1
      let x9 : Int := (List.length x1 : Int)
      let j3 : (Int) × Unit → _ := fun s3 =>
        let x10 := s3.1
        j2 (x10, ())
      loopC (fun (s4 : (Int) × (Int) × (Int) × (Int) × (Int) × Unit) =>
        let x10 := s4.1
        let x11 := s4.2.1
        let x12 := s4.2.2.1
        let x13 := s4.2.2.2.1
        let x14 := s4.2.2.2.2.1
        let x15 : Bool := decide ((x12 : Int) < x11)
        if x15 = true then
         atC x1 x12 fun y16 =>
          let x16 : (Int) × (Int) × Unit := y16
          let x17 : (Int) × (Int) × Unit := (x16.1, x16.2.1, ())
          let x18 : Int := x17.1
          let x19 : Int := x17.2.1
          let x20 : (Int) × (Int) × Unit := (x13, x14, ())
          let x21 : (Int) × (Int) × Unit := (x18, x19, ())
          Option.bind (commute_apart_53 (x20, x21, ())) fun r22 =>
           let x22 := r22.1
           let x23 : Bool := (!x22)
           if x23 = true then
            some (.inr (.inr (false, ())))
           else
            let x24 : Int := IntKind.wrap .i64 (x12 + 1)
            some (.inl (x10, x11, x24, x13, x14, ()))
        else
         Option.map .inr (j3 (x10, ())))
        (x3, x9, 0, x7, x8, ())
    else
     Option.map .inr (j0 (())))
    (0, ())

/- changeforge/commute.growth -/
noncomputable def commute_growth_54 (a : ((List ((Int) × (List (ByteArray)) × (List (ByteArray)) × Unit)) × Unit) × (List ((Int) × (Int) × Unit)) × (Int) × Unit) : Option ((Int) × Unit) :=
  let x0 := a.1
  let x1 := a.2.1
  let x2 := a.2.2.1
  let x3 : List ((Int) × (List (ByteArray)) × (List (ByteArray)) × Unit) := x0.1
  let x4 : Int := (List.length x3 : Int)
  let j0 : (Int) × Unit → _ := fun s0 =>
    let x5 := s0.1
    some (x5, ())
  loopC (fun (s1 : (Int) × (Int) × Unit) =>
    let x5 := s1.1
    let x6 := s1.2.1
    let x7 : Bool := decide ((x6 : Int) < x4)
    if x7 = true then
     let j2 : (Int) × (Int) × Unit → _ := fun s2 =>
       let x8 := s2.1
       let x9 := s2.2.1
       let x10 : Int := IntKind.wrap .i64 (x9 + 1)
       some (.inl (x8, x10, ()))
     atC x3 x6 fun y8 =>
      let x8 : (Int) × (List (ByteArray)) × (List (ByteArray)) × Unit := y8
      let x9 : (Int) × (List (ByteArray)) × (List (ByteArray)) × Unit := (x8.1, x8.2.1, x8.2.2.1, ())
      let x10 : Int := x9.1
      let x11 : List (ByteArray) := x9.2.1
      let x12 : List (ByteArray) := x9.2.2.1
      atC x1 x6 fun y13 =>
       let x13 : (Int) × (Int) × Unit := y13
       let x14 : Int := x13.2.1
       let x15 : Bool := decide ((x14 : Int) < x2)
       let j3 : (Int) × (Int) × Unit → _ := fun s3 =>
         let x16 := s3.1
         let x17 := s3.2.1
         j2 (x16, x17, ())
       if x15 = true then
        let x16 : Int := (List.length x12 : Int)
        let x17 : Int := (List.length x11 : Int)
        let x18 : Int := IntKind.wrap .i64 (x16 - x17)
        let x19 : Int := IntKind.wrap .i64 (x5 + x18)
        j3 (x19, x6, ())
       else
        j3 (x5, x6, ())
    else
     Option.map .inr (j0 (x5, ())))
    (0, 0, ())

/- changeforge/commute.shifted -/
noncomputable def commute_shifted_40 (a : ((List ((Int) × (List (ByteArray)) × (List (ByteArray)) × Unit)) × Unit) × ((List ((Int) × (List (ByteArray)) × (List (ByteArray)) × Unit)) × Unit) × (List ((Int) × (Int) × Unit)) × (Int) × Unit) : Option (((List ((Int) × (List (ByteArray)) × (List (ByteArray)) × Unit)) × Unit) × Unit) :=
  let x0 := a.1
  let x1 := a.2.1
  let x2 := a.2.2.1
  let x3 := a.2.2.2.1
  let x4 : List ((Int) × (List (ByteArray)) × (List (ByteArray)) × Unit) := x0.1
  let x5 : List ((Int) × (List (ByteArray)) × (List (ByteArray)) × Unit) := x1.1
  let x6 : Int := (List.length x4 : Int)
  let j0 : (List ((Int) × (List (ByteArray)) × (List (ByteArray)) × Unit)) × Unit → _ := fun s0 =>
    let x7 := s0.1
    let x8 : (List ((Int) × (List (ByteArray)) × (List (ByteArray)) × Unit)) × Unit := (x7, ())
    some (x8, ())
  loopC (fun (s1 : (Int) × (List ((Int) × (List (ByteArray)) × (List (ByteArray)) × Unit)) × Unit) =>
    let x7 := s1.1
    let x8 := s1.2.1
    let x9 : Bool := decide ((x7 : Int) < x6)
    if x9 = true then
     atC x4 x7 fun y10 =>
      let x10 : (Int) × (List (ByteArray)) × (List (ByteArray)) × Unit := y10
      let x11 : (Int) × (List (ByteArray)) × (List (ByteArray)) × Unit := (x10.1, x10.2.1, x10.2.2.1, ())
      let x12 : Int := x11.1
      let x13 : List (ByteArray) := x11.2.1
      let x14 : List (ByteArray) := x11.2.2.1
      let x15 : (List ((Int) × (List (ByteArray)) × (List (ByteArray)) × Unit)) × Unit := (x5, ())
      Option.bind (commute_growth_54 (x15, x2, x12, ())) fun r16 =>
       let x16 := r16.1
       let x17 : Int := IntKind.wrap .i64 (x3 * x16)
       let x18 : Int := IntKind.wrap .i64 (x12 + x17)
       let x19 : (Int) × (List (ByteArray)) × (List (ByteArray)) × Unit := (x12, x13, x14, ())
       Option.bind (textpatch_Moved_49 (x19, x18, ())) fun r20 =>
        let x20 := r20.1
        let x21 : List ((Int) × (List (ByteArray)) × (List (ByteArray)) × Unit) := [x20]
        if (List.length x8 + List.length x21) * 56 ≤ 140737488355328 ∧ List.length x8 + List.length x21 ≤ maxLen then
         let x22 : List ((Int) × (List (ByteArray)) × (List (ByteArray)) × Unit) := x8 ++ x21
         let x23 : Int := IntKind.wrap .i64 (x7 + 1)
         some (.inl (x23, x22, ()))
        else none
    else
     Option.map .inr (j0 (x8, ())))
    (0, ([] : List ((Int) × (List (ByteArray)) × (List (ByteArray)) × Unit)), ())

/- changeforge/textpatch.Fit -/
noncomputable def textpatch_Fit_39 (a : ((List ((Int) × (List (ByteArray)) × (List (ByteArray)) × Unit)) × Unit) × Unit) : Option (((List ((Int) × (List (ByteArray)) × (List (ByteArray)) × Unit)) × Unit) × ((Int) × (Int) × Unit) × Unit) :=
  let x0 := a.1
  let x1 : List ((Int) × (List (ByteArray)) × (List (ByteArray)) × Unit) := x0.1
  let x2 : (List ((Int) × (List (ByteArray)) × (List (ByteArray)) × Unit)) × Unit := (x1, ())
  Option.bind (textpatch_Validate_41 (x2, ())) fun r3 =>
   let x3 := r3.1
   let x4 : (Int) × (Int) × Unit := (0, 0, ())
   let x5 : Bool := (!((x3.1 : Int) == x4.1 && ((x3.2.1 : Int) == x4.2.1 && true)))
   if x5 = true then
    let x6 : (List ((Int) × (List (ByteArray)) × (List (ByteArray)) × Unit)) × Unit := (([] : List ((Int) × (List (ByteArray)) × (List (ByteArray)) × Unit)), ())
    let x7 : (Int) × (Int) × Unit := (10, (-1), ())
    some (x6, x7, ())
   else
    let x6 : (List ((Int) × (List (ByteArray)) × (List (ByteArray)) × Unit)) × Unit := (x1, ())
    let x7 : (Int) × (Int) × Unit := (0, 0, ())
    some (x6, x7, ())

/- changeforge/commute.Commute -/
noncomputable def commute_Commute_18 (a : ((List ((Int) × (List (ByteArray)) × (List (ByteArray)) × Unit)) × Unit) × ((List ((Int) × (List (ByteArray)) × (List (ByteArray)) × Unit)) × Unit) × Unit) : Option (((List ((Int) × (List (ByteArray)) × (List (ByteArray)) × Unit)) × Unit) × ((List ((Int) × (List (ByteArray)) × (List (ByteArray)) × Unit)) × Unit) × (Bool) × ((Int) × (Int) × Unit) × Unit) :=
  let x0 := a.1
  let x1 := a.2.1
  let x2 : List ((Int) × (List (ByteArray)) × (List (ByteArray)) × Unit) := x0.1
  let x3 : List ((Int) × (List (ByteArray)) × (List (ByteArray)) × Unit) := x1.1
  let x4 : (List ((Int) × (List (ByteArray)) × (List (ByteArray)) × Unit)) × Unit := (x2, ())
  let x5 : (List ((Int) × (List (ByteArray)) × (List (ByteArray)) × Unit)) × Unit := (x3, ())
  Option.bind (commute_check_35 (x4, x5, ())) fun r6 =>
   let x6 := r6.1
   let x7 : Int := x6.1
   let x8 : Int := x6.2.1
   let x9 : (Int) × (Int) × Unit := (x7, x8, ())
   let x10 : (Int) × (Int) × Unit := (0, 0, ())
   let x11 : Bool := (!((x9.1 : Int) == x10.1 && ((x9.2.1 : Int) == x10.2.1 && true)))
   if x11 = true then
    let x12 : (List ((Int) × (List (ByteArray)) × (List (ByteArray)) × Unit)) × Unit := (([] : List ((Int) × (List (ByteArray)) × (List (ByteArray)) × Unit)), ())
    let x13 : (List ((Int) × (List (ByteArray)) × (List (ByteArray)) × Unit)) × Unit := (([] : List ((Int) × (List (ByteArray)) × (List (ByteArray)) × Unit)), ())
    let x14 : (Int) × (Int) × Unit := (x7, x8, ())
    some (x12, x13, false, x14, ())
   else
    let x12 : (List ((Int) × (List (ByteArray)) × (List (ByteArray)) × Unit)) × Unit := (x2, ())
    Option.bind (commute_news_37 (x12, ())) fun r13 =>
     let x13 := r13.1
     let x14 : (List ((Int) × (List (ByteArray)) × (List (ByteArray)) × Unit)) × Unit := (x3, ())
     Option.bind (commute_olds_38 (x14, ())) fun r15 =>
      let x15 := r15.1
      Option.bind (commute_independent_36 (x13, x15, ())) fun r16 =>
       let x16 := r16.1
       let x17 : Bool := (!x16)
       if x17 = true then
        let x18 : (List ((Int) × (List (ByteArray)) × (List (ByteArray)) × Unit)) × Unit := (([] : List ((Int) × (List (ByteArray)) × (List (ByteArray)) × Unit)), ())
        let x19 : (List ((Int) × (List (ByteArray)) × (List (ByteArray)) × Unit)) × Unit := (([] : List ((Int) × (List (ByteArray)) × (List (ByteArray)) × Unit)), ())
        let x20 : (Int) × (Int) × Unit := (0, 0, ())
        some (x18, x19, false, x20, ())
       else
        let x18 : (List ((Int) × (List (ByteArray)) × (List (ByteArray)) × Unit)) × Unit := (x2, ())
        Option.bind (commute_news_37 (x18, ())) fun r19 =>
         let x19 := r19.1
         let x20 : (List ((Int) × (List (ByteArray)) × (List (ByteArray)) × Unit)) × Unit := (x3, ())
         let x21 : (List ((Int) × (List (ByteArray)) × (List (ByteArray)) × Unit)) × Unit := (x2, ())
         Option.bind (commute_shifted_40 (x20, x21, x19, (-1), ())) fun r22 =>
          let x22 := r22.1
          Option.bind (textpatch_Fit_39 (x22, ())) fun r23 =>
           let x23 := r23.1
           let x24 := r23.2.1
           let x25 : List ((Int) × (List (ByteArray)) × (List (ByteArray)) × Unit) := x23.1
           let x26 : Int := x24.1
           let x27 : Int := x24.2.1
           let x28 : (Int) × (Int) × Unit := (x26, x27, ())
           let x29 : (Int) × (Int) × Unit := (0, 0, ())
           let x30 : Bool := (!((x28.1 : Int) == x29.1 && ((x28.2.1 : Int) == x29.2.1 && true)))
           if x30 = true then
            let x31 : (List ((Int) × (List (ByteArray)) × (List (ByteArray)) × Unit)) × Unit := (([] : List ((Int) × (List (ByteArray)) × (List (ByteArray)) × Unit)), ())
            let x32 : (List ((Int) × (List (ByteArray)) × (List (ByteArray)) × Unit)) × Unit := (([] : List ((Int) × (List (ByteArray)) × (List (ByteArray)) × Unit)), ())
            let x33 : (Int) × (Int) × Unit := (x26, x27, ())
            some (x31, x32, false, x33, ())
           else
            let x31 : (List ((Int) × (List (ByteArray)) × (List (ByteArray)) × Unit)) × Unit := (x25, ())
            Option.bind (commute_olds_38 (x31, ())) fun r32 =>
             let x32 := r32.1
             let x33 : (List ((Int) × (List (ByteArray)) × (List (ByteArray)) × Unit)) × Unit := (x2, ())
             let x34 : (List ((Int) × (List (ByteArray)) × (List (ByteArray)) × Unit)) × Unit := (x25, ())
             Option.bind (commute_shifted_40 (x33, x34, x32, 1, ())) fun r35 =>
              let x35 := r35.1
              Option.bind (textpatch_Fit_39 (x35, ())) fun r36 =>
               let x36 := r36.1
               let x37 := r36.2.1
               let x38 : List ((Int) × (List (ByteArray)) × (List (ByteArray)) × Unit) := x36.1
               let x39 : Int := x37.1
               let x40 : Int := x37.2.1
               let x41 : (Int) × (Int) × Unit := (x39, x40, ())
               let x42 : (Int) × (Int) × Unit := (0, 0, ())
               let x43 : Bool := (!((x41.1 : Int) == x42.1 && ((x41.2.1 : Int) == x42.2.1 && true)))
               if x43 = true then
                let x44 : (List ((Int) × (List (ByteArray)) × (List (ByteArray)) × Unit)) × Unit := (([] : List ((Int) × (List (ByteArray)) × (List (ByteArray)) × Unit)), ())
                let x45 : (List ((Int) × (List (ByteArray)) × (List (ByteArray)) × Unit)) × Unit := (([] : List ((Int) × (List (ByteArray)) × (List (ByteArray)) × Unit)), ())
                let x46 : (Int) × (Int) × Unit := (x39, x40, ())
                some (x44, x45, false, x46, ())
               else
                let x44 : (List ((Int) × (List (ByteArray)) × (List (ByteArray)) × Unit)) × Unit := (x25, ())
                let x45 : (List ((Int) × (List (ByteArray)) × (List (ByteArray)) × Unit)) × Unit := (x38, ())
                let x46 : (Int) × (Int) × Unit := (0, 0, ())
                some (x44, x45, true, x46, ())

/- changeforge/stack.swap -/
noncomputable def stack_swap_26 (a : (List ((List ((Int) × (List (ByteArray)) × (List (ByteArray)) × Unit)) × Unit)) × (Int) × Unit) : Option ((Bool) × ((Int) × (Int) × Unit) × (List ((List ((Int) × (List (ByteArray)) × (List (ByteArray)) × Unit)) × Unit)) × Unit) :=
  let x0 := a.1
  let x1 := a.2.1
  Option.bind (
  if 0 ≤ (x1 : Int) ∧ x1 < ((List.length x0) : Int) then
   let x2 : Int := (x1 : Int)
   atC x0 x2 fun y3 =>
    let x3 : (List ((Int) × (List (ByteArray)) × (List (ByteArray)) × Unit)) × Unit := (y3.1, ())
    let x4 : Int := IntKind.wrap .i64 (x1 + 1)
    if 0 ≤ (x4 : Int) ∧ x4 < ((List.length x0) : Int) then
     let x5 : Int := (x4 : Int)
     atC x0 x5 fun y6 =>
      let x6 : (List ((Int) × (List (ByteArray)) × (List (ByteArray)) × Unit)) × Unit := (y6.1, ())
      Option.bind (commute_Commute_18 (x3, x6, ())) fun r7 =>
       let x7 := r7.1
       let x8 := r7.2.1
       let x9 := r7.2.2.1
       let x10 := r7.2.2.2.1
       let x11 : List ((Int) × (List (ByteArray)) × (List (ByteArray)) × Unit) := x7.1
       let x12 : List ((Int) × (List (ByteArray)) × (List (ByteArray)) × Unit) := x8.1
       let x13 : Int := x10.1
       let x14 : Int := x10.2.1
       let j0 : (List ((List ((Int) × (List (ByteArray)) × (List (ByteArray)) × Unit)) × Unit)) × Unit → _ := fun s0 =>
         let x15 := s0.1
         let x16 : (Int) × (Int) × Unit := (x13, x14, ())
         some (x9, x16, x15, ())
       if x9 = true then
        let x15 : Int := IntKind.wrap .i64 (x1 + 1)
        if 0 ≤ (x1 : Int) ∧ x1 < ((List.length x0) : Int) then
         let x16 : Int := (x1 : Int)
         let x17 : (List ((Int) × (List (ByteArray)) × (List (ByteArray)) × Unit)) × Unit := (x11, ())
         atC x0 x16 fun y18 =>
          let x18 : List ((List ((Int) × (List (ByteArray)) × (List (ByteArray)) × Unit)) × Unit) := List.set x0 (Int.toNat x16) (x17.1, y18.2)
          if 0 ≤ (x15 : Int) ∧ x15 < ((List.length x18) : Int) then
           let x19 : Int := (x15 : Int)
           let x20 : (List ((Int) × (List (ByteArray)) × (List (ByteArray)) × Unit)) × Unit := (x12, ())
           atC x18 x19 fun y21 =>
            let x21 : List ((List ((Int) × (List (ByteArray)) × (List (ByteArray)) × Unit)) × Unit) := List.set x18 (Int.toNat x19) (x20.1, y21.2)
            j0 (x21, ())
          else none
        else none
       else
        j0 (x0, ())
    else none
  else none) fun r =>
  if List.length r.2.2.1 = List.length a.1 then some r else none

/- changeforge/stack.fault -/
noncomputable def stack_fault_27 (a : ((Int) × (Int) × Unit) × Unit) : Option (((Int) × (Int) × Unit) × Unit) :=
  let x0 := a.1
  let x1 : Int := x0.1
  let x2 : Int := x0.2.1
  let x3 : (Int) × (Int) × Unit := (x1, x2, ())
  let x4 : (Int) × (Int) × Unit := (0, 0, ())
  let x5 : Bool := (!((x3.1 : Int) == x4.1 && ((x3.2.1 : Int) == x4.2.1 && true)))
  let j0 : (Int) × Unit → _ := fun s0 =>
    let x6 := s0.1
    let x7 : (Int) × (Int) × Unit := (x1, x6, ())
    some (x7, ())
  if x5 = true then
   j0 ((-1), ())
  else
   j0 (x2, ())

/- changeforge/stack.Move -/
noncomputable def stack_Move_10 (a : (List ((List ((Int) × (List (ByteArray)) × (List (ByteArray)) × Unit)) × Unit)) × (Int) × (Int) × Unit) : Option ((List ((List ((Int) × (List (ByteArray)) × (List (ByteArray)) × Unit)) × Unit)) × (Bool) × ((Int) × (Int) × Unit) × Unit) :=
  let x0 := a.1
  let x1 := a.2.1
  let x2 := a.2.2.1
  Option.bind (stack_Validate_23 (x0, ())) fun r3 =>
   let x3 := r3.1
   let x4 : Int := x3.1
   let x5 : Int := x3.2.1
   let x6 : (Int) × (Int) × Unit := (x4, x5, ())
   let x7 : (Int) × (Int) × Unit := (0, 0, ())
   let x8 : Bool := ((x6.1 : Int) == x7.1 && ((x6.2.1 : Int) == x7.2.1 && true))
   let j0 : (Int) × (Int) × Unit → _ := fun s0 =>
     let x9 := s0.1
     let x10 := s0.2.1
     let x11 : (Int) × (Int) × Unit := (x9, x10, ())
     let x12 : (Int) × (Int) × Unit := (0, 0, ())
     let x13 : Bool := ((x11.1 : Int) == x12.1 && ((x11.2.1 : Int) == x12.2.1 && true))
     let j0 : (Int) × (Int) × Unit → _ := fun s0 =>
       let x14 := s0.1
       let x15 := s0.2.1
       let x16 : (Int) × (Int) × Unit := (x14, x15, ())
       let x17 : (Int) × (Int) × Unit := (0, 0, ())
       let x18 : Bool := (!((x16.1 : Int) == x17.1 && ((x16.2.1 : Int) == x17.2.1 && true)))
       if x18 = true then
        let x19 : (Int) × (Int) × Unit := (x14, x15, ())
        some (([] : List ((List ((Int) × (List (ByteArray)) × (List (ByteArray)) × Unit)) × Unit)), false, x19, ())
       else
        Option.bind (stack_clone_25 (x0, ())) fun r19 =>
         let x19 := r19.1
         let j0 : (List ((List ((Int) × (List (ByteArray)) × (List (ByteArray)) × Unit)) × Unit)) × Unit → _ := fun s0 =>
           let x20 := s0.1
           let x21 : (Int) × (Int) × Unit := (0, 0, ())
           some (x20, true, x21, ())
         loopC (fun (s1 : (Int) × (List ((List ((Int) × (List (ByteArray)) × (List (ByteArray)) × Unit)) × Unit)) × Unit) =>
           let x20 := s1.1
           let x21 := s1.2.1
           let x22 : Bool := ((x20 : Int) != x2)
           if x22 = true then
            let x23 : Int := IntKind.wrap .i64 (x20 + 1)
            let x24 : Bool := decide ((x2 : Int) < x20)
            let j2 : (List ((List ((Int) × (List (ByteArray)) × (List (ByteArray)) × Unit)) × Unit)) × (Int) × (Int) × Unit → _ := fun s2 =>
              let x25 := s2.1
              let x26 := s2.2.1
              let x27 := s2.2.2.1
              Option.bind (stack_swap_26 (x25, x26, ())) fun r28 =>
               let x28 := r28.1
               let x29 := r28.2.1
               let x30 := r28.2.2.1
               let x31 : Int := x29.1
               let x32 : Int := x29.2.1
               let x33 : Bool := (!x28)
               if x33 = true then
                let x34 : (Int) × (Int) × Unit := (x31, x32, ())
                Option.bind (stack_fault_27 (x34, ())) fun r35 =>
                 let x35 := r35.1
                 let x36 : Int := x35.1
                 let x37 : Int := x35.2.1
                 let x38 : (Int) × (Int) × Unit := (x36, x37, ())
                 some (.inr (([] : List ((List ((Int) × (List (ByteArray)) × (List (ByteArray)) × Unit)) × Unit)), false, x38, ()))
               else
                some (.inl (x27, x30, ()))
            if x24 = true then
             let x25 : Int := IntKind.wrap .i64 (x20 - 1)
             let x26 : Int := IntKind.wrap .i64 (x20 - 1)
             j2 (x21, x25, x26, ())
            else
             j2 (x21, x20, x23, ())
           else
            Option.map .inr (j0 (x21, ())))
           (x1, x19, ())
     if x13 = true then
      Option.bind (stack_position_24 (x0, x2, (-3), ())) fun r14 =>
       let x14 := r14.1
       let x15 : Int := x14.1
       let x16 : Int := x14.2.1
       j0 (x15, x16, ())
     else
      j0 (x9, x10, ())
   if x8 = true then
    Option.bind (stack_position_24 (x0, x1, (-2), ())) fun r9 =>
     let x9 := r9.1
     let x10 : Int := x9.1
     let x11 : Int := x9.2.1
     j0 (x10, x11, ())
   else
    j0 (x4, x5, ())

/- changeforge/changeforgeref1.At -/
noncomputable def changeforgeref1_At_29 (a : (Int) × (Int) × Unit) : Option (((Int) × (Int) × Unit) × Unit) :=
  let x0 := a.1
  let x1 := a.2.1
  let x2 : Int := x0
  let x3 : Int := x1
  let x4 : (Int) × (Int) × Unit := (x2, x3, ())
  some (x4, ())

/- changeforge/changeforgeref1.LinesFault -/
noncomputable def changeforgeref1_LinesFault_56 (a : (List (ByteArray)) × Unit) : Option (((Int) × (Int) × Unit) × Unit) :=
  let x0 := a.1
  let x1 : Int := (List.length x0 : Int)
  let x2 : Bool := decide ((x1 : Int) > 120)
  if x2 = true then
   Option.bind (changeforgeref1_At_29 (2, (-1), ())) fun r3 =>
    let x3 := r3.1
    let x4 : Int := x3.1
    let x5 : Int := x3.2.1
    let x6 : (Int) × (Int) × Unit := (x4, x5, ())
    some (x6, ())
  else
   let j0 : Unit → _ := fun s0 =>
     let x3 : (Int) × (Int) × Unit := (0, 0, ())
     some (x3, ())
   loopC (fun (s1 : (Int) × Unit) =>
     let x3 := s1.1
     let x4 : Int := (List.length x0 : Int)
     let x5 : Bool := decide ((x3 : Int) < x4)
     if x5 = true then
      let j2 : (Int) × Unit → _ := fun s2 =>
        let x6 := s2.1
        let x7 : Int := IntKind.wrap .i64 (x6 + 1)
        some (.inl (x7, ()))
      atC x0 x3 fun y6 =>
       let x6 : ByteArray := y6
       let x7 : ByteArray := x6
       let x8 : Int := (ByteArray.size x7 : Int)
       let x9 : Bool := decide ((x8 : Int) > 80)
       if x9 = true then
        Option.bind (changeforgeref1_At_29 (2, x3, ())) fun r10 =>
         let x10 := r10.1
         let x11 : Int := x10.1
         let x12 : Int := x10.2.1
         let x13 : (Int) × (Int) × Unit := (x11, x12, ())
         some (.inr (x13, ()))
       else
        let j3 : (Int) × Unit → _ := fun s3 =>
          let x10 := s3.1
          j2 (x10, ())
        loopC (fun (s4 : (Int) × (Int) × Unit) =>
          let x10 := s4.1
          let x11 := s4.2.1
          atC x0 x10 fun y12 =>
           let x12 : ByteArray := y12
           let x13 : ByteArray := x12
           let x14 : Int := (ByteArray.size x13 : Int)
           let x15 : Bool := decide ((x11 : Int) < x14)
           if x15 = true then
            atC x0 x10 fun y16 =>
             let x16 : ByteArray := y16
             let x17 : ByteArray := x16
             if 0 ≤ x11 ∧ x11 < (ByteArray.size x17 : Int) then
              let x18 : Int := (((ByteArray.data x17).getD (Int.toNat x11) 0).toNat : Int)
              let x19 : Bool := ((x18 : Int) == 10)
              if x19 = true then
               Option.bind (changeforgeref1_At_29 (5, x10, ())) fun r20 =>
                let x20 := r20.1
                let x21 : Int := x20.1
                let x22 : Int := x20.2.1
                let x23 : (Int) × (Int) × Unit := (x21, x22, ())
                some (.inr (.inr (x23, ())))
              else
               let x20 : Int := IntKind.wrap .i64 (x11 + 1)
               some (.inl (x10, x20, ()))
             else none
           else
            Option.map .inr (j3 (x10, ())))
          (x3, 0, ())
     else
      Option.map .inr (j0 (())))
     (0, ())

/- changeforge/changeforgeref1.LinesCode -/
noncomputable def changeforgeref1_LinesCode_44 (a : (List (ByteArray)) × Unit) : Option ((Int) × Unit) :=
  let x0 := a.1
  Option.bind (changeforgeref1_LinesFault_56 (x0, ())) fun r1 =>
   let x1 := r1.1
   let x2 : Int := x1.1
   some (x2, ())

/- changeforge/changeforgeref1.End -/
noncomputable def changeforgeref1_End_58 (a : ((Int) × (List (ByteArray)) × (List (ByteArray)) × Unit) × Unit) : Option ((Int) × Unit) :=
  let x0 := a.1
  let x1 : Int := x0.1
  let x2 : List (ByteArray) := x0.2.1
  let x3 : List (ByteArray) := x0.2.2.1
  let x4 : Int := (List.length x2 : Int)
  let x5 : Int := IntKind.wrap .i64 (x1 + x4)
  some (x5, ())

/- changeforge/changeforgeref1.PatchFault -/
noncomputable def changeforgeref1_PatchFault_50 (a : ((List ((Int) × (List (ByteArray)) × (List (ByteArray)) × Unit)) × Unit) × Unit) : Option (((Int) × (Int) × Unit) × Unit) :=
  let x0 := a.1
  let x1 : List ((Int) × (List (ByteArray)) × (List (ByteArray)) × Unit) := x0.1
  let x2 : Int := (List.length x1 : Int)
  let x3 : Bool := decide ((x2 : Int) > 130)
  if x3 = true then
   Option.bind (changeforgeref1_At_29 (2, (-1), ())) fun r4 =>
    let x4 := r4.1
    let x5 : Int := x4.1
    let x6 : Int := x4.2.1
    let x7 : (Int) × (Int) × Unit := (x5, x6, ())
    some (x7, ())
  else
   let j0 : Unit → _ := fun s0 =>
     let x4 : (Int) × (Int) × Unit := (0, 0, ())
     some (x4, ())
   loopC (fun (s1 : (Int) × Unit) =>
     let x4 := s1.1
     let x5 : Int := (List.length x1 : Int)
     let x6 : Bool := decide ((x4 : Int) < x5)
     if x6 = true then
      atC x1 x4 fun y7 =>
       let x7 : (Int) × (List (ByteArray)) × (List (ByteArray)) × Unit := y7
       let x8 : (Int) × (List (ByteArray)) × (List (ByteArray)) × Unit := (x7.1, x7.2.1, x7.2.2.1, ())
       let x9 : Int := x8.1
       let x10 : List (ByteArray) := x8.2.1
       let x11 : List (ByteArray) := x8.2.2.1
       let j2 : (Int) × (Bool) × (Int) × (List (ByteArray)) × (List (ByteArray)) × Unit → _ := fun s2 =>
         let x12 := s2.1
         let x13 := s2.2.1
         let x14 := s2.2.2.1
         let x15 := s2.2.2.2.1
         let x16 := s2.2.2.2.2.1
         if x13 = true then
          Option.bind (changeforgeref1_At_29 (3, x12, ())) fun r17 =>
           let x17 := r17.1
           let x18 : Int := x17.1
           let x19 : Int := x17.2.1
           let x20 : (Int) × (Int) × Unit := (x18, x19, ())
           some (.inr (x20, ()))
         else
          Option.bind (changeforgeref1_LinesCode_44 (x15, ())) fun r17 =>
           let x17 := r17.1
           let x18 : Bool := ((x17 : Int) != 0)
           if x18 = true then
            Option.bind (changeforgeref1_At_29 (x17, x12, ())) fun r19 =>
             let x19 := r19.1
             let x20 : Int := x19.1
             let x21 : Int := x19.2.1
             let x22 : (Int) × (Int) × Unit := (x20, x21, ())
             some (.inr (x22, ()))
           else
            Option.bind (changeforgeref1_LinesCode_44 (x16, ())) fun r19 =>
             let x19 := r19.1
             let x20 : Bool := ((x19 : Int) != 0)
             if x20 = true then
              Option.bind (changeforgeref1_At_29 (x19, x12, ())) fun r21 =>
               let x21 := r21.1
               let x22 : Int := x21.1
               let x23 : Int := x21.2.1
               let x24 : (Int) × (Int) × Unit := (x22, x23, ())
               some (.inr (x24, ()))
             else
              let j2 : (Int) × (Bool) × (Int) × (List (ByteArray)) × (List (ByteArray)) × Unit → _ := fun s2 =>
                let x21 := s2.1
                let x22 := s2.2.1
                let x23 := s2.2.2.1
                let x24 := s2.2.2.2.1
                let x25 := s2.2.2.2.2.1
                if x22 = true then
                 Option.bind (changeforgeref1_At_29 (5, x21, ())) fun r26 =>
                  let x26 := r26.1
                  let x27 : Int := x26.1
                  let x28 : Int := x26.2.1
                  let x29 : (Int) × (Int) × Unit := (x27, x28, ())
                  some (.inr (x29, ()))
                else
                 let x26 : (Int) × (List (ByteArray)) × (List (ByteArray)) × Unit := (x23, x24, x25, ())
                 Option.bind (changeforgeref1_End_58 (x26, ())) fun r27 =>
                  let x27 := r27.1
                  let x28 : Bool := decide ((x27 : Int) > 120)
                  if x28 = true then
                   Option.bind (changeforgeref1_At_29 (3, x21, ())) fun r29 =>
                    let x29 := r29.1
                    let x30 : Int := x29.1
                    let x31 : Int := x29.2.1
                    let x32 : (Int) × (Int) × Unit := (x30, x31, ())
                    some (.inr (x32, ()))
                  else
                   let x29 : Int := IntKind.wrap .i64 (x21 + 1)
                   some (.inl (x29, ()))
              let x21 : Int := (List.length x15 : Int)
              let x22 : Int := (List.length x16 : Int)
              let x23 : Int := IntKind.wrap .i64 (x21 + x22)
              let x24 : Bool := ((x23 : Int) == 0)
              if x24 = true then
               j2 (x12, true, x14, x15, x16, ())
              else
               let x25 : Bool := decide ((x12 : Int) > 0)
               if x25 = true then
                let x26 : Int := IntKind.wrap .i64 (x12 - 1)
                atC x1 x26 fun y27 =>
                 let x27 : (Int) × (List (ByteArray)) × (List (ByteArray)) × Unit := y27
                 let x28 : (Int) × (List (ByteArray)) × (List (ByteArray)) × Unit := (x27.1, x27.2.1, x27.2.2.1, ())
                 Option.bind (changeforgeref1_End_58 (x28, ())) fun r29 =>
                  let x29 := r29.1
                  let x30 : Bool := decide ((x14 : Int) ≤ x29)
                  j2 (x12, x30, x14, x15, x16, ())
               else
                j2 (x12, false, x14, x15, x16, ())
       let x12 : Bool := decide ((x9 : Int) < 0)
       if x12 = true then
        j2 (x4, true, x9, x10, x11, ())
       else
        let x13 : Bool := decide ((x9 : Int) > 120)
        j2 (x4, x13, x9, x10, x11, ())
     else
      Option.map .inr (j0 (())))
     (0, ())

/- changeforge/changeforgeref2.StackFault -/
noncomputable def changeforgeref2_StackFault_28 (a : (List ((List ((Int) × (List (ByteArray)) × (List (ByteArray)) × Unit)) × Unit)) × Unit) : Option (((Int) × (Int) × Unit) × Unit) :=
  let x0 := a.1
  let x1 : Int := (List.length x0 : Int)
  let x2 : Bool := decide ((x1 : Int) > 12)
  if x2 = true then
   Option.bind (changeforgeref1_At_29 (2, (-1), ())) fun r3 =>
    let x3 := r3.1
    let x4 : Int := x3.1
    let x5 : Int := x3.2.1
    let x6 : (Int) × (Int) × Unit := (x4, x5, ())
    some (x6, ())
  else
   let j0 : Unit → _ := fun s0 =>
     let x3 : (Int) × (Int) × Unit := (0, 0, ())
     some (x3, ())
   loopC (fun (s1 : (Int) × Unit) =>
     let x3 := s1.1
     let x4 : Int := (List.length x0 : Int)
     let x5 : Bool := decide ((x3 : Int) < x4)
     if x5 = true then
      atC x0 x3 fun y6 =>
       let x6 : (List ((Int) × (List (ByteArray)) × (List (ByteArray)) × Unit)) × Unit := y6
       let x7 : (List ((Int) × (List (ByteArray)) × (List (ByteArray)) × Unit)) × Unit := (x6.1, ())
       Option.bind (changeforgeref1_PatchFault_50 (x7, ())) fun r8 =>
        let x8 := r8.1
        let x9 : Int := x8.1
        let x10 : Int := x8.2.1
        let x11 : Bool := ((x9 : Int) != 0)
        if x11 = true then
         Option.bind (changeforgeref1_At_29 (x9, x3, ())) fun r12 =>
          let x12 := r12.1
          let x13 : Int := x12.1
          let x14 : Int := x12.2.1
          let x15 : (Int) × (Int) × Unit := (x13, x14, ())
          some (.inr (x15, ()))
        else
         let x12 : Int := IntKind.wrap .i64 (x3 + 1)
         some (.inl (x12, ()))
     else
      Option.map .inr (j0 (())))
     (0, ())

/- changeforge/changeforgeref1.Pair -/
noncomputable def changeforgeref1_Pair_63 (a : ((List ((Int) × (List (ByteArray)) × (List (ByteArray)) × Unit)) × Unit) × ((List ((Int) × (List (ByteArray)) × (List (ByteArray)) × Unit)) × Unit) × Unit) : Option (((Int) × (Int) × Unit) × Unit) :=
  let x0 := a.1
  let x1 := a.2.1
  let x2 : List ((Int) × (List (ByteArray)) × (List (ByteArray)) × Unit) := x0.1
  let x3 : List ((Int) × (List (ByteArray)) × (List (ByteArray)) × Unit) := x1.1
  let x4 : (List ((Int) × (List (ByteArray)) × (List (ByteArray)) × Unit)) × Unit := (x2, ())
  Option.bind (changeforgeref1_PatchFault_50 (x4, ())) fun r5 =>
   let x5 := r5.1
   let x6 : Int := x5.1
   let x7 : Int := x5.2.1
   let j0 : (Bool) × Unit → _ := fun s0 =>
     let x8 := s0.1
     let j0 : (Int) × (Int) × Unit → _ := fun s0 =>
       let x9 := s0.1
       let x10 := s0.2.1
       let x11 : (Int) × (Int) × Unit := (x9, x10, ())
       some (x11, ())
     if x8 = true then
      let x9 : (List ((Int) × (List (ByteArray)) × (List (ByteArray)) × Unit)) × Unit := (x3, ())
      Option.bind (changeforgeref1_PatchFault_50 (x9, ())) fun r10 =>
       let x10 := r10.1
       let x11 : Int := x10.1
       Option.bind (changeforgeref1_At_29 (x11, (-2), ())) fun r12 =>
        let x12 := r12.1
        let x13 : Int := x12.1
        let x14 : Int := x12.2.1
        j0 (x13, x14, ())
     else
      j0 (x6, x7, ())
   let x8 : Bool := ((x6 : Int) == 0)
   if x8 = true then
    let x9 : (List ((Int) × (List (ByteArray)) × (List (ByteArray)) × Unit)) × Unit := (x3, ())
    Option.bind (changeforgeref1_PatchFault_50 (x9, ())) fun r10 =>
     let x10 := r10.1
     let x11 : Int := x10.1
     let x12 : Bool := ((x11 : Int) != 0)
     j0 (x12, ())
   else
    j0 (false, ())

/- changeforge/changeforgeref1.Growth -/
noncomputable def changeforgeref1_Growth_66 (a : ((Int) × (List (ByteArray)) × (List (ByteArray)) × Unit) × Unit) : Option ((Int) × Unit) :=
  let x0 := a.1
  let x1 : Int := x0.1
  let x2 : List (ByteArray) := x0.2.1
  let x3 : List (ByteArray) := x0.2.2.1
  let x4 : Int := (List.length x3 : Int)
  let x5 : Int := (List.length x2 : Int)
  let x6 : Int := IntKind.wrap .i64 (x4 - x5)
  some (x6, ())

/- changeforge/changeforgeref1.news -/
noncomputable def changeforgeref1_news_65 (a : ((List ((Int) × (List (ByteArray)) × (List (ByteArray)) × Unit)) × Unit) × (Int) × Unit) : Option ((Int) × (Int) × Unit) :=
  let x0 := a.1
  let x1 := a.2.1
  let x2 : List ((Int) × (List (ByteArray)) × (List (ByteArray)) × Unit) := x0.1
  atC x2 x1 fun y3 =>
   let x3 : (Int) × (List (ByteArray)) × (List (ByteArray)) × Unit := y3
   let x4 : Int := x3.1
   let j0 : (Int) × Unit → _ := fun s0 =>
     let x5 := s0.1
     atC x2 x1 fun y6 =>
      let x6 : (Int) × (List (ByteArray)) × (List (ByteArray)) × Unit := y6
      let x7 : List (ByteArray) := x6.2.2.1
      let x8 : Int := (List.length x7 : Int)
      let x9 : Int := IntKind.wrap .i64 (x5 + x8)
      some (x5, x9, ())
   loopC (fun (s1 : (Int) × (Int) × Unit) =>
     let x5 := s1.1
     let x6 := s1.2.1
     let x7 : Bool := decide ((x6 : Int) < x1)
     if x7 = true then
      atC x2 x6 fun y8 =>
       let x8 : (Int) × (List (ByteArray)) × (List (ByteArray)) × Unit := y8
       let x9 : (Int) × (List (ByteArray)) × (List (ByteArray)) × Unit := (x8.1, x8.2.1, x8.2.2.1, ())
       Option.bind (changeforgeref1_Growth_66 (x9, ())) fun r10 =>
        let x10 := r10.1
        let x11 : Int := IntKind.wrap .i64 (x5 + x10)
        let x12 : Int := IntKind.wrap .i64 (x6 + 1)
        some (.inl (x11, x12, ()))
     else
      Option.map .inr (j0 (x5, ())))
     (x4, 0, ())

/- changeforge/changeforgeref1.moved -/
noncomputable def changeforgeref1_moved_67 (a : ((Int) × (List (ByteArray)) × (List (ByteArray)) × Unit) × (Int) × Unit) : Option (((Int) × (List (ByteArray)) × (List (ByteArray)) × Unit) × Unit) :=
  let x0 := a.1
  let x1 := a.2.1
  let x2 : Int := x0.1
  let x3 : List (ByteArray) := x0.2.1
  let x4 : List (ByteArray) := x0.2.2.1
  let x5 : Int := IntKind.wrap .i64 (x2 + x1)
  let x6 : Int := x5
  let x7 : List (ByteArray) := x3
  let x8 : List (ByteArray) := x4
  let x9 : (Int) × (List (ByteArray)) × (List (ByteArray)) × Unit := (x6, x7, x8, ())
  some (x9, ())

/- changeforge/changeforgeref1.Commute -/
noncomputable def changeforgeref1_Commute_51 (a : ((List ((Int) × (List (ByteArray)) × (List (ByteArray)) × Unit)) × Unit) × ((List ((Int) × (List (ByteArray)) × (List (ByteArray)) × Unit)) × Unit) × Unit) : Option (((List ((Int) × (List (ByteArray)) × (List (ByteArray)) × Unit)) × Unit) × ((List ((Int) × (List (ByteArray)) × (List (ByteArray)) × Unit)) × Unit) × (Bool) × ((Int) × (Int) × Unit) × Unit) :=
  let x0 := a.1
  let x1 := a.2.1
  let x2 : List ((Int) × (List (ByteArray)) × (List (ByteArray)) × Unit) := x0.1
  let x3 : List ((Int) × (List (ByteArray)) × (List (ByteArray)) × Unit) := x1.1
  let x4 : (List ((Int) × (List (ByteArray)) × (List (ByteArray)) × Unit)) × Unit := (x2, ())
  let x5 : (List ((Int) × (List (ByteArray)) × (List (ByteArray)) × Unit)) × Unit := (x3, ())
  Option.bind (changeforgeref1_Pair_63 (x4, x5, ())) fun r6 =>
   let x6 := r6.1
   let x7 : Int := x6.1
   let x8 : Int := x6.2.1
   let x9 : Bool := ((x7 : Int) != 0)
   if x9 = true then
    let x10 : (List ((Int) × (List (ByteArray)) × (List (ByteArray)) × Unit)) × Unit := (([] : List ((Int) × (List (ByteArray)) × (List (ByteArray)) × Unit)), ())
    let x11 : (List ((Int) × (List (ByteArray)) × (List (ByteArray)) × Unit)) × Unit := (([] : List ((Int) × (List (ByteArray)) × (List (ByteArray)) × Unit)), ())
    let x12 : (Int) × (Int) × Unit := (x7, x8, ())
    some (x10, x11, false, x12, ())
   else
    let j0 : (List ((Int) × (List (ByteArray)) × (List (ByteArray)) × Unit)) × Unit → _ := fun s0 =>
      let x10 := s0.1
      let j0 : (List ((Int) × (List (ByteArray)) × (List (ByteArray)) × Unit)) × Unit → _ := fun s0 =>
        let x11 := s0.1
        let j0 : (Bool) × Unit → _ := fun s0 =>
          let x12 := s0.1
          if x12 = true then
           Option.bind (changeforgeref1_At_29 (10, (-1), ())) fun r13 =>
            let x13 := r13.1
            let x14 : Int := x13.1
            let x15 : Int := x13.2.1
            let x16 : (List ((Int) × (List (ByteArray)) × (List (ByteArray)) × Unit)) × Unit := (([] : List ((Int) × (List (ByteArray)) × (List (ByteArray)) × Unit)), ())
            let x17 : (List ((Int) × (List (ByteArray)) × (List (ByteArray)) × Unit)) × Unit := (([] : List ((Int) × (List (ByteArray)) × (List (ByteArray)) × Unit)), ())
            let x18 : (Int) × (Int) × Unit := (x14, x15, ())
            some (x16, x17, false, x18, ())
          else
           let x13 : (List ((Int) × (List (ByteArray)) × (List (ByteArray)) × Unit)) × Unit := (x10, ())
           let x14 : (List ((Int) × (List (ByteArray)) × (List (ByteArray)) × Unit)) × Unit := (x11, ())
           let x15 : (Int) × (Int) × Unit := (0, 0, ())
           some (x13, x14, true, x15, ())
        let x12 : (List ((Int) × (List (ByteArray)) × (List (ByteArray)) × Unit)) × Unit := (x10, ())
        Option.bind (changeforgeref1_PatchFault_50 (x12, ())) fun r13 =>
         let x13 := r13.1
         let x14 : Int := x13.1
         let x15 : Bool := ((x14 : Int) != 0)
         if x15 = true then
          j0 (true, ())
         else
          let x16 : (List ((Int) × (List (ByteArray)) × (List (ByteArray)) × Unit)) × Unit := (x11, ())
          Option.bind (changeforgeref1_PatchFault_50 (x16, ())) fun r17 =>
           let x17 := r17.1
           let x18 : Int := x17.1
           let x19 : Bool := ((x18 : Int) != 0)
           j0 (x19, ())
      loopC (fun (s1 : (Int) × (List ((Int) × (List (ByteArray)) × (List (ByteArray)) × Unit)) × Unit) =>
        let x11 := s1.1
        let x12 := s1.2.1
        let x13 : Int := (List.length x2 : Int)
        let x14 : Bool := decide ((x11 : Int) < x13)
        if x14 = true then
         let j2 : (Int) × (Int) × (List ((Int) × (List (ByteArray)) × (List (ByteArray)) × Unit)) × Unit → _ := fun s2 =>
           let x15 := s2.1
           let x16 := s2.2.1
           let x17 := s2.2.2.1
           atC x2 x15 fun y18 =>
            let x18 : (Int) × (List (ByteArray)) × (List (ByteArray)) × Unit := y18
            let x19 : (Int) × (List (ByteArray)) × (List (ByteArray)) × Unit := (x18.1, x18.2.1, x18.2.2.1, ())
            Option.bind (changeforgeref1_moved_67 (x19, x16, ())) fun r20 =>
             let x20 := r20.1
             let x21 : List ((Int) × (List (ByteArray)) × (List (ByteArray)) × Unit) := [x20]
             if (List.length x17 + List.length x21) * 56 ≤ 140737488355328 ∧ List.length x17 + List.length x21 ≤ maxLen then
              let x22 : List ((Int) × (List (ByteArray)) × (List (ByteArray)) × Unit) := x17 ++ x21
              let x23 : Int := IntKind.wrap .i64 (x15 + 1)
              some (.inl (x23, x22, ()))
             else none
         loopC (fun (s3 : (Int) × (Int) × (Int) × (List ((Int) × (List (ByteArray)) × (List (ByteArray)) × Unit)) × Unit) =>
           let x15 := s3.1
           let x16 := s3.2.1
           let x17 := s3.2.2.1
           let x18 := s3.2.2.2.1
           let x19 : Int := (List.length x10 : Int)
           let x20 : Bool := decide ((x17 : Int) < x19)
           if x20 = true then
            let j4 : (Int) × (Int) × (Int) × (List ((Int) × (List (ByteArray)) × (List (ByteArray)) × Unit)) × Unit → _ := fun s4 =>
              let x21 := s4.1
              let x22 := s4.2.1
              let x23 := s4.2.2.1
              let x24 := s4.2.2.2.1
              let x25 : Int := IntKind.wrap .i64 (x23 + 1)
              some (.inl (x21, x22, x25, x24, ()))
            atC x10 x17 fun y21 =>
             let x21 : (Int) × (List (ByteArray)) × (List (ByteArray)) × Unit := y21
             let x22 : (Int) × (List (ByteArray)) × (List (ByteArray)) × Unit := (x21.1, x21.2.1, x21.2.2.1, ())
             Option.bind (changeforgeref1_End_58 (x22, ())) fun r23 =>
              let x23 := r23.1
              atC x2 x15 fun y24 =>
               let x24 : (Int) × (List (ByteArray)) × (List (ByteArray)) × Unit := y24
               let x25 : Int := x24.1
               let x26 : Bool := decide ((x23 : Int) < x25)
               let j5 : (Int) × (Int) × (Int) × (List ((Int) × (List (ByteArray)) × (List (ByteArray)) × Unit)) × Unit → _ := fun s5 =>
                 let x27 := s5.1
                 let x28 := s5.2.1
                 let x29 := s5.2.2.1
                 let x30 := s5.2.2.2.1
                 j4 (x27, x28, x29, x30, ())
               if x26 = true then
                atC x10 x17 fun y27 =>
                 let x27 : (Int) × (List (ByteArray)) × (List (ByteArray)) × Unit := y27
                 let x28 : (Int) × (List (ByteArray)) × (List (ByteArray)) × Unit := (x27.1, x27.2.1, x27.2.2.1, ())
                 Option.bind (changeforgeref1_Growth_66 (x28, ())) fun r29 =>
                  let x29 := r29.1
                  let x30 : Int := IntKind.wrap .i64 (x16 + x29)
                  j5 (x15, x30, x17, x18, ())
               else
                j5 (x15, x16, x17, x18, ())
           else
            Option.map .inr (j2 (x15, x16, x18, ())))
           (x11, 0, 0, x12, ())
        else
         Option.map .inr (j0 (x12, ())))
        (0, ([] : List ((Int) × (List (ByteArray)) × (List (ByteArray)) × Unit)), ())
    loopC (fun (s1 : (Int) × (List ((Int) × (List (ByteArray)) × (List (ByteArray)) × Unit)) × Unit) =>
      let x10 := s1.1
      let x11 := s1.2.1
      let x12 : Int := (List.length x3 : Int)
      let x13 : Bool := decide ((x10 : Int) < x12)
      if x13 = true then
       let j2 : (Int) × (Int) × (List ((Int) × (List (ByteArray)) × (List (ByteArray)) × Unit)) × Unit → _ := fun s2 =>
         let x14 := s2.1
         let x15 := s2.2.1
         let x16 := s2.2.2.1
         atC x3 x14 fun y17 =>
          let x17 : (Int) × (List (ByteArray)) × (List (ByteArray)) × Unit := y17
          let x18 : (Int) × (List (ByteArray)) × (List (ByteArray)) × Unit := (x17.1, x17.2.1, x17.2.2.1, ())
          Option.bind (changeforgeref1_moved_67 (x18, x15, ())) fun r19 =>
           let x19 := r19.1
           let x20 : List ((Int) × (List (ByteArray)) × (List (ByteArray)) × Unit) := [x19]
           if (List.length x16 + List.length x20) * 56 ≤ 140737488355328 ∧ List.length x16 + List.length x20 ≤ maxLen then
            let x21 : List ((Int) × (List (ByteArray)) × (List (ByteArray)) × Unit) := x16 ++ x20
            let x22 : Int := IntKind.wrap .i64 (x14 + 1)
            some (.inl (x22, x21, ()))
           else none
       loopC (fun (s3 : (Int) × (Int) × (Int) × (List ((Int) × (List (ByteArray)) × (List (ByteArray)) × Unit)) × Unit) =>
         let x14 := s3.1
         let x15 := s3.2.1
         let x16 := s3.2.2.1
         let x17 := s3.2.2.2.1
         let x18 : Int := (List.length x2 : Int)
         let x19 : Bool := decide ((x16 : Int) < x18)
         if x19 = true then
          let j4 : (Int) × (Int) × (Int) × (List ((Int) × (List (ByteArray)) × (List (ByteArray)) × Unit)) × Unit → _ := fun s4 =>
            let x20 := s4.1
            let x21 := s4.2.1
            let x22 := s4.2.2.1
            let x23 := s4.2.2.2.1
            let x24 : Int := IntKind.wrap .i64 (x22 + 1)
            some (.inl (x20, x21, x24, x23, ()))
          let x20 : (List ((Int) × (List (ByteArray)) × (List (ByteArray)) × Unit)) × Unit := (x2, ())
          Option.bind (changeforgeref1_news_65 (x20, x16, ())) fun r21 =>
           let x21 := r21.1
           let x22 := r21.2.1
           let j5 : (Int) × (Int) × (Int) × (Int) × (Bool) × (List ((Int) × (List (ByteArray)) × (List (ByteArray)) × Unit)) × Unit → _ := fun s5 =>
             let x23 := s5.1
             let x24 := s5.2.1
             let x25 := s5.2.2.1
             let x26 := s5.2.2.2.1
             let x27 := s5.2.2.2.2.1
             let x28 := s5.2.2.2.2.2.1
             if x27 = true then
              let x29 : (List ((Int) × (List (ByteArray)) × (List (ByteArray)) × Unit)) × Unit := (([] : List ((Int) × (List (ByteArray)) × (List (ByteArray)) × Unit)), ())
              let x30 : (List ((Int) × (List (ByteArray)) × (List (ByteArray)) × Unit)) × Unit := (([] : List ((Int) × (List (ByteArray)) × (List (ByteArray)) × Unit)), ())
              let x31 : (Int) × (Int) × Unit := (0, 0, ())
              some (.inr (.inr (x29, x30, false, x31, ())))
             else
              atC x3 x23 fun y29 =>
               let x29 : (Int) × (List (ByteArray)) × (List (ByteArray)) × Unit := y29
               let x30 : Int := x29.1
               let x31 : Bool := decide ((x26 : Int) < x30)
               let j5 : (Int) × (Int) × (Int) × (List ((Int) × (List (ByteArray)) × (List (ByteArray)) × Unit)) × Unit → _ := fun s5 =>
                 let x32 := s5.1
                 let x33 := s5.2.1
                 let x34 := s5.2.2.1
                 let x35 := s5.2.2.2.1
                 j4 (x32, x33, x34, x35, ())
               if x31 = true then
                atC x2 x25 fun y32 =>
                 let x32 : (Int) × (List (ByteArray)) × (List (ByteArray)) × Unit := y32
                 let x33 : (Int) × (List (ByteArray)) × (List (ByteArray)) × Unit := (x32.1, x32.2.1, x32.2.2.1, ())
                 Option.bind (changeforgeref1_Growth_66 (x33, ())) fun r34 =>
                  let x34 := r34.1
                  let x35 : Int := IntKind.wrap .i64 (x24 - x34)
                  j5 (x23, x35, x25, x28, ())
               else
                j5 (x23, x24, x25, x28, ())
           atC x3 x14 fun y23 =>
            let x23 : (Int) × (List (ByteArray)) × (List (ByteArray)) × Unit := y23
            let x24 : Int := x23.1
            let x25 : Bool := decide ((x22 : Int) ≥ x24)
            if x25 = true then
             atC x3 x14 fun y26 =>
              let x26 : (Int) × (List (ByteArray)) × (List (ByteArray)) × Unit := y26
              let x27 : (Int) × (List (ByteArray)) × (List (ByteArray)) × Unit := (x26.1, x26.2.1, x26.2.2.1, ())
              Option.bind (changeforgeref1_End_58 (x27, ())) fun r28 =>
               let x28 := r28.1
               let x29 : Bool := decide ((x28 : Int) ≥ x21)
               j5 (x14, x15, x16, x22, x29, x17, ())
            else
             j5 (x14, x15, x16, x22, false, x17, ())
         else
          Option.map .inr (j2 (x14, x15, x17, ())))
         (x10, 0, 0, x11, ())
      else
       Option.map .inr (j0 (x11, ())))
      (0, ([] : List ((Int) × (List (ByteArray)) × (List (ByteArray)) × Unit)), ())

/- changeforge/stack.Drop -/
noncomputable def stack_Drop_12 (a : (List ((List ((Int) × (List (ByteArray)) × (List (ByteArray)) × Unit)) × Unit)) × (Int) × Unit) : Option ((List ((List ((Int) × (List (ByteArray)) × (List (ByteArray)) × Unit)) × Unit)) × (Bool) × ((Int) × (Int) × Unit) × Unit) :=
  let x0 := a.1
  let x1 := a.2.1
  Option.bind (stack_Validate_23 (x0, ())) fun r2 =>
   let x2 := r2.1
   let x3 : Int := x2.1
   let x4 : Int := x2.2.1
   let x5 : (Int) × (Int) × Unit := (x3, x4, ())
   let x6 : (Int) × (Int) × Unit := (0, 0, ())
   let x7 : Bool := (!((x5.1 : Int) == x6.1 && ((x5.2.1 : Int) == x6.2.1 && true)))
   if x7 = true then
    let x8 : (Int) × (Int) × Unit := (x3, x4, ())
    some (([] : List ((List ((Int) × (List (ByteArray)) × (List (ByteArray)) × Unit)) × Unit)), false, x8, ())
   else
    Option.bind (stack_position_24 (x0, x1, (-2), ())) fun r8 =>
     let x8 := r8.1
     let x9 : Int := x8.1
     let x10 : Int := x8.2.1
     let x11 : (Int) × (Int) × Unit := (x9, x10, ())
     let x12 : (Int) × (Int) × Unit := (0, 0, ())
     let x13 : Bool := (!((x11.1 : Int) == x12.1 && ((x11.2.1 : Int) == x12.2.1 && true)))
     if x13 = true then
      let x14 : (Int) × (Int) × Unit := (x9, x10, ())
      some (([] : List ((List ((Int) × (List (ByteArray)) × (List (ByteArray)) × Unit)) × Unit)), false, x14, ())
     else
      let x14 : Int := (List.length x0 : Int)
      let x15 : Int := IntKind.wrap .i64 (x14 - 1)
      Option.bind (stack_Move_10 (x0, x1, x15, ())) fun r16 =>
       let x16 := r16.1
       let x17 := r16.2.1
       let x18 := r16.2.2.1
       let x19 : Int := x18.1
       let x20 : Int := x18.2.1
       let x21 : Bool := (!x17)
       if x21 = true then
        let x22 : (Int) × (Int) × Unit := (x19, x20, ())
        some (([] : List ((List ((Int) × (List (ByteArray)) × (List (ByteArray)) × Unit)) × Unit)), false, x22, ())
       else
        let x22 : Int := (List.length x16 : Int)
        let x23 : Int := IntKind.wrap .i64 (x22 - 1)
        if 0 ≤ (0 : Int) ∧ (0 : Int) ≤ x23 ∧ x23 ≤ (List.length x16 : Int) then
         let x24 : List ((List ((Int) × (List (ByteArray)) × (List (ByteArray)) × Unit)) × Unit) := List.drop (Int.toNat (0 : Int)) (List.take (Int.toNat x23) x16)
         let x25 : (Int) × (Int) × Unit := (0, 0, ())
         some (x24, true, x25, ())
        else none

/- changeforge/changeforgeequal.Strings -/
noncomputable def changeforgeequal_Strings_17 (a : (List (ByteArray)) × (List (ByteArray)) × Unit) : Option ((Bool) × Unit) :=
  let x0 := a.1
  let x1 := a.2.1
  let x2 : Int := (List.length x0 : Int)
  let x3 : Int := (List.length x1 : Int)
  let x4 : Bool := ((x2 : Int) != x3)
  if x4 = true then
   some (false, ())
  else
   let j0 : Unit → _ := fun s0 =>
     some (true, ())
   loopC (fun (s1 : (Int) × Unit) =>
     let x5 := s1.1
     let x6 : Int := (List.length x0 : Int)
     let x7 : Bool := decide ((x5 : Int) < x6)
     if x7 = true then
      atC x0 x5 fun y8 =>
       let x8 : ByteArray := y8
       let x9 : ByteArray := x8
       atC x1 x5 fun y10 =>
        let x10 : ByteArray := y10
        let x11 : ByteArray := x10
        let x12 : Bool := (!(ByteArray.toList x9 == ByteArray.toList x11))
        if x12 = true then
         some (.inr (false, ()))
        else
         let x13 : Int := IntKind.wrap .i64 (x5 + 1)
         some (.inl (x13, ()))
     else
      Option.map .inr (j0 (())))
     (0, ())

/- changeforge/changeforgeequal.Patch -/
noncomputable def changeforgeequal_Patch_31 (a : ((List ((Int) × (List (ByteArray)) × (List (ByteArray)) × Unit)) × Unit) × ((List ((Int) × (List (ByteArray)) × (List (ByteArray)) × Unit)) × Unit) × Unit) : Option ((Bool) × Unit) :=
  let x0 := a.1
  let x1 := a.2.1
  let x2 : List ((Int) × (List (ByteArray)) × (List (ByteArray)) × Unit) := x0.1
  let x3 : List ((Int) × (List (ByteArray)) × (List (ByteArray)) × Unit) := x1.1
  let x4 : Int := (List.length x2 : Int)
  let x5 : Int := (List.length x3 : Int)
  let x6 : Bool := ((x4 : Int) != x5)
  if x6 = true then
   some (false, ())
  else
   let j0 : Unit → _ := fun s0 =>
     some (true, ())
   loopC (fun (s1 : (Int) × Unit) =>
     let x7 := s1.1
     let x8 : Int := (List.length x2 : Int)
     let x9 : Bool := decide ((x7 : Int) < x8)
     if x9 = true then
      let j2 : (Int) × (Bool) × Unit → _ := fun s2 =>
        let x10 := s2.1
        let x11 := s2.2.1
        if x11 = true then
         some (.inr (false, ()))
        else
         let x12 : Int := IntKind.wrap .i64 (x10 + 1)
         some (.inl (x12, ()))
      atC x2 x7 fun y10 =>
       let x10 : (Int) × (List (ByteArray)) × (List (ByteArray)) × Unit := y10
       let x11 : Int := x10.1
       atC x3 x7 fun y12 =>
        let x12 : (Int) × (List (ByteArray)) × (List (ByteArray)) × Unit := y12
        let x13 : Int := x12.1
        let x14 : Bool := ((x11 : Int) != x13)
        if x14 = true then
         j2 (x7, true, ())
        else
         atC x2 x7 fun y15 =>
          let x15 : (Int) × (List (ByteArray)) × (List (ByteArray)) × Unit := y15
          let x16 : List (ByteArray) := x15.2.1
          atC x3 x7 fun y17 =>
           let x17 : (Int) × (List (ByteArray)) × (List (ByteArray)) × Unit := y17
           let x18 : List (ByteArray) := x17.2.1
           Option.bind (changeforgeequal_Strings_17 (x16, x18, ())) fun r19 =>
            let x19 := r19.1
            let x20 : Bool := (!x19)
            if x20 = true then
             j2 (x7, true, ())
            else
             atC x2 x7 fun y21 =>
              let x21 : (Int) × (List (ByteArray)) × (List (ByteArray)) × Unit := y21
              let x22 : List (ByteArray) := x21.2.2.1
              atC x3 x7 fun y23 =>
               let x23 : (Int) × (List (ByteArray)) × (List (ByteArray)) × Unit := y23
               let x24 : List (ByteArray) := x23.2.2.1
               Option.bind (changeforgeequal_Strings_17 (x22, x24, ())) fun r25 =>
                let x25 := r25.1
                let x26 : Bool := (!x25)
                j2 (x7, x26, ())
     else
      Option.map .inr (j0 (())))
     (0, ())

/- changeforge/changeforgeequal.Patches -/
noncomputable def changeforgeequal_Patches_14 (a : (List ((List ((Int) × (List (ByteArray)) × (List (ByteArray)) × Unit)) × Unit)) × (List ((List ((Int) × (List (ByteArray)) × (List (ByteArray)) × Unit)) × Unit)) × Unit) : Option ((Bool) × Unit) :=
  let x0 := a.1
  let x1 := a.2.1
  let x2 : Int := (List.length x0 : Int)
  let x3 : Int := (List.length x1 : Int)
  let x4 : Bool := ((x2 : Int) != x3)
  if x4 = true then
   some (false, ())
  else
   let j0 : Unit → _ := fun s0 =>
     some (true, ())
   loopC (fun (s1 : (Int) × Unit) =>
     let x5 := s1.1
     let x6 : Int := (List.length x0 : Int)
     let x7 : Bool := decide ((x5 : Int) < x6)
     if x7 = true then
      atC x0 x5 fun y8 =>
       let x8 : (List ((Int) × (List (ByteArray)) × (List (ByteArray)) × Unit)) × Unit := y8
       let x9 : (List ((Int) × (List (ByteArray)) × (List (ByteArray)) × Unit)) × Unit := (x8.1, ())
       atC x1 x5 fun y10 =>
        let x10 : (List ((Int) × (List (ByteArray)) × (List (ByteArray)) × Unit)) × Unit := y10
        let x11 : (List ((Int) × (List (ByteArray)) × (List (ByteArray)) × Unit)) × Unit := (x10.1, ())
        Option.bind (changeforgeequal_Patch_31 (x9, x11, ())) fun r12 =>
         let x12 := r12.1
         let x13 : Bool := (!x12)
         if x13 = true then
          some (.inr (false, ()))
         else
          let x14 : Int := IntKind.wrap .i64 (x5 + 1)
          some (.inl (x14, ()))
     else
      Option.map .inr (j0 (())))
     (0, ())

/- changeforge/changeforgelaw2.single -/
noncomputable def changeforgelaw2_single_32 (a : (Int) × (List (ByteArray)) × (List (ByteArray)) × Unit) : Option (((List ((Int) × (List (ByteArray)) × (List (ByteArray)) × Unit)) × Unit) × Unit) :=
  let x0 := a.1
  let x1 := a.2.1
  let x2 := a.2.2.1
  let x3 : Int := x0
  let x4 : List (ByteArray) := x1
  let x5 : List (ByteArray) := x2
  let x6 : (Int) × (List (ByteArray)) × (List (ByteArray)) × Unit := (x3, x4, x5, ())
  let x7 : List ((Int) × (List (ByteArray)) × (List (ByteArray)) × Unit) := [x6]
  let x8 : List ((Int) × (List (ByteArray)) × (List (ByteArray)) × Unit) := x7
  let x9 : (List ((Int) × (List (ByteArray)) × (List (ByteArray)) × Unit)) × Unit := (x8, ())
  some (x9, ())

/- slices.Equal[[]string,string] -/
noncomputable def slices_Equal___string_string__43 (a : (List (ByteArray)) × (List (ByteArray)) × Unit) : Option ((Bool) × Unit) :=
  let x0 := a.1
  let x1 := a.2.1
  let x2 : Int := (List.length x0 : Int)
  let x3 : Int := (List.length x1 : Int)
  let x4 : Bool := ((x2 : Int) != x3)
  if x4 = true then
   some (false, ())
  else
   let x5 : Int := (List.length x0 : Int)
   let j0 : Unit → _ := fun s0 =>
     some (true, ())
   loopC (fun (s1 : (Int) × Unit) =>
     let x6 := s1.1
     let x7 : Bool := decide ((x6 : Int) < x5)
     if x7 = true then
      atC x0 x6 fun y8 =>
       let x8 : ByteArray := y8
       let x9 : ByteArray := x8
       atC x1 x6 fun y10 =>
        let x10 : ByteArray := y10
        let x11 : ByteArray := x10
        let x12 : Bool := (!(ByteArray.toList x9 == ByteArray.toList x11))
        if x12 = true then
         some (.inr (false, ()))
        else
         let x13 : Int := IntKind.wrap .i64 (x6 + 1)
         some (.inl (x13, ()))
     else
      Option.map .inr (j0 (())))
     (0, ())

/- changeforge/textpatch.Apply -/
noncomputable def textpatch_Apply_19 (a : ((List ((Int) × (List (ByteArray)) × (List (ByteArray)) × Unit)) × Unit) × (List (ByteArray)) × Unit) : Option ((List (ByteArray)) × ((Int) × (Int) × Unit) × Unit) :=
  let x0 := a.1
  let x1 := a.2.1
  let x2 : List ((Int) × (List (ByteArray)) × (List (ByteArray)) × Unit) := x0.1
  let x3 : (List ((Int) × (List (ByteArray)) × (List (ByteArray)) × Unit)) × Unit := (x2, ())
  Option.bind (textpatch_Validate_41 (x3, ())) fun r4 =>
   let x4 := r4.1
   let x5 : Int := x4.1
   let x6 : Int := x4.2.1
   let x7 : (Int) × (Int) × Unit := (x5, x6, ())
   let x8 : (Int) × (Int) × Unit := (0, 0, ())
   let x9 : Bool := (!((x7.1 : Int) == x8.1 && ((x7.2.1 : Int) == x8.2.1 && true)))
   if x9 = true then
    let x10 : (Int) × (Int) × Unit := (x5, x6, ())
    some (([] : List (ByteArray)), x10, ())
   else
    Option.bind (lines_Code_33 (x1, ())) fun r10 =>
     let x10 := r10.1
     let x11 : Bool := ((x10 : Int) != 0)
     if x11 = true then
      let x12 : Int := x10
      let x13 : (Int) × (Int) × Unit := (x12, (-2), ())
      some (([] : List (ByteArray)), x13, ())
     else
      let x12 : Int := (List.length x2 : Int)
      let j0 : (List (ByteArray)) × (Int) × Unit → _ := fun s0 =>
        let x13 := s0.1
        let x14 := s0.2.1
        if 0 ≤ x14 ∧ x14 ≤ (List.length x1 : Int) ∧ (List.length x1 : Int) ≤ (List.length x1 : Int) then
         let x15 : List (ByteArray) := List.drop (Int.toNat x14) (List.take (Int.toNat (List.length x1 : Int)) x1)
         if (List.length x13 + List.length x15) * 16 ≤ 140737488355328 ∧ List.length x13 + List.length x15 ≤ maxLen then
          let x16 : List (ByteArray) := x13 ++ x15
          let x17 : Int := (List.length x16 : Int)
          let x18 : Bool := decide ((x17 : Int) > 120)
          if x18 = true then
           let x19 : (Int) × (Int) × Unit := (10, (-1), ())
           some (([] : List (ByteArray)), x19, ())
          else
           let x19 : (Int) × (Int) × Unit := (0, 0, ())
           some (x16, x19, ())
         else none
        else none
      loopC (fun (s1 : (List (ByteArray)) × (Int) × (Int) × Unit) =>
        let x13 := s1.1
        let x14 := s1.2.1
        let x15 := s1.2.2.1
        let x16 : Bool := decide ((x15 : Int) < x12)
        if x16 = true then
         atC x2 x15 fun y17 =>
          let x17 : (Int) × (List (ByteArray)) × (List (ByteArray)) × Unit := y17
          let x18 : (Int) × (List (ByteArray)) × (List (ByteArray)) × Unit := (x17.1, x17.2.1, x17.2.2.1, ())
          let x19 : Int := x18.1
          let x20 : List (ByteArray) := x18.2.1
          let x21 : List (ByteArray) := x18.2.2.1
          let j2 : (List (ByteArray)) × (Int) × (Int) × (Bool) × (Int) × (List (ByteArray)) × (List (ByteArray)) × Unit → _ := fun s2 =>
            let x22 := s2.1
            let x23 := s2.2.1
            let x24 := s2.2.2.1
            let x25 := s2.2.2.2.1
            let x26 := s2.2.2.2.2.1
            let x27 := s2.2.2.2.2.2.1
            let x28 := s2.2.2.2.2.2.2.1
            if x25 = true then
             let x29 : Int := x24
             let x30 : (Int) × (Int) × Unit := (19, x29, ())
             some (.inr (([] : List (ByteArray)), x30, ()))
            else
             if 0 ≤ x23 ∧ x23 ≤ x26 ∧ x26 ≤ (List.length x1 : Int) then
              let x29 : List (ByteArray) := List.drop (Int.toNat x23) (List.take (Int.toNat x26) x1)
              if (List.length x22 + List.length x29) * 16 ≤ 140737488355328 ∧ List.length x22 + List.length x29 ≤ maxLen then
               let x30 : List (ByteArray) := x22 ++ x29
               if (List.length x30 + List.length x28) * 16 ≤ 140737488355328 ∧ List.length x30 + List.length x28 ≤ maxLen then
                let x31 : List (ByteArray) := x30 ++ x28
                let x32 : (Int) × (List (ByteArray)) × (List (ByteArray)) × Unit := (x26, x27, x28, ())
                Option.bind (textpatch_End_42 (x32, ())) fun r33 =>
                 let x33 := r33.1
                 let x34 : Int := IntKind.wrap .i64 (x24 + 1)
                 some (.inl (x31, x33, x34, ()))
               else none
              else none
             else none
          let x22 : (Int) × (List (ByteArray)) × (List (ByteArray)) × Unit := (x19, x20, x21, ())
          Option.bind (textpatch_End_42 (x22, ())) fun r23 =>
           let x23 := r23.1
           let x24 : Int := (List.length x1 : Int)
           let x25 : Bool := decide ((x23 : Int) > x24)
           if x25 = true then
            j2 (x13, x14, x15, true, x19, x20, x21, ())
           else
            let x26 : (Int) × (List (ByteArray)) × (List (ByteArray)) × Unit := (x19, x20, x21, ())
            Option.bind (textpatch_End_42 (x26, ())) fun r27 =>
             let x27 := r27.1
             if 0 ≤ x19 ∧ x19 ≤ x27 ∧ x27 ≤ (List.length x1 : Int) then
              let x28 : List (ByteArray) := List.drop (Int.toNat x19) (List.take (Int.toNat x27) x1)
              Option.bind (slices_Equal___string_string__43 (x28, x20, ())) fun r29 =>
               let x29 := r29.1
               let x30 : Bool := (!x29)
               j2 (x13, x14, x15, x30, x19, x20, x21, ())
             else none
        else
         Option.map .inr (j0 (x13, x14, ())))
        (([] : List (ByteArray)), 0, 0, ())

/- changeforge/stack.Apply -/
noncomputable def stack_Apply_16 (a : (List (ByteArray)) × (List ((List ((Int) × (List (ByteArray)) × (List (ByteArray)) × Unit)) × Unit)) × Unit) : Option ((List (ByteArray)) × ((Int) × (Int) × Unit) × Unit) :=
  let x0 := a.1
  let x1 := a.2.1
  Option.bind (stack_Validate_23 (x1, ())) fun r2 =>
   let x2 := r2.1
   let x3 : Int := x2.1
   let x4 : Int := x2.2.1
   let x5 : (Int) × (Int) × Unit := (x3, x4, ())
   let x6 : (Int) × (Int) × Unit := (0, 0, ())
   let x7 : Bool := (!((x5.1 : Int) == x6.1 && ((x5.2.1 : Int) == x6.2.1 && true)))
   if x7 = true then
    let x8 : (Int) × (Int) × Unit := (x3, x4, ())
    some (([] : List (ByteArray)), x8, ())
   else
    Option.bind (lines_Code_33 (x0, ())) fun r8 =>
     let x8 := r8.1
     let x9 : Bool := ((x8 : Int) != 0)
     if x9 = true then
      let x10 : Int := x8
      let x11 : (Int) × (Int) × Unit := (x10, (-2), ())
      some (([] : List (ByteArray)), x11, ())
     else
      Option.bind (slices_Clone___string_string__34 (x0, ())) fun r10 =>
       let x10 := r10.1
       let x11 : Int := (List.length x1 : Int)
       let j0 : (List (ByteArray)) × Unit → _ := fun s0 =>
         let x12 := s0.1
         let x13 : (Int) × (Int) × Unit := (0, 0, ())
         some (x12, x13, ())
       loopC (fun (s1 : (List (ByteArray)) × (Int) × Unit) =>
         let x12 := s1.1
         let x13 := s1.2.1
         let x14 : Bool := decide ((x13 : Int) < x11)
         if x14 = true then
          atC x1 x13 fun y15 =>
           let x15 : (List ((Int) × (List (ByteArray)) × (List (ByteArray)) × Unit)) × Unit := y15
           let x16 : (List ((Int) × (List (ByteArray)) × (List (ByteArray)) × Unit)) × Unit := (x15.1, ())
           let x17 : List ((Int) × (List (ByteArray)) × (List (ByteArray)) × Unit) := x16.1
           let x18 : (List ((Int) × (List (ByteArray)) × (List (ByteArray)) × Unit)) × Unit := (x17, ())
           Option.bind (textpatch_Apply_19 (x18, x12, ())) fun r19 =>
            let x19 := r19.1
            let x20 := r19.2.1
            let x21 : Int := x20.1
            let x22 : Int := x20.2.1
            let x23 : (Int) × (Int) × Unit := (x21, x22, ())
            let x24 : (Int) × (Int) × Unit := (0, 0, ())
            let x25 : Bool := (!((x23.1 : Int) == x24.1 && ((x23.2.1 : Int) == x24.2.1 && true)))
            if x25 = true then
             let x26 : Int := x21
             let x27 : Int := x13
             let x28 : (Int) × (Int) × Unit := (x26, x27, ())
             some (.inr (([] : List (ByteArray)), x28, ()))
            else
             let x26 : Int := IntKind.wrap .i64 (x13 + 1)
             some (.inl (x19, x26, ()))
         else
          Option.map .inr (j0 (x12, ())))
         (x10, 0, ())

/- changeforge/changeforgelaw2.dropped -/
noncomputable def changeforgelaw2_dropped_15 (a : Unit) : Option ((Bool) × Unit) :=
  let x0 : List (ByteArray) := [(⟨#[97]⟩ : ByteArray)]
  Option.bind (changeforgelaw2_single_32 (0, ([] : List (ByteArray)), x0, ())) fun r1 =>
   let x1 := r1.1
   let x2 : List ((Int) × (List (ByteArray)) × (List (ByteArray)) × Unit) := x1.1
   let x3 : List (ByteArray) := [(⟨#[98]⟩ : ByteArray)]
   Option.bind (changeforgelaw2_single_32 (1, ([] : List (ByteArray)), x3, ())) fun r4 =>
    let x4 := r4.1
    let x5 : (List ((Int) × (List (ByteArray)) × (List (ByteArray)) × Unit)) × Unit := (x2, ())
    let x6 : List ((List ((Int) × (List (ByteArray)) × (List (ByteArray)) × Unit)) × Unit) := [x5, x4]
    Option.bind (stack_Drop_12 (x6, 1, ())) fun r7 =>
     let x7 := r7.1
     let x8 := r7.2.1
     let x9 := r7.2.2.1
     let x10 : Int := x9.1
     let x11 : Int := x9.2.1
     let x12 : (List ((Int) × (List (ByteArray)) × (List (ByteArray)) × Unit)) × Unit := (x2, ())
     let x13 : List ((List ((Int) × (List (ByteArray)) × (List (ByteArray)) × Unit)) × Unit) := [x12]
     Option.bind (stack_Apply_16 (([] : List (ByteArray)), x13, ())) fun r14 =>
      let x14 := r14.1
      let x15 := r14.2.1
      let x16 : Int := x15.1
      let x17 : Int := x15.2.1
      let j0 : (Bool) × Unit → _ := fun s0 =>
        let x18 := s0.1
        some (x18, ())
      let x18 : Bool := ((x10 : Int) == 0)
      if x18 = true then
       let x19 : Bool := ((x16 : Int) == 0)
       if x19 = true then
        if x8 = true then
         let x20 : (List ((Int) × (List (ByteArray)) × (List (ByteArray)) × Unit)) × Unit := (x2, ())
         let x21 : List ((List ((Int) × (List (ByteArray)) × (List (ByteArray)) × Unit)) × Unit) := [x20]
         Option.bind (changeforgeequal_Patches_14 (x7, x21, ())) fun r22 =>
          let x22 := r22.1
          if x22 = true then
           let x23 : List (ByteArray) := [(⟨#[97]⟩ : ByteArray)]
           Option.bind (changeforgeequal_Strings_17 (x14, x23, ())) fun r24 =>
            let x24 := r24.1
            j0 (x24, ())
          else
           j0 (false, ())
        else
         j0 (false, ())
       else
        j0 (false, ())
      else
       j0 (false, ())

/- changeforge/changeforgelaw2.StackMoveSameEffect -/
noncomputable def changeforgelaw2_StackMoveSameEffect_4 (a : (List (ByteArray)) × (List ((List ((Int) × (List (ByteArray)) × (List (ByteArray)) × Unit)) × Unit)) × (Int) × (Int) × Unit) : Option ((Bool) × Unit) :=
  let x0 := a.1
  let x1 := a.2.1
  let x2 := a.2.2.1
  let x3 := a.2.2.2.1
  Option.bind (stack_Move_10 (x1, x2, x3, ())) fun r4 =>
   let x4 := r4.1
   let x5 := r4.2.1
   let x6 := r4.2.2.1
   let x7 : Int := x6.1
   let x8 : Int := x6.2.1
   Option.bind (stack_Apply_16 (x0, x1, ())) fun r9 =>
    let x9 := r9.1
    let x10 := r9.2.1
    let x11 : Int := x10.1
    let x12 : Int := x10.2.1
    let j0 : (Bool) × Unit → _ := fun s0 =>
      let x13 := s0.1
      if x13 = true then
       Option.bind (changeforgelaw2_dropped_15 (())) fun r14 =>
        let x14 := r14.1
        some (x14, ())
      else
       Option.bind (stack_Apply_16 (x0, x4, ())) fun r14 =>
        let x14 := r14.1
        let x15 := r14.2.1
        let x16 : Int := x15.1
        let x17 : Int := x15.2.1
        let x18 : Bool := ((x16 : Int) == 10)
        if x18 = true then
         Option.bind (changeforgelaw2_dropped_15 (())) fun r19 =>
          let x19 := r19.1
          some (x19, ())
        else
         let j0 : (Bool) × Unit → _ := fun s0 =>
           let x19 := s0.1
           some (x19, ())
         let x19 : Bool := ((x16 : Int) == 0)
         if x19 = true then
          Option.bind (changeforgeequal_Strings_17 (x14, x9, ())) fun r20 =>
           let x20 := r20.1
           if x20 = true then
            Option.bind (changeforgelaw2_dropped_15 (())) fun r21 =>
             let x21 := r21.1
             j0 (x21, ())
           else
            j0 (false, ())
         else
          j0 (false, ())
    let x13 : Bool := ((x7 : Int) != 0)
    if x13 = true then
     j0 (true, ())
    else
     let x14 : Bool := ((x11 : Int) != 0)
     if x14 = true then
      j0 (true, ())
     else
      let x15 : Bool := (!x5)
      j0 (x15, ())

/- changeforge/changeforgelaw2.StackMoveBack -/
noncomputable def changeforgelaw2_StackMoveBack_5 (a : (List ((List ((Int) × (List (ByteArray)) × (List (ByteArray)) × Unit)) × Unit)) × (Int) × (Int) × Unit) : Option ((Bool) × Unit) :=
  let x0 := a.1
  let x1 := a.2.1
  let x2 := a.2.2.1
  Option.bind (stack_Move_10 (x0, x1, x2, ())) fun r3 =>
   let x3 := r3.1
   let x4 := r3.2.1
   let x5 := r3.2.2.1
   let x6 : Int := x5.1
   let x7 : Int := x5.2.1
   let j0 : (Bool) × Unit → _ := fun s0 =>
     let x8 := s0.1
     if x8 = true then
      Option.bind (changeforgelaw2_dropped_15 (())) fun r9 =>
       let x9 := r9.1
       some (x9, ())
     else
      Option.bind (stack_Move_10 (x3, x2, x1, ())) fun r9 =>
       let x9 := r9.1
       let x10 := r9.2.1
       let x11 := r9.2.2.1
       let x12 : Int := x11.1
       let x13 : Int := x11.2.1
       let j0 : (Bool) × Unit → _ := fun s0 =>
         let x14 := s0.1
         some (x14, ())
       let x14 : Bool := ((x12 : Int) == 0)
       if x14 = true then
        if x10 = true then
         Option.bind (changeforgeequal_Patches_14 (x9, x0, ())) fun r15 =>
          let x15 := r15.1
          if x15 = true then
           Option.bind (changeforgelaw2_dropped_15 (())) fun r16 =>
            let x16 := r16.1
            j0 (x16, ())
          else
           j0 (false, ())
        else
         j0 (false, ())
       else
        j0 (false, ())
   let x8 : Bool := ((x6 : Int) != 0)
   if x8 = true then
    j0 (true, ())
   else
    let x9 : Bool := (!x4)
    j0 (x9, ())

/- changeforge/changeforgelaw2.StackNeighbors -/
noncomputable def changeforgelaw2_StackNeighbors_6 (a : (List ((List ((Int) × (List (ByteArray)) × (List (ByteArray)) × Unit)) × Unit)) × (Int) × Unit) : Option ((Bool) × Unit) :=
  let x0 := a.1
  let x1 := a.2.1
  let x2 : Int := IntKind.wrap .i64 (x1 + 1)
  Option.bind (stack_Move_10 (x0, x1, x2, ())) fun r3 =>
   let x3 := r3.1
   let x4 := r3.2.1
   let x5 := r3.2.2.1
   let x6 : Int := x5.1
   let x7 : Int := x5.2.1
   let j0 : (Bool) × Unit → _ := fun s0 =>
     let x8 := s0.1
     if x8 = true then
      Option.bind (changeforgelaw2_dropped_15 (())) fun r9 =>
       let x9 := r9.1
       some (x9, ())
     else
      atC x0 x1 fun y9 =>
       let x9 : (List ((Int) × (List (ByteArray)) × (List (ByteArray)) × Unit)) × Unit := y9
       let x10 : (List ((Int) × (List (ByteArray)) × (List (ByteArray)) × Unit)) × Unit := (x9.1, ())
       let x11 : Int := IntKind.wrap .i64 (x1 + 1)
       atC x0 x11 fun y12 =>
        let x12 : (List ((Int) × (List (ByteArray)) × (List (ByteArray)) × Unit)) × Unit := y12
        let x13 : (List ((Int) × (List (ByteArray)) × (List (ByteArray)) × Unit)) × Unit := (x12.1, ())
        Option.bind (commute_Commute_18 (x10, x13, ())) fun r14 =>
         let x14 := r14.1
         let x15 := r14.2.1
         let x16 := r14.2.2.1
         let x17 := r14.2.2.2.1
         let x18 : List ((Int) × (List (ByteArray)) × (List (ByteArray)) × Unit) := x14.1
         let x19 : List ((Int) × (List (ByteArray)) × (List (ByteArray)) × Unit) := x15.1
         let x20 : Int := x17.1
         let x21 : Int := x17.2.1
         let j0 : (Bool) × Unit → _ := fun s0 =>
           let x22 := s0.1
           if x22 = true then
            some (false, ())
           else
            let j0 : (Bool) × Unit → _ := fun s0 =>
              let x23 := s0.1
              some (x23, ())
            let x23 : Bool := (!x4)
            if x23 = true then
             Option.bind (changeforgelaw2_dropped_15 (())) fun r24 =>
              let x24 := r24.1
              j0 (x24, ())
            else
             let x24 : List ((List ((Int) × (List (ByteArray)) × (List (ByteArray)) × Unit)) × Unit) := []
             if 0 ≤ (0 : Int) ∧ (0 : Int) ≤ x1 ∧ x1 ≤ (List.length x0 : Int) then
              let x25 : List ((List ((Int) × (List (ByteArray)) × (List (ByteArray)) × Unit)) × Unit) := List.drop (Int.toNat (0 : Int)) (List.take (Int.toNat x1) x0)
              if (List.length x24 + List.length x25) * 24 ≤ 140737488355328 ∧ List.length x24 + List.length x25 ≤ maxLen then
               let x26 : List ((List ((Int) × (List (ByteArray)) × (List (ByteArray)) × Unit)) × Unit) := x24 ++ x25
               let x27 : (List ((Int) × (List (ByteArray)) × (List (ByteArray)) × Unit)) × Unit := (x18, ())
               let x28 : (List ((Int) × (List (ByteArray)) × (List (ByteArray)) × Unit)) × Unit := (x19, ())
               let x29 : List ((List ((Int) × (List (ByteArray)) × (List (ByteArray)) × Unit)) × Unit) := [x27, x28]
               if (List.length x26 + List.length x29) * 24 ≤ 140737488355328 ∧ List.length x26 + List.length x29 ≤ maxLen then
                let x30 : List ((List ((Int) × (List (ByteArray)) × (List (ByteArray)) × Unit)) × Unit) := x26 ++ x29
                let x31 : Int := IntKind.wrap .i64 (x1 + 2)
                if 0 ≤ x31 ∧ x31 ≤ (List.length x0 : Int) ∧ (List.length x0 : Int) ≤ (List.length x0 : Int) then
                 let x32 : List ((List ((Int) × (List (ByteArray)) × (List (ByteArray)) × Unit)) × Unit) := List.drop (Int.toNat x31) (List.take (Int.toNat (List.length x0 : Int)) x0)
                 if (List.length x30 + List.length x32) * 24 ≤ 140737488355328 ∧ List.length x30 + List.length x32 ≤ maxLen then
                  let x33 : List ((List ((Int) × (List (ByteArray)) × (List (ByteArray)) × Unit)) × Unit) := x30 ++ x32
                  Option.bind (changeforgeequal_Patches_14 (x3, x33, ())) fun r34 =>
                   let x34 := r34.1
                   if x34 = true then
                    Option.bind (changeforgelaw2_dropped_15 (())) fun r35 =>
                     let x35 := r35.1
                     j0 (x35, ())
                   else
                    j0 (false, ())
                 else none
                else none
               else none
              else none
             else none
         let x22 : Bool := ((x20 : Int) != 0)
         if x22 = true then
          j0 (true, ())
         else
          let x23 : Bool := (!((x4 : Bool) == x16))
          j0 (x23, ())
   let x8 : Bool := ((x6 : Int) != 0)
   if x8 = true then
    j0 (true, ())
   else
    let x9 : Bool := decide ((x1 : Int) < 0)
    if x9 = true then
     j0 (true, ())
    else
     let x10 : Int := (List.length x0 : Int)
     let x11 : Int := IntKind.wrap .i64 (x10 - 1)
     let x12 : Bool := decide ((x1 : Int) ≥ x11)
     j0 (x12, ())

/- changeforge/changeforgelaw2.StackDropUndone -/
noncomputable def changeforgelaw2_StackDropUndone_7 (a : (List (ByteArray)) × (List ((List ((Int) × (List (ByteArray)) × (List (ByteArray)) × Unit)) × Unit)) × (Int) × Unit) : Option ((Bool) × Unit) :=
  let x0 := a.1
  let x1 := a.2.1
  let x2 := a.2.2.1
  Option.bind (stack_Drop_12 (x1, x2, ())) fun r3 =>
   let x3 := r3.1
   let x4 := r3.2.1
   let x5 := r3.2.2.1
   let x6 : Int := x5.1
   let x7 : Int := x5.2.1
   let x8 : Int := (List.length x1 : Int)
   let x9 : Int := IntKind.wrap .i64 (x8 - 1)
   Option.bind (stack_Move_10 (x1, x2, x9, ())) fun r10 =>
    let x10 := r10.1
    let x11 := r10.2.1
    let x12 := r10.2.2.1
    let x13 : Int := x12.1
    let x14 : Int := x12.2.1
    Option.bind (stack_Apply_16 (x0, x1, ())) fun r15 =>
     let x15 := r15.1
     let x16 := r15.2.1
     let x17 : Int := x16.1
     let x18 : Int := x16.2.1
     let j0 : (Bool) × Unit → _ := fun s0 =>
       let x19 := s0.1
       if x19 = true then
        Option.bind (changeforgelaw2_dropped_15 (())) fun r20 =>
         let x20 := r20.1
         some (x20, ())
       else
        Option.bind (stack_Apply_16 (x0, x3, ())) fun r20 =>
         let x20 := r20.1
         let x21 := r20.2.1
         let x22 : Int := x21.1
         let x23 : Int := x21.2.1
         let x24 : Bool := ((x22 : Int) != 0)
         if x24 = true then
          let j0 : (Bool) × Unit → _ := fun s0 =>
            let x25 := s0.1
            some (x25, ())
          let x25 : Bool := ((x22 : Int) == 10)
          if x25 = true then
           Option.bind (changeforgelaw2_dropped_15 (())) fun r26 =>
            let x26 := r26.1
            j0 (x26, ())
          else
           j0 (false, ())
         else
          let x25 : Int := (List.length x10 : Int)
          let x26 : Int := IntKind.wrap .i64 (x25 - 1)
          atC x10 x26 fun y27 =>
           let x27 : (List ((Int) × (List (ByteArray)) × (List (ByteArray)) × Unit)) × Unit := y27
           let x28 : (List ((Int) × (List (ByteArray)) × (List (ByteArray)) × Unit)) × Unit := (x27.1, ())
           Option.bind (textpatch_Apply_19 (x28, x20, ())) fun r29 =>
            let x29 := r29.1
            let x30 := r29.2.1
            let x31 : Int := x30.1
            let x32 : Int := x30.2.1
            let j0 : (Bool) × Unit → _ := fun s0 =>
              let x33 := s0.1
              some (x33, ())
            let x33 : Bool := ((x31 : Int) == 0)
            if x33 = true then
             Option.bind (changeforgeequal_Strings_17 (x29, x15, ())) fun r34 =>
              let x34 := r34.1
              if x34 = true then
               Option.bind (changeforgelaw2_dropped_15 (())) fun r35 =>
                let x35 := r35.1
                j0 (x35, ())
              else
               j0 (false, ())
            else
             j0 (false, ())
     let x19 : Bool := ((x6 : Int) != 0)
     if x19 = true then
      j0 (true, ())
     else
      let x20 : Bool := ((x13 : Int) != 0)
      if x20 = true then
       j0 (true, ())
      else
       let x21 : Bool := ((x17 : Int) != 0)
       if x21 = true then
        j0 (true, ())
       else
        let x22 : Bool := (!x4)
        if x22 = true then
         j0 (true, ())
        else
         let x23 : Bool := (!x11)
         if x23 = true then
          j0 (true, ())
         else
          let x24 : Int := (List.length x10 : Int)
          let x25 : Bool := ((x24 : Int) == 0)
          j0 (x25, ())

/- changeforge/changeforgeref1.Equal -/
noncomputable def changeforgeref1_Equal_69 (a : (List (ByteArray)) × (List (ByteArray)) × Unit) : Option ((Bool) × Unit) :=
  let x0 := a.1
  let x1 := a.2.1
  let x2 : Int := (List.length x0 : Int)
  let x3 : Int := (List.length x1 : Int)
  let x4 : Bool := ((x2 : Int) != x3)
  if x4 = true then
   some (false, ())
  else
   let j0 : Unit → _ := fun s0 =>
     some (true, ())
   loopC (fun (s1 : (Int) × Unit) =>
     let x5 := s1.1
     let x6 : Int := (List.length x0 : Int)
     let x7 : Bool := decide ((x5 : Int) < x6)
     if x7 = true then
      atC x0 x5 fun y8 =>
       let x8 : ByteArray := y8
       let x9 : ByteArray := x8
       atC x1 x5 fun y10 =>
        let x10 : ByteArray := y10
        let x11 : ByteArray := x10
        let x12 : Bool := (!(ByteArray.toList x9 == ByteArray.toList x11))
        if x12 = true then
         some (.inr (false, ()))
        else
         let x13 : Int := IntKind.wrap .i64 (x5 + 1)
         some (.inl (x13, ()))
     else
      Option.map .inr (j0 (())))
     (0, ())

/- changeforge/changeforgeref1.has -/
noncomputable def changeforgeref1_has_57 (a : (List (ByteArray)) × (Int) × (List (ByteArray)) × Unit) : Option ((Bool) × Unit) :=
  let x0 := a.1
  let x1 := a.2.1
  let x2 := a.2.2.1
  let j0 : (Bool) × Unit → _ := fun s0 =>
    let x3 := s0.1
    if x3 = true then
     some (false, ())
    else
     let x4 : Int := (List.length x2 : Int)
     let x5 : Int := IntKind.wrap .i64 (x1 + x4)
     if 0 ≤ x1 ∧ x1 ≤ x5 ∧ x5 ≤ (List.length x0 : Int) then
      let x6 : List (ByteArray) := List.drop (Int.toNat x1) (List.take (Int.toNat x5) x0)
      Option.bind (changeforgeref1_Equal_69 (x6, x2, ())) fun r7 =>
       let x7 := r7.1
       some (x7, ())
     else none
  let x3 : Bool := decide ((x1 : Int) < 0)
  if x3 = true then
   j0 (true, ())
  else
   let x4 : Int := (List.length x2 : Int)
   let x5 : Int := IntKind.wrap .i64 (x1 + x4)
   let x6 : Int := (List.length x0 : Int)
   let x7 : Bool := decide ((x5 : Int) > x6)
   j0 (x7, ())

/- changeforge/changeforgeref1.fits -/
noncomputable def changeforgeref1_fits_64 (a : ((List ((Int) × (List (ByteArray)) × (List (ByteArray)) × Unit)) × Unit) × Unit) : Option (((List ((Int) × (List (ByteArray)) × (List (ByteArray)) × Unit)) × Unit) × ((Int) × (Int) × Unit) × Unit) :=
  let x0 := a.1
  let x1 : List ((Int) × (List (ByteArray)) × (List (ByteArray)) × Unit) := x0.1
  let x2 : (List ((Int) × (List (ByteArray)) × (List (ByteArray)) × Unit)) × Unit := (x1, ())
  Option.bind (changeforgeref1_PatchFault_50 (x2, ())) fun r3 =>
   let x3 := r3.1
   let x4 : Int := x3.1
   let x5 : Bool := ((x4 : Int) != 0)
   if x5 = true then
    Option.bind (changeforgeref1_At_29 (10, (-1), ())) fun r6 =>
     let x6 := r6.1
     let x7 : Int := x6.1
     let x8 : Int := x6.2.1
     let x9 : (List ((Int) × (List (ByteArray)) × (List (ByteArray)) × Unit)) × Unit := (([] : List ((Int) × (List (ByteArray)) × (List (ByteArray)) × Unit)), ())
     let x10 : (Int) × (Int) × Unit := (x7, x8, ())
     some (x9, x10, ())
   else
    let x6 : (List ((Int) × (List (ByteArray)) × (List (ByteArray)) × Unit)) × Unit := (x1, ())
    let x7 : (Int) × (Int) × Unit := (0, 0, ())
    some (x6, x7, ())

end Go.Proofs.Ytfepfapfogpfkaa.F
end
section
/- That they do: printed by a program of ours. -/
namespace Go.Proofs.Ytfepfapfogpfkaa.F
open Go Go.Proofs.Ytfepfapfogpfkaa.V
set_option maxRecDepth 100000
set_option linter.unusedVariables false
abbrev us (n : Nat) : List SA := List.replicate n .unk

theorem strings_ContainsRune_68_ok : Fn.Ok Try.prog ⟨68, [.str, .int .i32], [.bool], strings_ContainsRune_68⟩ := by
  intro a r hr
  unfold strings_ContainsRune_68 at hr
  simp only at hr
  split at hr
  · rename_i h
    injection hr with hr; subst hr
    refine ⟨Enters.of Try.func68 (by kernel_rfl) rfl, fun M w vs hM hargs => ?_⟩
    obtain ⟨hl, hv⟩ := hargs
    match vs, hl with
    | [x, y], _ =>
      obtain rfl := (hv 0 _ x rfl rfl).str_inv
      obtain rfl := (hv 1 _ y rfl rfl).int_inv
      refine (Try.strings_ContainsRune_ascii a.1 a.2.1 w h.1 h.2).mono fun e w' ⟨h2, h3⟩ => ?_
      subst h2; subst h3
      exact ⟨_, rfl, .bool _, Go.RowKit.Below.refl _ _⟩
  · cases hr


/- unicode/utf8.ValidRune -/
def utf8_ValidRune_77_h : List (Nat × SS × Nat) := [(102, ⟨us 10 ++ [.d (.v 2)] ++ us 6, [], []⟩, 1), (24, ⟨[.d (.v 0), .unk, .unk, .d (.v 1)] ++ us 13, [], []⟩, 1)]
theorem utf8_ValidRune_77_ok : Fn.Ok Try.prog ⟨77, [(.int .i32)], [.bool], utf8_ValidRune_77⟩ :=
  Fn.of (c := ⟨Try.prog, [], [], [], utf8_ValidRune_77_h⟩) (fs := []) (gs := []) (an := [.bool, .bool, .bool, .bool, .bool, .bool]) (by kernel_rfl) Try.func77 (by kernel_rfl) (by kernel_rfl) (fun _ h => by cases h) (fun _ h => by cases h) (by kernel_rfl)


/- internal/bytealg.Cutover -/
def bytealg_Cutover_78_h : List (Nat × SS × Nat) := []
theorem bytealg_Cutover_78_ok : Fn.Ok Try.prog ⟨78, [(.int .i64)], [(.int .i64)], bytealg_Cutover_78⟩ :=
  Fn.of (c := ⟨Try.prog, [], [], [], bytealg_Cutover_78_h⟩) (fs := []) (gs := []) (an := [(.int .i64), (.int .i64)]) (by kernel_rfl) Try.func78 (by kernel_rfl) (by kernel_rfl) (fun _ h => by cases h) (fun _ h => by cases h) (by kernel_rfl)


/- changeforge/lines.Validate -/
def lines_Validate_52_h : List (Nat × SS × Nat) := [(29, ⟨[.unk, .unk, .box 2 0] ++ us 26, [(2, .cs ([.d (.k (.int .i64 0)), .d (.k (.int .i64 0))]))], []⟩, 0), (58, ⟨[.unk, .unk, .box 2 0] ++ us 6 ++ [.d (.v 0), .d (.v 3), .d (.v 4)] ++ us 17, [(2, .cs ([.d (.k (.int .i64 0)), .d (.k (.int .i64 0))]))], []⟩, 1)]
theorem lines_Validate_52_ok : Fn.Ok Try.prog ⟨52, [(.sl .str)], [(.p (.int .i64) (.p (.int .i64) .e))], lines_Validate_52⟩ :=
  Fn.of (c := ⟨Try.prog, [(68, 1)], [], [], lines_Validate_52_h⟩) (fs := [⟨68, [.str, (.int .i32)], [.bool], strings_ContainsRune_68⟩]) (gs := []) (an := [(.int .i64), .bool, (.p (.int .i64) (.p (.int .i64) .e)), (.int .i64), (.p (.int .i64) (.p (.int .i64) .e)), (.int .i64), .bool, .str, .str, (.int .i64), .bool, (.int .i64), (.p (.int .i64) (.p (.int .i64) .e)), (.int .i64), (.p (.int .i64) (.p (.int .i64) .e)), (.int .i64)]) (by kernel_rfl) Try.func52 (by kernel_rfl) (by kernel_rfl) (by simp only [List.forall_mem_cons, List.not_mem_nil, false_implies, implies_true, and_true]; exact strings_ContainsRune_68_ok) (fun _ h => by cases h) (by kernel_rfl)


/- changeforge/lines.Code -/
def lines_Code_33_h : List (Nat × SS × Nat) := []
theorem lines_Code_33_ok : Fn.Ok Try.prog ⟨33, [(.sl .str)], [(.int .i64)], lines_Code_33⟩ :=
  Fn.of (c := ⟨Try.prog, [(52, 1)], [], [], lines_Code_33_h⟩) (fs := [⟨52, [(.sl .str)], [(.p (.int .i64) (.p (.int .i64) .e))], lines_Validate_52⟩]) (gs := []) (an := [(.int .i64)]) (by kernel_rfl) Try.func33 (by kernel_rfl) (by kernel_rfl) (by simp only [List.forall_mem_cons, List.not_mem_nil, false_implies, implies_true, and_true]; exact lines_Validate_52_ok) (fun _ h => by cases h) (by kernel_rfl)


/- changeforge/textpatch.End -/
def textpatch_End_42_h : List (Nat × SS × Nat) := []
theorem textpatch_End_42_ok : Fn.Ok Try.prog ⟨42, [(.p (.int .i64) (.p (.sl .str) (.p (.sl .str) .e)))], [(.int .i64)], textpatch_End_42⟩ :=
  Fn.of (c := ⟨Try.prog, [], [], [], textpatch_End_42_h⟩) (fs := []) (gs := []) (an := [(.int .i64), (.sl .str), (.sl .str), (.int .i64), (.int .i64)]) (by kernel_rfl) Try.func42 (by kernel_rfl) (by kernel_rfl) (fun _ h => by cases h) (fun _ h => by cases h) (by kernel_rfl)


/- changeforge/textpatch.hunkCode -/
def textpatch_hunkCode_55_h : List (Nat × SS × Nat) := [(1662, ⟨[.unk, .unk, .box 2 0] ++ us 27 ++ [.d (.v 10)] ++ us 20, [(2, .cs ([.d (.v 2), .d (.v 3), .d (.v 4)]))], []⟩, 1), (24, ⟨[.unk, .d (.v 1), .box 2 0, .unk, .unk, .d (.v 5)] ++ us 45, [(2, .cs ([.d (.v 2), .d (.v 3), .d (.v 4)]))], []⟩, 1)]
theorem textpatch_hunkCode_55_ok : Fn.Ok Try.prog ⟨55, [(.p (.int .i64) (.p (.sl .str) (.p (.sl .str) .e))), (.int .i64)], [(.int .i64)], textpatch_hunkCode_55⟩ :=
  Fn.of (c := ⟨Try.prog, [(33, 1), (42, 1)], [], [], textpatch_hunkCode_55_h⟩) (fs := [⟨33, [(.sl .str)], [(.int .i64)], lines_Code_33⟩, ⟨42, [(.p (.int .i64) (.p (.sl .str) (.p (.sl .str) .e)))], [(.int .i64)], textpatch_End_42⟩]) (gs := []) (an := [(.int .i64), (.sl .str), (.sl .str), .bool, .bool, .bool, .bool, (.p (.int .i64) (.p (.sl .str) (.p (.sl .str) .e))), .bool, (.int .i64), .bool, (.int .i64), .bool, .bool, .bool, .bool, .bool]) (by kernel_rfl) Try.func55 (by kernel_rfl) (by kernel_rfl) (by simp only [List.forall_mem_cons, List.not_mem_nil, false_implies, implies_true, and_true]; exact ⟨lines_Code_33_ok, textpatch_End_42_ok⟩) (fun _ h => by cases h) (by kernel_rfl)


/- changeforge/textpatch.Validate -/
def textpatch_Validate_41_h : List (Nat × SS × Nat) := [(61, ⟨[.unk, .unk, .box 2 0] ++ us 30, [(2, .cs ([.d (.k (.int .i64 0)), .d (.k (.int .i64 0))]))], []⟩, 0), (122, ⟨[.unk, .unk, .box 2 0, .d (.v 5)] ++ us 9 ++ [.d (.v 1), .d (.v 4), .d (.v 6)] ++ us 17, [(2, .cs ([.d (.k (.int .i64 0)), .d (.k (.int .i64 0))]))], []⟩, 2)]
theorem textpatch_Validate_41_ok : Fn.Ok Try.prog ⟨41, [(.p (.sl (.p (.int .i64) (.p (.sl .str) (.p (.sl .str) .e)))) .e)], [(.p (.int .i64) (.p (.int .i64) .e))], textpatch_Validate_41⟩ :=
  Fn.of (c := ⟨Try.prog, [(55, 1), (42, 1)], [], [], textpatch_Validate_41_h⟩) (fs := [⟨55, [(.p (.int .i64) (.p (.sl .str) (.p (.sl .str) .e))), (.int .i64)], [(.int .i64)], textpatch_hunkCode_55⟩, ⟨42, [(.p (.int .i64) (.p (.sl .str) (.p (.sl .str) .e)))], [(.int .i64)], textpatch_End_42⟩]) (gs := []) (an := [(.sl (.p (.int .i64) (.p (.sl .str) (.p (.sl .str) .e)))), (.int .i64), .bool, (.p (.int .i64) (.p (.int .i64) .e)), (.int .i64), (.p (.int .i64) (.p (.int .i64) .e)), (.int .i64), (.int .i64), .bool, (.p (.int .i64) (.p (.sl .str) (.p (.sl .str) .e))), (.p (.int .i64) (.p (.sl .str) (.p (.sl .str) .e))), (.int .i64), (.sl .str), (.sl .str), (.p (.int .i64) (.p (.sl .str) (.p (.sl .str) .e))), .bool, (.int .i64), (.int .i64), (.p (.int .i64) (.p (.int .i64) .e)), (.p (.int .i64) (.p (.sl .str) (.p (.sl .str) .e))), (.int .i64), (.int .i64)]) (by kernel_rfl) Try.func41 (by kernel_rfl) (by kernel_rfl) (by simp only [List.forall_mem_cons, List.not_mem_nil, false_implies, implies_true, and_true]; exact ⟨textpatch_hunkCode_55_ok, textpatch_End_42_ok⟩) (fun _ h => by cases h) (by kernel_rfl)


/- changeforge/stack.Validate -/
def stack_Validate_23_h : List (Nat × SS × Nat) := [(29, ⟨[.unk, .unk, .box 2 0] ++ us 25, [(2, .cs ([.d (.k (.int .i64 0)), .d (.k (.int .i64 0))]))], []⟩, 0), (58, ⟨[.unk, .unk, .box 2 0] ++ us 7 ++ [.d (.v 0), .d (.v 3), .d (.v 4)] ++ us 15, [(2, .cs ([.d (.k (.int .i64 0)), .d (.k (.int .i64 0))]))], []⟩, 1)]
theorem stack_Validate_23_ok : Fn.Ok Try.prog ⟨23, [(.sl (.p (.sl (.p (.int .i64) (.p (.sl .str) (.p (.sl .str) .e)))) .e))], [(.p (.int .i64) (.p (.int .i64) .e))], stack_Validate_23⟩ :=
  Fn.of (c := ⟨Try.prog, [(41, 1)], [], [], stack_Validate_23_h⟩) (fs := [⟨41, [(.p (.sl (.p (.int .i64) (.p (.sl .str) (.p (.sl .str) .e)))) .e)], [(.p (.int .i64) (.p (.int .i64) .e))], textpatch_Validate_41⟩]) (gs := []) (an := [(.int .i64), .bool, (.p (.int .i64) (.p (.int .i64) .e)), (.int .i64), (.p (.int .i64) (.p (.int .i64) .e)), (.int .i64), .bool, (.p (.sl (.p (.int .i64) (.p (.sl .str) (.p (.sl .str) .e)))) .e), (.p (.sl (.p (.int .i64) (.p (.sl .str) (.p (.sl .str) .e)))) .e), (.sl (.p (.int .i64) (.p (.sl .str) (.p (.sl .str) .e)))), (.p (.sl (.p (.int .i64) (.p (.sl .str) (.p (.sl .str) .e)))) .e), (.int .i64), (.int .i64), (.p (.int .i64) (.p (.int .i64) .e)), (.p (.int .i64) (.p (.int .i64) .e)), .bool, (.int .i64), (.int .i64), (.p (.int .i64) (.p (.int .i64) .e)), (.int .i64)]) (by kernel_rfl) Try.func23 (by kernel_rfl) (by kernel_rfl) (by simp only [List.forall_mem_cons, List.not_mem_nil, false_implies, implies_true, and_true]; exact textpatch_Validate_41_ok) (fun _ h => by cases h) (by kernel_rfl)


/- changeforge/stack.position -/
def stack_position_24_h : List (Nat × SS × Nat) := [(12, ⟨[.unk, .unk, .d (.v 2), .unk, .unk, .unk, .box 6 0] ++ us 7 ++ [.d (.v 3)] ++ us 3, [(6, .cs ([.d (.k (.int .i64 0)), .d (.k (.int .i64 0))]))], []⟩, 1)]
theorem stack_position_24_ok : Fn.Ok Try.prog ⟨24, [(.sl (.p (.sl (.p (.int .i64) (.p (.sl .str) (.p (.sl .str) .e)))) .e)), (.int .i64), (.int .i64)], [(.p (.int .i64) (.p (.int .i64) .e))], stack_position_24⟩ :=
  Fn.of (c := ⟨Try.prog, [], [], [], stack_position_24_h⟩) (fs := []) (gs := []) (an := [.bool, (.int .i64), (.p (.int .i64) (.p (.int .i64) .e)), (.p (.int .i64) (.p (.int .i64) .e)), .bool, (.int .i64), .bool]) (by kernel_rfl) Try.func24 (by kernel_rfl) (by kernel_rfl) (fun _ h => by cases h) (fun _ h => by cases h) (by kernel_rfl)


/- slices.Clone[[]string,string] -/
def slices_Clone___string_string__34_h : List (Nat × SS × Nat) := []
theorem slices_Clone___string_string__34_ok : Fn.Ok Try.prog ⟨34, [(.sl .str)], [(.sl .str)], slices_Clone___string_string__34⟩ :=
  Fn.of (c := ⟨Try.prog, [], [], [], slices_Clone___string_string__34_h⟩) (fs := []) (gs := []) (an := [(.sl .str), (.sl .str)]) (by kernel_rfl) Try.func34 (by kernel_rfl) (by kernel_rfl) (fun _ h => by cases h) (fun _ h => by cases h) (by kernel_rfl)


/- changeforge/textpatch.Moved -/
def textpatch_Moved_49_h : List (Nat × SS × Nat) := []
theorem textpatch_Moved_49_ok : Fn.Ok Try.prog ⟨49, [(.p (.int .i64) (.p (.sl .str) (.p (.sl .str) .e))), (.int .i64)], [(.p (.int .i64) (.p (.sl .str) (.p (.sl .str) .e)))], textpatch_Moved_49⟩ :=
  Fn.of (c := ⟨Try.prog, [(34, 1)], [], [], textpatch_Moved_49_h⟩) (fs := [⟨34, [(.sl .str)], [(.sl .str)], slices_Clone___string_string__34⟩]) (gs := []) (an := [(.int .i64), (.sl .str), (.sl .str), (.int .i64), (.sl .str), (.sl .str), (.p (.int .i64) (.p (.sl .str) (.p (.sl .str) .e)))]) (by kernel_rfl) Try.func49 (by kernel_rfl) (by kernel_rfl) (by simp only [List.forall_mem_cons, List.not_mem_nil, false_implies, implies_true, and_true]; exact slices_Clone___string_string__34_ok) (fun _ h => by cases h) (by kernel_rfl)


/- changeforge/stack.clone -/
def stack_clone_25_h : List (Nat × SS × Nat) := [(29, ⟨[.unk, .unk, .unk, .row 35 38 1 (.l 2)] ++ us 34, [(35, .row 2 1)], [.t 29]⟩, 1), (29901, ⟨[.unk, .unk, .unk, .row 35 38 1 (.l 9), .unk, .unk, .box 6 0, .unk, .unk, .d (.v 0), .d (.v 1), .d (.v 10)] ++ us 26, [(35, .row 9 1), (6, .cs ([.grow 66 3 11]))], [.t 29]⟩, 3), (59802, ⟨[.unk, .unk, .unk, .row 35 38 1 (.l 9), .unk, .unk, .box 6 0, .unk, .unk, .d (.v 0), .d (.v 1), .d (.v 10)] ++ us 4 ++ [.d (.v 11), .d (.v 12), .d (.v 13)] ++ us 19, [(35, .row 9 1), (6, .cs ([.grow 66 3 14]))], [.t 29]⟩, 6), (58, ⟨[.unk, .unk, .unk, .row 35 38 1 (.l 2)] ++ us 5 ++ [.d (.v 0), .d (.v 1), .d (.v 3)] ++ us 26, [(35, .row 2 1)], [.t 29]⟩, 2)]
def stack_clone_25_g : Sg := ⟨25, [.d (.v 0)], [], 1, [.row 35 38 1 (.l 0)], [(35, .row 0 1)], 1, []⟩
theorem stack_clone_25_ok : Gn.Ok Try.prog ⟨stack_clone_25_g, [(.sl (.p (.sl (.p (.int .i64) (.p (.sl .str) (.p (.sl .str) .e)))) .e))], [(.sl (.p (.sl (.p (.int .i64) (.p (.sl .str) (.p (.sl .str) .e)))) .e))], stack_clone_25⟩ :=
  Gn.of' (c := ⟨Try.prog, [(49, 1)], [], [35], stack_clone_25_h⟩) (fs := [⟨49, [(.p (.int .i64) (.p (.sl .str) (.p (.sl .str) .e))), (.int .i64)], [(.p (.int .i64) (.p (.sl .str) (.p (.sl .str) .e)))], textpatch_Moved_49⟩]) (gs := []) (an := [(.int .i64), (.sl (.p (.sl (.p (.int .i64) (.p (.sl .str) (.p (.sl .str) .e)))) .e)), (.sl (.p (.sl (.p (.int .i64) (.p (.sl .str) (.p (.sl .str) .e)))) .e)), (.int .i64), .bool, (.p (.sl (.p (.int .i64) (.p (.sl .str) (.p (.sl .str) .e)))) .e), (.p (.sl (.p (.int .i64) (.p (.sl .str) (.p (.sl .str) .e)))) .e), (.sl (.p (.int .i64) (.p (.sl .str) (.p (.sl .str) .e)))), (.int .i64), (.sl (.p (.sl (.p (.int .i64) (.p (.sl .str) (.p (.sl .str) .e)))) .e)), (.int .i64), (.sl (.p (.int .i64) (.p (.sl .str) (.p (.sl .str) .e)))), (.p (.sl (.p (.int .i64) (.p (.sl .str) (.p (.sl .str) .e)))) .e), (.sl (.p (.sl (.p (.int .i64) (.p (.sl .str) (.p (.sl .str) .e)))) .e)), (.sl (.p (.sl (.p (.int .i64) (.p (.sl .str) (.p (.sl .str) .e)))) .e)), (.int .i64), (.sl (.p (.sl (.p (.int .i64) (.p (.sl .str) (.p (.sl .str) .e)))) .e)), (.int .i64), (.sl (.p (.int .i64) (.p (.sl .str) (.p (.sl .str) .e)))), (.int .i64), (.int .i64), (.sl (.p (.int .i64) (.p (.sl .str) (.p (.sl .str) .e)))), .bool, (.p (.int .i64) (.p (.sl .str) (.p (.sl .str) .e))), (.p (.int .i64) (.p (.sl .str) (.p (.sl .str) .e))), (.int .i64), (.sl .str), (.sl .str), (.p (.int .i64) (.p (.sl .str) (.p (.sl .str) .e))), (.sl (.p (.int .i64) (.p (.sl .str) (.p (.sl .str) .e)))), (.sl (.p (.int .i64) (.p (.sl .str) (.p (.sl .str) .e)))), (.int .i64)]) (by kernel_rfl) Try.func25 (by kernel_rfl) (by kernel_rfl) (by simp only [List.forall_mem_cons, List.not_mem_nil, false_implies, implies_true, and_true]; exact textpatch_Moved_49_ok) (fun _ h => by cases h) (by kernel_rfl)


/- changeforge/commute.check -/
def commute_check_35_h : List (Nat × SS × Nat) := []
theorem commute_check_35_ok : Fn.Ok Try.prog ⟨35, [(.p (.sl (.p (.int .i64) (.p (.sl .str) (.p (.sl .str) .e)))) .e), (.p (.sl (.p (.int .i64) (.p (.sl .str) (.p (.sl .str) .e)))) .e)], [(.p (.int .i64) (.p (.int .i64) .e))], commute_check_35⟩ :=
  Fn.of (c := ⟨Try.prog, [(41, 1)], [], [], commute_check_35_h⟩) (fs := [⟨41, [(.p (.sl (.p (.int .i64) (.p (.sl .str) (.p (.sl .str) .e)))) .e)], [(.p (.int .i64) (.p (.int .i64) .e))], textpatch_Validate_41⟩]) (gs := []) (an := [(.sl (.p (.int .i64) (.p (.sl .str) (.p (.sl .str) .e)))), (.sl (.p (.int .i64) (.p (.sl .str) (.p (.sl .str) .e)))), (.p (.sl (.p (.int .i64) (.p (.sl .str) (.p (.sl .str) .e)))) .e), (.int .i64), (.int .i64), (.p (.int .i64) (.p (.int .i64) .e)), (.p (.int .i64) (.p (.int .i64) .e)), .bool, (.p (.int .i64) (.p (.int .i64) .e)), (.p (.sl (.p (.int .i64) (.p (.sl .str) (.p (.sl .str) .e)))) .e), (.int .i64), (.int .i64), (.p (.int .i64) (.p (.int .i64) .e)), (.p (.int .i64) (.p (.int .i64) .e)), .bool, (.int .i64), (.p (.int .i64) (.p (.int .i64) .e)), (.p (.int .i64) (.p (.int .i64) .e))]) (by kernel_rfl) Try.func35 (by kernel_rfl) (by kernel_rfl) (by simp only [List.forall_mem_cons, List.not_mem_nil, false_implies, implies_true, and_true]; exact textpatch_Validate_41_ok) (fun _ h => by cases h) (by kernel_rfl)


/- changeforge/commute.news -/
def commute_news_37_h : List (Nat × SS × Nat) := [(61, ⟨[.unk, .unk, .unk, .grow 73 2 3] ++ us 37, [], [.t 29]⟩, 1), (122, ⟨[.unk, .unk, .unk, .grow 73 2 3, .d (.v 4), .unk, .unk, .unk, .d (.v 1), .d (.v 2), .d (.v 5)] ++ us 30, [], [.t 29]⟩, 3)]
theorem commute_news_37_ok : Fn.Ok Try.prog ⟨37, [(.p (.sl (.p (.int .i64) (.p (.sl .str) (.p (.sl .str) .e)))) .e)], [(.sl (.p (.int .i64) (.p (.int .i64) .e)))], commute_news_37⟩ :=
  Fn.of (c := ⟨Try.prog, [], [], [], commute_news_37_h⟩) (fs := []) (gs := []) (an := [(.sl (.p (.int .i64) (.p (.sl .str) (.p (.sl .str) .e)))), (.int .i64), (.sl (.p (.int .i64) (.p (.int .i64) .e))), (.sl (.p (.int .i64) (.p (.int .i64) .e))), (.int .i64), (.int .i64), .bool, (.p (.int .i64) (.p (.sl .str) (.p (.sl .str) .e))), (.p (.int .i64) (.p (.sl .str) (.p (.sl .str) .e))), (.int .i64), (.sl .str), (.sl .str), (.int .i64), (.int .i64), (.int .i64), (.int .i64), (.int .i64), (.int .i64), (.p (.int .i64) (.p (.int .i64) .e)), (.sl (.p (.int .i64) (.p (.int .i64) .e))), (.sl (.p (.int .i64) (.p (.int .i64) .e))), (.int .i64), (.int .i64), (.int .i64), (.int .i64), (.int .i64)]) (by kernel_rfl) Try.func37 (by kernel_rfl) (by kernel_rfl) (fun _ h => by cases h) (fun _ h => by cases h) (by kernel_rfl)


/- changeforge/commute.olds -/
def commute_olds_38_h : List (Nat × SS × Nat) := [(29, ⟨[.unk, .unk, .unk, .grow 73 2 3] ++ us 19, [], [.t 20]⟩, 1), (58, ⟨[.unk, .unk, .unk, .grow 73 2 3, .unk, .unk, .unk, .d (.v 1), .d (.v 2), .d (.v 4)] ++ us 13, [], [.t 20]⟩, 2)]
theorem commute_olds_38_ok : Fn.Ok Try.prog ⟨38, [(.p (.sl (.p (.int .i64) (.p (.sl .str) (.p (.sl .str) .e)))) .e)], [(.sl (.p (.int .i64) (.p (.int .i64) .e)))], commute_olds_38⟩ :=
  Fn.of (c := ⟨Try.prog, [(42, 1)], [], [], commute_olds_38_h⟩) (fs := [⟨42, [(.p (.int .i64) (.p (.sl .str) (.p (.sl .str) .e)))], [(.int .i64)], textpatch_End_42⟩]) (gs := []) (an := [(.sl (.p (.int .i64) (.p (.sl .str) (.p (.sl .str) .e)))), (.int .i64), (.sl (.p (.int .i64) (.p (.int .i64) .e))), (.sl (.p (.int .i64) (.p (.int .i64) .e))), (.int .i64), .bool, (.p (.int .i64) (.p (.sl .str) (.p (.sl .str) .e))), (.p (.int .i64) (.p (.sl .str) (.p (.sl .str) .e))), (.int .i64), (.sl .str), (.sl .str), (.p (.int .i64) (.p (.sl .str) (.p (.sl .str) .e))), (.int .i64), (.int .i64), (.p (.int .i64) (.p (.int .i64) .e)), (.sl (.p (.int .i64) (.p (.int .i64) .e))), (.sl (.p (.int .i64) (.p (.int .i64) .e))), (.int .i64)]) (by kernel_rfl) Try.func38 (by kernel_rfl) (by kernel_rfl) (by simp only [List.forall_mem_cons, List.not_mem_nil, false_implies, implies_true, and_true]; exact textpatch_End_42_ok) (fun _ h => by cases h) (by kernel_rfl)


/- changeforge/commute.apart -/
def commute_apart_53_h : List (Nat × SS × Nat) := [(6, ⟨us 4 ++ [.d (.v 6)] ++ us 12, [], []⟩, 1)]
theorem commute_apart_53_ok : Fn.Ok Try.prog ⟨53, [(.p (.int .i64) (.p (.int .i64) .e)), (.p (.int .i64) (.p (.int .i64) .e))], [.bool], commute_apart_53⟩ :=
  Fn.of (c := ⟨Try.prog, [], [], [], commute_apart_53_h⟩) (fs := []) (gs := []) (an := [(.int .i64), (.int .i64), (.int .i64), (.int .i64), .bool, .bool, .bool]) (by kernel_rfl) Try.func53 (by kernel_rfl) (by kernel_rfl) (fun _ h => by cases h) (fun _ h => by cases h) (by kernel_rfl)


/- changeforge/commute.independent -/
def commute_independent_36_h : List (Nat × SS × Nat) := [(13, ⟨us 27, [], []⟩, 0), (422, ⟨[.unk, .d (.v 1)] ++ us 7 ++ [.d (.v 0), .d (.v 2), .d (.v 5)] ++ us 15, [], []⟩, 1), (3379, ⟨[.unk, .d (.v 1)] ++ us 7 ++ [.d (.v 0), .d (.v 2), .d (.v 10)] ++ us 15, [], []⟩, 1), (6758, ⟨[.unk, .d (.v 1)] ++ us 4 ++ [.box 6 0, .unk, .unk, .d (.v 0), .d (.v 2), .d (.v 10), .unk, .unk, .unk, .d (.v 1), .d (.v 11), .d (.v 12)] ++ us 9, [(6, .cs ([.d (.v 13), .d (.v 14)]))], []⟩, 5), (26, ⟨[.unk, .d (.v 1)] ++ us 7 ++ [.d (.v 0), .d (.v 2), .d (.v 3)] ++ us 15, [], []⟩, 1)]
theorem commute_independent_36_ok : Fn.Ok Try.prog ⟨36, [(.sl (.p (.int .i64) (.p (.int .i64) .e))), (.sl (.p (.int .i64) (.p (.int .i64) .e)))], [.bool], commute_independent_36⟩ :=
  Fn.of (c := ⟨Try.prog, [(53, 1)], [], [], commute_independent_36_h⟩) (fs := [⟨53, [(.p (.int .i64) (.p (.int .i64) .e)), (.p (.int .i64) (.p (.int .i64) .e))], [.bool], commute_apart_53⟩]) (gs := []) (an := [(.int .i64), (.int .i64), .bool, (.int .i64), (.int .i64), (.p (.int .i64) (.p (.int .i64) .e)), (.p (.int .i64) (.p (.int .i64) .e)), (.int .i64), (.int .i64), (.int .i64), (.int .i64), (.int .i64), (.int .i64), (.int .i64), (.int .i64), (.int .i64), .bool, (.p (.int .i64) (.p (.int .i64) .e)), (.p (.int .i64) (.p (.int .i64) .e)), (.int .i64), (.int .i64), (.p (.int .i64) (.p (.int .i64) .e)), (.p (.int .i64) (.p (.int .i64) .e)), .bool, (.int .i64)]) (by kernel_rfl) Try.func36 (by kernel_rfl) (by kernel_rfl) (by simp only [List.forall_mem_cons, List.not_mem_nil, false_implies, implies_true, and_true]; exact commute_apart_53_ok) (fun _ h => by cases h) (by kernel_rfl)


/- changeforge/commute.growth -/
def commute_growth_54_h : List (Nat × SS × Nat) := [(29, ⟨us 7 ++ [.d (.v 5)] ++ us 28, [], []⟩, 1), (934, ⟨[.unk, .d (.v 1), .d (.v 2)] ++ us 4 ++ [.d (.v 8), .unk, .unk, .unk, .d (.v 3), .d (.v 4), .d (.v 9)] ++ us 22, [], []⟩, 2), (7475, ⟨[.unk, .d (.v 1), .d (.v 2)] ++ us 4 ++ [.d (.v 16), .unk, .unk, .unk, .d (.v 3), .d (.v 4), .d (.v 17)] ++ us 22, [], []⟩, 2), (58, ⟨[.unk, .d (.v 1), .d (.v 2)] ++ us 4 ++ [.d (.v 5), .unk, .unk, .unk, .d (.v 3), .d (.v 4), .d (.v 6)] ++ us 22, [], []⟩, 2)]
theorem commute_growth_54_ok : Fn.Ok Try.prog ⟨54, [(.p (.sl (.p (.int .i64) (.p (.sl .str) (.p (.sl .str) .e)))) .e), (.sl (.p (.int .i64) (.p (.int .i64) .e))), (.int .i64)], [(.int .i64)], commute_growth_54⟩ :=
  Fn.of (c := ⟨Try.prog, [], [], [], commute_growth_54_h⟩) (fs := []) (gs := []) (an := [(.sl (.p (.int .i64) (.p (.sl .str) (.p (.sl .str) .e)))), (.int .i64), (.int .i64), (.int .i64), (.int .i64), .bool, (.int .i64), (.int .i64), (.int .i64), (.p (.int .i64) (.p (.sl .str) (.p (.sl .str) .e))), (.p (.int .i64) (.p (.sl .str) (.p (.sl .str) .e))), (.int .i64), (.sl .str), (.sl .str), (.p (.int .i64) (.p (.int .i64) .e)), (.int .i64), .bool, (.int .i64), (.int .i64), (.int .i64), (.int .i64), (.int .i64), (.int .i64)]) (by kernel_rfl) Try.func54 (by kernel_rfl) (by kernel_rfl) (fun _ h => by cases h) (fun _ h => by cases h) (by kernel_rfl)


/- changeforge/commute.shifted -/
def commute_shifted_40_h : List (Nat × SS × Nat) := [(29, ⟨us 8 ++ [.box 8 0, .box 9 0] ++ us 28, [(8, .cs ([.d (.k (.nil))])), (9, .cs ([.grow 66 3 7]))], [.t 34]⟩, 1), (58, ⟨[.unk, .unk, .d (.v 2), .d (.v 3), .unk, .box 5 0, .unk, .unk, .box 8 0, .box 9 0, .unk, .unk, .unk, .d (.v 4), .d (.v 6), .d (.v 7)] ++ us 22, [(5, .cs ([.d (.v 5)])), (8, .cs ([.d (.k (.nil))])), (9, .cs ([.grow 66 3 8]))], [.t 34]⟩, 2)]
theorem commute_shifted_40_ok : Fn.Ok Try.prog ⟨40, [(.p (.sl (.p (.int .i64) (.p (.sl .str) (.p (.sl .str) .e)))) .e), (.p (.sl (.p (.int .i64) (.p (.sl .str) (.p (.sl .str) .e)))) .e), (.sl (.p (.int .i64) (.p (.int .i64) .e))), (.int .i64)], [(.p (.sl (.p (.int .i64) (.p (.sl .str) (.p (.sl .str) .e)))) .e)], commute_shifted_40⟩ :=
  Fn.of (c := ⟨Try.prog, [(54, 1), (49, 1)], [], [], commute_shifted_40_h⟩) (fs := [⟨54, [(.p (.sl (.p (.int .i64) (.p (.sl .str) (.p (.sl .str) .e)))) .e), (.sl (.p (.int .i64) (.p (.int .i64) .e))), (.int .i64)], [(.int .i64)], commute_growth_54⟩, ⟨49, [(.p (.int .i64) (.p (.sl .str) (.p (.sl .str) .e))), (.int .i64)], [(.p (.int .i64) (.p (.sl .str) (.p (.sl .str) .e)))], textpatch_Moved_49⟩]) (gs := []) (an := [(.sl (.p (.int .i64) (.p (.sl .str) (.p (.sl .str) .e)))), (.sl (.p (.int .i64) (.p (.sl .str) (.p (.sl .str) .e)))), (.int .i64), (.sl (.p (.int .i64) (.p (.sl .str) (.p (.sl .str) .e)))), (.p (.sl (.p (.int .i64) (.p (.sl .str) (.p (.sl .str) .e)))) .e), (.int .i64), (.sl (.p (.int .i64) (.p (.sl .str) (.p (.sl .str) .e)))), .bool, (.p (.int .i64) (.p (.sl .str) (.p (.sl .str) .e))), (.p (.int .i64) (.p (.sl .str) (.p (.sl .str) .e))), (.int .i64), (.sl .str), (.sl .str), (.p (.sl (.p (.int .i64) (.p (.sl .str) (.p (.sl .str) .e)))) .e), (.int .i64), (.int .i64), (.p (.int .i64) (.p (.sl .str) (.p (.sl .str) .e))), (.sl (.p (.int .i64) (.p (.sl .str) (.p (.sl .str) .e)))), (.sl (.p (.int .i64) (.p (.sl .str) (.p (.sl .str) .e)))), (.int .i64)]) (by kernel_rfl) Try.func40 (by kernel_rfl) (by kernel_rfl) (by simp only [List.forall_mem_cons, List.not_mem_nil, false_implies, implies_true, and_true]; exact ⟨commute_growth_54_ok, textpatch_Moved_49_ok⟩) (fun _ h => by cases h) (by kernel_rfl)


end Go.Proofs.Ytfepfapfogpfkaa.F
end
section
/- That they do: printed by a program of ours. -/
namespace Go.Proofs.Ytfepfapfogpfkaa.F
open Go Go.Proofs.Ytfepfapfogpfkaa.V
set_option maxRecDepth 100000
set_option linter.unusedVariables false

/- changeforge/textpatch.Fit -/
def textpatch_Fit_39_h : List (Nat × SS × Nat) := []
theorem textpatch_Fit_39_ok : Fn.Ok Try.prog ⟨39, [(.p (.sl (.p (.int .i64) (.p (.sl .str) (.p (.sl .str) .e)))) .e)], [(.p (.sl (.p (.int .i64) (.p (.sl .str) (.p (.sl .str) .e)))) .e), (.p (.int .i64) (.p (.int .i64) .e))], textpatch_Fit_39⟩ :=
  Fn.of (c := ⟨Try.prog, [(41, 1)], [], [], textpatch_Fit_39_h⟩) (fs := [⟨41, [(.p (.sl (.p (.int .i64) (.p (.sl .str) (.p (.sl .str) .e)))) .e)], [(.p (.int .i64) (.p (.int .i64) .e))], textpatch_Validate_41⟩]) (gs := []) (an := [(.sl (.p (.int .i64) (.p (.sl .str) (.p (.sl .str) .e)))), (.p (.sl (.p (.int .i64) (.p (.sl .str) (.p (.sl .str) .e)))) .e), (.p (.int .i64) (.p (.int .i64) .e)), .bool, (.p (.sl (.p (.int .i64) (.p (.sl .str) (.p (.sl .str) .e)))) .e), (.p (.int .i64) (.p (.int .i64) .e)), (.p (.sl (.p (.int .i64) (.p (.sl .str) (.p (.sl .str) .e)))) .e), (.p (.int .i64) (.p (.int .i64) .e))]) (by kernel_rfl) Try.func39 (by kernel_rfl) (by kernel_rfl) (by simp only [List.forall_mem_cons, List.not_mem_nil, false_implies, implies_true, and_true]; exact textpatch_Validate_41_ok) (fun _ h => by cases h) (by kernel_rfl)


/- changeforge/commute.Commute -/
def commute_Commute_18_h : List (Nat × SS × Nat) := []
theorem commute_Commute_18_ok : Fn.Ok Try.prog ⟨18, [(.p (.sl (.p (.int .i64) (.p (.sl .str) (.p (.sl .str) .e)))) .e), (.p (.sl (.p (.int .i64) (.p (.sl .str) (.p (.sl .str) .e)))) .e)], [(.p (.sl (.p (.int .i64) (.p (.sl .str) (.p (.sl .str) .e)))) .e), (.p (.sl (.p (.int .i64) (.p (.sl .str) (.p (.sl .str) .e)))) .e), .bool, (.p (.int .i64) (.p (.int .i64) .e))], commute_Commute_18⟩ :=
  Fn.of (c := ⟨Try.prog, [(35, 1), (37, 1), (38, 1), (36, 1), (40, 1), (39, 2)], [], [], commute_Commute_18_h⟩) (fs := [⟨35, [(.p (.sl (.p (.int .i64) (.p (.sl .str) (.p (.sl .str) .e)))) .e), (.p (.sl (.p (.int .i64) (.p (.sl .str) (.p (.sl .str) .e)))) .e)], [(.p (.int .i64) (.p (.int .i64) .e))], commute_check_35⟩, ⟨37, [(.p (.sl (.p (.int .i64) (.p (.sl .str) (.p (.sl .str) .e)))) .e)], [(.sl (.p (.int .i64) (.p (.int .i64) .e)))], commute_news_37⟩, ⟨38, [(.p (.sl (.p (.int .i64) (.p (.sl .str) (.p (.sl .str) .e)))) .e)], [(.sl (.p (.int .i64) (.p (.int .i64) .e)))], commute_olds_38⟩, ⟨36, [(.sl (.p (.int .i64) (.p (.int .i64) .e))), (.sl (.p (.int .i64) (.p (.int .i64) .e)))], [.bool], commute_independent_36⟩, ⟨40, [(.p (.sl (.p (.int .i64) (.p (.sl .str) (.p (.sl .str) .e)))) .e), (.p (.sl (.p (.int .i64) (.p (.sl .str) (.p (.sl .str) .e)))) .e), (.sl (.p (.int .i64) (.p (.int .i64) .e))), (.int .i64)], [(.p (.sl (.p (.int .i64) (.p (.sl .str) (.p (.sl .str) .e)))) .e)], commute_shifted_40⟩, ⟨39, [(.p (.sl (.p (.int .i64) (.p (.sl .str) (.p (.sl .str) .e)))) .e)], [(.p (.sl (.p (.int .i64) (.p (.sl .str) (.p (.sl .str) .e)))) .e), (.p (.int .i64) (.p (.int .i64) .e))], textpatch_Fit_39⟩]) (gs := []) (an := [(.sl (.p (.int .i64) (.p (.sl .str) (.p (.sl .str) .e)))), (.sl (.p (.int .i64) (.p (.sl .str) (.p (.sl .str) .e)))), (.p (.sl (.p (.int .i64) (.p (.sl .str) (.p (.sl .str) .e)))) .e), (.p (.sl (.p (.int .i64) (.p (.sl .str) (.p (.sl .str) .e)))) .e), (.int .i64), (.int .i64), (.p (.int .i64) (.p (.int .i64) .e)), (.p (.int .i64) (.p (.int .i64) .e)), .bool, (.p (.sl (.p (.int .i64) (.p (.sl .str) (.p (.sl .str) .e)))) .e), (.p (.sl (.p (.int .i64) (.p (.sl .str) (.p (.sl .str) .e)))) .e), (.p (.int .i64) (.p (.int .i64) .e)), (.p (.sl (.p (.int .i64) (.p (.sl .str) (.p (.sl .str) .e)))) .e), (.p (.sl (.p (.int .i64) (.p (.sl .str) (.p (.sl .str) .e)))) .e), .bool, (.p (.sl (.p (.int .i64) (.p (.sl .str) (.p (.sl .str) .e)))) .e), (.p (.sl (.p (.int .i64) (.p (.sl .str) (.p (.sl .str) .e)))) .e), (.p (.int .i64) (.p (.int .i64) .e)), (.p (.sl (.p (.int .i64) (.p (.sl .str) (.p (.sl .str) .e)))) .e), (.p (.sl (.p (.int .i64) (.p (.sl .str) (.p (.sl .str) .e)))) .e), (.p (.sl (.p (.int .i64) (.p (.sl .str) (.p (.sl .str) .e)))) .e), (.sl (.p (.int .i64) (.p (.sl .str) (.p (.sl .str) .e)))), (.int .i64), (.int .i64), (.p (.int .i64) (.p (.int .i64) .e)), (.p (.int .i64) (.p (.int .i64) .e)), .bool, (.p (.sl (.p (.int .i64) (.p (.sl .str) (.p (.sl .str) .e)))) .e), (.p (.sl (.p (.int .i64) (.p (.sl .str) (.p (.sl .str) .e)))) .e), (.p (.int .i64) (.p (.int .i64) .e)), (.p (.sl (.p (.int .i64) (.p (.sl .str) (.p (.sl .str) .e)))) .e), (.p (.sl (.p (.int .i64) (.p (.sl .str) (.p (.sl .str) .e)))) .e), (.p (.sl (.p (.int .i64) (.p (.sl .str) (.p (.sl .str) .e)))) .e), (.sl (.p (.int .i64) (.p (.sl .str) (.p (.sl .str) .e)))), (.int .i64), (.int .i64), (.p (.int .i64) (.p (.int .i64) .e)), (.p (.int .i64) (.p (.int .i64) .e)), .bool, (.p (.sl (.p (.int .i64) (.p (.sl .str) (.p (.sl .str) .e)))) .e), (.p (.sl (.p (.int .i64) (.p (.sl .str) (.p (.sl .str) .e)))) .e), (.p (.int .i64) (.p (.int .i64) .e)), (.p (.sl (.p (.int .i64) (.p (.sl .str) (.p (.sl .str) .e)))) .e), (.p (.sl (.p (.int .i64) (.p (.sl .str) (.p (.sl .str) .e)))) .e), (.p (.int .i64) (.p (.int .i64) .e))]) (by kernel_rfl) Try.func18 (by kernel_rfl) (by kernel_rfl) (by simp only [List.forall_mem_cons, List.not_mem_nil, false_implies, implies_true, and_true]; exact ⟨commute_check_35_ok, commute_news_37_ok, commute_olds_38_ok, commute_independent_36_ok, commute_shifted_40_ok, textpatch_Fit_39_ok⟩) (fun _ h => by cases h) (by kernel_rfl)


/- changeforge/stack.swap -/
def stack_swap_26_h : List (Nat × SS × Nat) := [(29, ⟨us 5 ++ [.box 5 0, .unk, .unk, .d (.v 9), .box 9 0] ++ us 27, [(1000, .row 15 1), (5, .cs ([.d (.k (.int .i64 0)), .d (.k (.int .i64 0))])), (9, .cs ([.d (.v 13), .d (.v 14)]))], []⟩, 1)]
def stack_swap_26_g : Sg := ⟨26, [.row 1000 38 1 (.l 0), .d (.v 1)], [(1000, .row 0 1)], 2, [.d (.v 0), .d (.v 1)], [(1000, .row 2 1)], 3, [(2, 0)]⟩
theorem stack_swap_26_ok : Gn.Ok Try.prog ⟨stack_swap_26_g, [(.sl (.p (.sl (.p (.int .i64) (.p (.sl .str) (.p (.sl .str) .e)))) .e)), (.int .i64)], [.bool, (.p (.int .i64) (.p (.int .i64) .e)), (.sl (.p (.sl (.p (.int .i64) (.p (.sl .str) (.p (.sl .str) .e)))) .e))], stack_swap_26⟩ :=
  Gn.of' (c := ⟨Try.prog, [(18, 4)], [], [], stack_swap_26_h⟩) (fs := [⟨18, [(.p (.sl (.p (.int .i64) (.p (.sl .str) (.p (.sl .str) .e)))) .e), (.p (.sl (.p (.int .i64) (.p (.sl .str) (.p (.sl .str) .e)))) .e)], [(.p (.sl (.p (.int .i64) (.p (.sl .str) (.p (.sl .str) .e)))) .e), (.p (.sl (.p (.int .i64) (.p (.sl .str) (.p (.sl .str) .e)))) .e), .bool, (.p (.int .i64) (.p (.int .i64) .e))], commute_Commute_18⟩]) (gs := []) (an := [(.int .i64), (.p (.sl (.p (.int .i64) (.p (.sl .str) (.p (.sl .str) .e)))) .e), (.int .i64), (.int .i64), (.p (.sl (.p (.int .i64) (.p (.sl .str) (.p (.sl .str) .e)))) .e), (.sl (.p (.int .i64) (.p (.sl .str) (.p (.sl .str) .e)))), (.sl (.p (.int .i64) (.p (.sl .str) (.p (.sl .str) .e)))), (.int .i64), (.int .i64), (.sl (.p (.sl (.p (.int .i64) (.p (.sl .str) (.p (.sl .str) .e)))) .e)), (.p (.int .i64) (.p (.int .i64) .e)), (.int .i64), (.int .i64), (.p (.sl (.p (.int .i64) (.p (.sl .str) (.p (.sl .str) .e)))) .e), (.sl (.p (.sl (.p (.int .i64) (.p (.sl .str) (.p (.sl .str) .e)))) .e)), (.int .i64), (.p (.sl (.p (.int .i64) (.p (.sl .str) (.p (.sl .str) .e)))) .e), (.sl (.p (.sl (.p (.int .i64) (.p (.sl .str) (.p (.sl .str) .e)))) .e))]) (by kernel_rfl) Try.func26 (by kernel_rfl) (by kernel_rfl) (by simp only [List.forall_mem_cons, List.not_mem_nil, false_implies, implies_true, and_true]; exact commute_Commute_18_ok) (fun _ h => by cases h) (by kernel_rfl)


/- changeforge/stack.fault -/
def stack_fault_27_h : List (Nat × SS × Nat) := [(13, ⟨[.unk, .box 1 0, .box 2 0] ++ us 5, [(1, .cs ([.d (.v 1), .d (.v 6)])), (2, .cs ([.d (.k (.int .i64 0)), .d (.k (.int .i64 0))]))], []⟩, 1)]
theorem stack_fault_27_ok : Fn.Ok Try.prog ⟨27, [(.p (.int .i64) (.p (.int .i64) .e))], [(.p (.int .i64) (.p (.int .i64) .e))], stack_fault_27⟩ :=
  Fn.of (c := ⟨Try.prog, [], [], [], stack_fault_27_h⟩) (fs := []) (gs := []) (an := [(.int .i64), (.int .i64), (.p (.int .i64) (.p (.int .i64) .e)), (.p (.int .i64) (.p (.int .i64) .e)), .bool, (.int .i64), (.p (.int .i64) (.p (.int .i64) .e))]) (by kernel_rfl) Try.func27 (by kernel_rfl) (by kernel_rfl) (fun _ h => by cases h) (fun _ h => by cases h) (by kernel_rfl)


/- changeforge/stack.Move -/
def stack_Move_10_h : List (Nat × SS × Nat) := [(254, ⟨us 8 ++ [.box 8 0, .unk, .row 34 38 1 (.l 20)] ++ us 50, [(8, .cs ([.d (.k (.int .i64 0)), .d (.k (.int .i64 0))])), (34, .row 20 1)], []⟩, 1), (32533, ⟨[.unk, .unk, .d (.v 2)] ++ us 5 ++ [.box 8 0, .unk, .row 34 38 1 (.l 25), .d (.v 26), .d (.v 27)] ++ us 48, [(8, .cs ([.d (.k (.int .i64 0)), .d (.k (.int .i64 0))])), (34, .row 25 1)], []⟩, 3), (508, ⟨[.unk, .d (.v 20), .d (.v 2)] ++ us 5 ++ [.box 8 0, .unk, .row 34 38 1 (.l 21)] ++ us 50, [(8, .cs ([.d (.k (.int .i64 0)), .d (.k (.int .i64 0))])), (34, .row 21 1)], []⟩, 2), (61, ⟨[.d (.v 0), .d (.v 1), .d (.v 2)] ++ us 5 ++ [.box 8 0, .box 9 0] ++ us 51, [(8, .cs ([.d (.k (.int .i64 0)), .d (.k (.int .i64 0))])), (9, .cs ([.d (.v 14), .d (.v 15)]))], []⟩, 2), (29, ⟨[.d (.v 0), .d (.v 1), .d (.v 2)] ++ us 5 ++ [.box 8 0, .box 9 0] ++ us 51, [(8, .cs ([.d (.k (.int .i64 0)), .d (.k (.int .i64 0))])), (9, .cs ([.d (.v 9), .d (.v 10)]))], []⟩, 2)]
theorem stack_Move_10_ok : Fn.Ok Try.prog ⟨10, [(.sl (.p (.sl (.p (.int .i64) (.p (.sl .str) (.p (.sl .str) .e)))) .e)), (.int .i64), (.int .i64)], [(.sl (.p (.sl (.p (.int .i64) (.p (.sl .str) (.p (.sl .str) .e)))) .e)), .bool, (.p (.int .i64) (.p (.int .i64) .e))], stack_Move_10⟩ :=
  Fn.of (c := ⟨Try.prog, [(23, 1), (27, 1), (24, 1)], [stack_clone_25_g, stack_swap_26_g], [], stack_Move_10_h⟩) (fs := [⟨23, [(.sl (.p (.sl (.p (.int .i64) (.p (.sl .str) (.p (.sl .str) .e)))) .e))], [(.p (.int .i64) (.p (.int .i64) .e))], stack_Validate_23⟩, ⟨27, [(.p (.int .i64) (.p (.int .i64) .e))], [(.p (.int .i64) (.p (.int .i64) .e))], stack_fault_27⟩, ⟨24, [(.sl (.p (.sl (.p (.int .i64) (.p (.sl .str) (.p (.sl .str) .e)))) .e)), (.int .i64), (.int .i64)], [(.p (.int .i64) (.p (.int .i64) .e))], stack_position_24⟩]) (gs := [⟨stack_clone_25_g, [(.sl (.p (.sl (.p (.int .i64) (.p (.sl .str) (.p (.sl .str) .e)))) .e))], [(.sl (.p (.sl (.p (.int .i64) (.p (.sl .str) (.p (.sl .str) .e)))) .e))], stack_clone_25⟩, ⟨stack_swap_26_g, [(.sl (.p (.sl (.p (.int .i64) (.p (.sl .str) (.p (.sl .str) .e)))) .e)), (.int .i64)], [.bool, (.p (.int .i64) (.p (.int .i64) .e)), (.sl (.p (.sl (.p (.int .i64) (.p (.sl .str) (.p (.sl .str) .e)))) .e))], stack_swap_26⟩]) (an := [(.int .i64), (.int .i64), (.p (.int .i64) (.p (.int .i64) .e)), (.p (.int .i64) (.p (.int .i64) .e)), .bool, (.int .i64), (.int .i64), (.p (.int .i64) (.p (.int .i64) .e)), (.p (.int .i64) (.p (.int .i64) .e)), .bool, (.int .i64), (.int .i64), (.p (.int .i64) (.p (.int .i64) .e)), (.p (.int .i64) (.p (.int .i64) .e)), .bool, (.p (.int .i64) (.p (.int .i64) .e)), (.sl (.p (.sl (.p (.int .i64) (.p (.sl .str) (.p (.sl .str) .e)))) .e)), (.p (.int .i64) (.p (.int .i64) .e)), (.int .i64), (.sl (.p (.sl (.p (.int .i64) (.p (.sl .str) (.p (.sl .str) .e)))) .e)), .bool, (.int .i64), .bool, (.sl (.p (.sl (.p (.int .i64) (.p (.sl .str) (.p (.sl .str) .e)))) .e)), (.int .i64), (.int .i64), (.int .i64), (.int .i64), .bool, (.p (.int .i64) (.p (.int .i64) .e)), (.int .i64), (.int .i64), (.p (.int .i64) (.p (.int .i64) .e)), (.int .i64), (.int .i64), (.int .i64), (.int .i64), (.int .i64), (.int .i64)]) (by kernel_rfl) Try.func10 (by kernel_rfl) (by kernel_rfl) (by simp only [List.forall_mem_cons, List.not_mem_nil, false_implies, implies_true, and_true]; exact ⟨stack_Validate_23_ok, stack_fault_27_ok, stack_position_24_ok⟩) (by simp only [List.forall_mem_cons, List.not_mem_nil, false_implies, implies_true, and_true]; exact ⟨stack_clone_25_ok, stack_swap_26_ok⟩) (by kernel_rfl)


/- changeforge/changeforgeref1.At -/
def changeforgeref1_At_29_h : List (Nat × SS × Nat) := []
theorem changeforgeref1_At_29_ok : Fn.Ok Try.prog ⟨29, [(.int .i64), (.int .i64)], [(.p (.int .i64) (.p (.int .i64) .e))], changeforgeref1_At_29⟩ :=
  Fn.of (c := ⟨Try.prog, [], [], [], changeforgeref1_At_29_h⟩) (fs := []) (gs := []) (an := [(.int .i64), (.int .i64), (.p (.int .i64) (.p (.int .i64) .e))]) (by kernel_rfl) Try.func29 (by kernel_rfl) (by kernel_rfl) (fun _ h => by cases h) (fun _ h => by cases h) (by kernel_rfl)


/- changeforge/changeforgeref1.LinesFault -/
def changeforgeref1_LinesFault_56_h : List (Nat × SS × Nat) := [(29, ⟨[.unk, .unk, .box 2 0] ++ us 39, [(2, .cs ([.d (.k (.int .i64 0)), .d (.k (.int .i64 0))]))], []⟩, 0), (466, ⟨[.d (.v 0), .unk, .box 2 0, .d (.v 6)] ++ us 38, [(2, .cs ([.d (.k (.int .i64 0)), .d (.k (.int .i64 0))]))], []⟩, 1), (3731, ⟨[.d (.v 0), .unk, .box 2 0, .d (.v 10)] ++ us 38, [(2, .cs ([.d (.k (.int .i64 0)), .d (.k (.int .i64 0))]))], []⟩, 1), (7462, ⟨[.d (.v 0), .unk, .box 2 0, .d (.v 10), .d (.v 11)] ++ us 37, [(2, .cs ([.d (.k (.int .i64 0)), .d (.k (.int .i64 0))]))], []⟩, 2), (58, ⟨[.d (.v 0), .unk, .box 2 0, .d (.v 3)] ++ us 38, [(2, .cs ([.d (.k (.int .i64 0)), .d (.k (.int .i64 0))]))], []⟩, 1)]
theorem changeforgeref1_LinesFault_56_ok : Fn.Ok Try.prog ⟨56, [(.sl .str)], [(.p (.int .i64) (.p (.int .i64) .e))], changeforgeref1_LinesFault_56⟩ :=
  Fn.of (c := ⟨Try.prog, [(29, 1)], [], [], changeforgeref1_LinesFault_56_h⟩) (fs := [⟨29, [(.int .i64), (.int .i64)], [(.p (.int .i64) (.p (.int .i64) .e))], changeforgeref1_At_29⟩]) (gs := []) (an := [(.int .i64), .bool, (.int .i64), (.int .i64), (.p (.int .i64) (.p (.int .i64) .e)), (.p (.int .i64) (.p (.int .i64) .e)), (.int .i64), (.int .i64), .bool, (.int .i64), (.int .i64), .str, .str, (.int .i64), .bool, (.int .i64), (.int .i64), (.p (.int .i64) (.p (.int .i64) .e)), (.int .i64), (.int .i64), (.int .i64), .str, .str, (.int .i64), .bool, .str, .str, (.int .u8), .bool, (.int .i64), (.int .i64), (.p (.int .i64) (.p (.int .i64) .e)), (.int .i64)]) (by kernel_rfl) Try.func56 (by kernel_rfl) (by kernel_rfl) (by simp only [List.forall_mem_cons, List.not_mem_nil, false_implies, implies_true, and_true]; exact changeforgeref1_At_29_ok) (fun _ h => by cases h) (by kernel_rfl)


/- changeforge/changeforgeref1.LinesCode -/
def changeforgeref1_LinesCode_44_h : List (Nat × SS × Nat) := []
theorem changeforgeref1_LinesCode_44_ok : Fn.Ok Try.prog ⟨44, [(.sl .str)], [(.int .i64)], changeforgeref1_LinesCode_44⟩ :=
  Fn.of (c := ⟨Try.prog, [(56, 1)], [], [], changeforgeref1_LinesCode_44_h⟩) (fs := [⟨56, [(.sl .str)], [(.p (.int .i64) (.p (.int .i64) .e))], changeforgeref1_LinesFault_56⟩]) (gs := []) (an := [(.int .i64)]) (by kernel_rfl) Try.func44 (by kernel_rfl) (by kernel_rfl) (by simp only [List.forall_mem_cons, List.not_mem_nil, false_implies, implies_true, and_true]; exact changeforgeref1_LinesFault_56_ok) (fun _ h => by cases h) (by kernel_rfl)


/- changeforge/changeforgeref1.End -/
def changeforgeref1_End_58_h : List (Nat × SS × Nat) := []
theorem changeforgeref1_End_58_ok : Fn.Ok Try.prog ⟨58, [(.p (.int .i64) (.p (.sl .str) (.p (.sl .str) .e)))], [(.int .i64)], changeforgeref1_End_58⟩ :=
  Fn.of (c := ⟨Try.prog, [], [], [], changeforgeref1_End_58_h⟩) (fs := []) (gs := []) (an := [(.int .i64), (.sl .str), (.sl .str), (.int .i64), (.int .i64)]) (by kernel_rfl) Try.func58 (by kernel_rfl) (by kernel_rfl) (fun _ h => by cases h) (fun _ h => by cases h) (by kernel_rfl)


/- changeforge/changeforgeref1.PatchFault -/
def changeforgeref1_PatchFault_50_h : List (Nat × SS × Nat) := [(29, ⟨[.unk, .unk, .box 2 0] ++ us 79, [(2, .cs ([.d (.k (.int .i64 0)), .d (.k (.int .i64 0))]))], []⟩, 0), (59708, ⟨[.unk, .box 1 0, .box 2 0, .d (.v 21), .box 4 0] ++ us 68 ++ [.d (.v 22)] ++ us 8, [(1, .cs ([.d (.v 1)])), (2, .cs ([.d (.k (.int .i64 0)), .d (.k (.int .i64 0))])), (4, .cs ([.d (.v 23), .d (.v 24), .d (.v 25)]))], []⟩, 5), (7460, ⟨[.unk, .box 1 0, .box 2 0, .d (.v 12), .box 4 0] ++ us 26 ++ [.d (.v 13)] ++ us 50, [(1, .cs ([.d (.v 1)])), (2, .cs ([.d (.k (.int .i64 0)), .d (.k (.int .i64 0))])), (4, .cs ([.d (.v 14), .d (.v 15), .d (.v 16)]))], []⟩, 5), (58, ⟨[.unk, .box 1 0, .box 2 0, .d (.v 4)] ++ us 78, [(1, .cs ([.d (.v 1)])), (2, .cs ([.d (.k (.int .i64 0)), .d (.k (.int .i64 0))]))], []⟩, 1)]
theorem changeforgeref1_PatchFault_50_ok : Fn.Ok Try.prog ⟨50, [(.p (.sl (.p (.int .i64) (.p (.sl .str) (.p (.sl .str) .e)))) .e)], [(.p (.int .i64) (.p (.int .i64) .e))], changeforgeref1_PatchFault_50⟩ :=
  Fn.of (c := ⟨Try.prog, [(29, 1), (44, 1), (58, 1)], [], [], changeforgeref1_PatchFault_50_h⟩) (fs := [⟨29, [(.int .i64), (.int .i64)], [(.p (.int .i64) (.p (.int .i64) .e))], changeforgeref1_At_29⟩, ⟨44, [(.sl .str)], [(.int .i64)], changeforgeref1_LinesCode_44⟩, ⟨58, [(.p (.int .i64) (.p (.sl .str) (.p (.sl .str) .e)))], [(.int .i64)], changeforgeref1_End_58⟩]) (gs := []) (an := [(.sl (.p (.int .i64) (.p (.sl .str) (.p (.sl .str) .e)))), (.int .i64), .bool, (.int .i64), (.int .i64), (.p (.int .i64) (.p (.int .i64) .e)), (.p (.int .i64) (.p (.int .i64) .e)), (.int .i64), (.int .i64), .bool, (.p (.int .i64) (.p (.sl .str) (.p (.sl .str) .e))), (.p (.int .i64) (.p (.sl .str) (.p (.sl .str) .e))), (.int .i64), (.sl .str), (.sl .str), (.int .i64), .bool, (.int .i64), (.sl .str), (.sl .str), (.int .i64), (.int .i64), (.p (.int .i64) (.p (.int .i64) .e)), .bool, (.int .i64), (.int .i64), (.p (.int .i64) (.p (.int .i64) .e)), .bool, (.int .i64), (.int .i64), (.p (.int .i64) (.p (.int .i64) .e)), (.int .i64), .bool, (.int .i64), (.sl .str), (.sl .str), (.int .i64), (.int .i64), (.p (.int .i64) (.p (.int .i64) .e)), (.p (.int .i64) (.p (.sl .str) (.p (.sl .str) .e))), .bool, (.int .i64), (.int .i64), (.p (.int .i64) (.p (.int .i64) .e)), (.int .i64), (.int .i64), (.int .i64), (.int .i64), .bool, .bool, (.int .i64), (.p (.int .i64) (.p (.sl .str) (.p (.sl .str) .e))), (.p (.int .i64) (.p (.sl .str) (.p (.sl .str) .e))), .bool, .bool, .bool]) (by kernel_rfl) Try.func50 (by kernel_rfl) (by kernel_rfl) (by simp only [List.forall_mem_cons, List.not_mem_nil, false_implies, implies_true, and_true]; exact ⟨changeforgeref1_At_29_ok, changeforgeref1_LinesCode_44_ok, changeforgeref1_End_58_ok⟩) (fun _ h => by cases h) (by kernel_rfl)


/- changeforge/changeforgeref2.StackFault -/
def changeforgeref2_StackFault_28_h : List (Nat × SS × Nat) := [(29, ⟨[.unk, .unk, .box 2 0] ++ us 25, [(2, .cs ([.d (.k (.int .i64 0)), .d (.k (.int .i64 0))]))], []⟩, 0), (58, ⟨[.d (.v 0), .unk, .box 2 0, .d (.v 3)] ++ us 24, [(2, .cs ([.d (.k (.int .i64 0)), .d (.k (.int .i64 0))]))], []⟩, 1)]
theorem changeforgeref2_StackFault_28_ok : Fn.Ok Try.prog ⟨28, [(.sl (.p (.sl (.p (.int .i64) (.p (.sl .str) (.p (.sl .str) .e)))) .e))], [(.p (.int .i64) (.p (.int .i64) .e))], changeforgeref2_StackFault_28⟩ :=
  Fn.of (c := ⟨Try.prog, [(29, 1), (50, 1)], [], [], changeforgeref2_StackFault_28_h⟩) (fs := [⟨29, [(.int .i64), (.int .i64)], [(.p (.int .i64) (.p (.int .i64) .e))], changeforgeref1_At_29⟩, ⟨50, [(.p (.sl (.p (.int .i64) (.p (.sl .str) (.p (.sl .str) .e)))) .e)], [(.p (.int .i64) (.p (.int .i64) .e))], changeforgeref1_PatchFault_50⟩]) (gs := []) (an := [(.int .i64), .bool, (.int .i64), (.int .i64), (.p (.int .i64) (.p (.int .i64) .e)), (.p (.int .i64) (.p (.int .i64) .e)), (.int .i64), (.int .i64), .bool, (.p (.sl (.p (.int .i64) (.p (.sl .str) (.p (.sl .str) .e)))) .e), (.p (.sl (.p (.int .i64) (.p (.sl .str) (.p (.sl .str) .e)))) .e), (.int .i64), (.int .i64), .bool, (.int .i64), (.int .i64), (.p (.int .i64) (.p (.int .i64) .e)), (.int .i64)]) (by kernel_rfl) Try.func28 (by kernel_rfl) (by kernel_rfl) (by simp only [List.forall_mem_cons, List.not_mem_nil, false_implies, implies_true, and_true]; exact ⟨changeforgeref1_At_29_ok, changeforgeref1_PatchFault_50_ok⟩) (fun _ h => by cases h) (by kernel_rfl)


/- changeforge/changeforgeref1.Pair -/
def changeforgeref1_Pair_63_h : List (Nat × SS × Nat) := [(29, ⟨us 4 ++ [.box 4 0, .box 5 0] ++ us 16, [(4, .cs ([.d (.k (.int .i64 0)), .d (.k (.int .i64 0))])), (5, .cs ([.d (.v 9), .d (.v 10)]))], []⟩, 2), (28, ⟨[.unk, .unk, .unk, .box 3 0, .box 4 0, .box 5 0] ++ us 10 ++ [.d (.v 8)] ++ us 5, [(3, .cs ([.d (.v 3)])), (4, .cs ([.d (.k (.int .i64 0)), .d (.k (.int .i64 0))])), (5, .cs ([.d (.v 6), .d (.v 7)]))], []⟩, 1)]
theorem changeforgeref1_Pair_63_ok : Fn.Ok Try.prog ⟨63, [(.p (.sl (.p (.int .i64) (.p (.sl .str) (.p (.sl .str) .e)))) .e), (.p (.sl (.p (.int .i64) (.p (.sl .str) (.p (.sl .str) .e)))) .e)], [(.p (.int .i64) (.p (.int .i64) .e))], changeforgeref1_Pair_63⟩ :=
  Fn.of (c := ⟨Try.prog, [(50, 1), (29, 1)], [], [], changeforgeref1_Pair_63_h⟩) (fs := [⟨50, [(.p (.sl (.p (.int .i64) (.p (.sl .str) (.p (.sl .str) .e)))) .e)], [(.p (.int .i64) (.p (.int .i64) .e))], changeforgeref1_PatchFault_50⟩, ⟨29, [(.int .i64), (.int .i64)], [(.p (.int .i64) (.p (.int .i64) .e))], changeforgeref1_At_29⟩]) (gs := []) (an := [(.sl (.p (.int .i64) (.p (.sl .str) (.p (.sl .str) .e)))), (.sl (.p (.int .i64) (.p (.sl .str) (.p (.sl .str) .e)))), (.p (.sl (.p (.int .i64) (.p (.sl .str) (.p (.sl .str) .e)))) .e), (.int .i64), (.int .i64), .bool, (.int .i64), (.int .i64), (.p (.int .i64) (.p (.int .i64) .e)), (.p (.sl (.p (.int .i64) (.p (.sl .str) (.p (.sl .str) .e)))) .e), (.int .i64), (.int .i64), (.int .i64), .bool, (.p (.sl (.p (.int .i64) (.p (.sl .str) (.p (.sl .str) .e)))) .e), (.int .i64), .bool]) (by kernel_rfl) Try.func63 (by kernel_rfl) (by kernel_rfl) (by simp only [List.forall_mem_cons, List.not_mem_nil, false_implies, implies_true, and_true]; exact ⟨changeforgeref1_PatchFault_50_ok, changeforgeref1_At_29_ok⟩) (fun _ h => by cases h) (by kernel_rfl)


end Go.Proofs.Ytfepfapfogpfkaa.F
end
section
/- That they do: printed by a program of ours. -/
namespace Go.Proofs.Ytfepfapfogpfkaa.F
open Go Go.Proofs.Ytfepfapfogpfkaa.V
set_option maxRecDepth 100000
set_option linter.unusedVariables false

/- changeforge/changeforgeref1.Growth -/
def changeforgeref1_Growth_66_h : List (Nat × SS × Nat) := []
theorem changeforgeref1_Growth_66_ok : Fn.Ok Try.prog ⟨66, [(.p (.int .i64) (.p (.sl .str) (.p (.sl .str) .e)))], [(.int .i64)], changeforgeref1_Growth_66⟩ :=
  Fn.of (c := ⟨Try.prog, [], [], [], changeforgeref1_Growth_66_h⟩) (fs := []) (gs := []) (an := [(.int .i64), (.sl .str), (.sl .str), (.int .i64), (.int .i64), (.int .i64)]) (by kernel_rfl) Try.func66 (by kernel_rfl) (by kernel_rfl) (fun _ h => by cases h) (fun _ h => by cases h) (by kernel_rfl)


/- changeforge/changeforgeref1.news -/
def changeforgeref1_news_65_h : List (Nat × SS × Nat) := [(29, ⟨[.unk, .d (.v 1), .box 2 0, .unk, .unk, .unk, .d (.v 5)] ++ us 30, [(2, .cs ([.d (.v 2)]))], []⟩, 1), (58, ⟨[.unk, .d (.v 1), .box 2 0, .unk, .unk, .unk, .d (.v 5), .d (.v 6)] ++ us 29, [(2, .cs ([.d (.v 2)]))], []⟩, 2)]
theorem changeforgeref1_news_65_ok : Fn.Ok Try.prog ⟨65, [(.p (.sl (.p (.int .i64) (.p (.sl .str) (.p (.sl .str) .e)))) .e), (.int .i64)], [(.int .i64), (.int .i64)], changeforgeref1_news_65⟩ :=
  Fn.of (c := ⟨Try.prog, [(66, 1)], [], [], changeforgeref1_news_65_h⟩) (fs := [⟨66, [(.p (.int .i64) (.p (.sl .str) (.p (.sl .str) .e)))], [(.int .i64)], changeforgeref1_Growth_66⟩]) (gs := []) (an := [(.sl (.p (.int .i64) (.p (.sl .str) (.p (.sl .str) .e)))), (.p (.int .i64) (.p (.sl .str) (.p (.sl .str) .e))), (.int .i64), (.int .i64), (.p (.int .i64) (.p (.sl .str) (.p (.sl .str) .e))), (.sl .str), (.int .i64), (.int .i64), (.int .i64), (.int .i64), .bool, (.p (.int .i64) (.p (.sl .str) (.p (.sl .str) .e))), (.p (.int .i64) (.p (.sl .str) (.p (.sl .str) .e))), (.int .i64), (.int .i64)]) (by kernel_rfl) Try.func65 (by kernel_rfl) (by kernel_rfl) (by simp only [List.forall_mem_cons, List.not_mem_nil, false_implies, implies_true, and_true]; exact changeforgeref1_Growth_66_ok) (fun _ h => by cases h) (by kernel_rfl)


/- changeforge/changeforgeref1.moved -/
def changeforgeref1_moved_67_h : List (Nat × SS × Nat) := []
theorem changeforgeref1_moved_67_ok : Fn.Ok Try.prog ⟨67, [(.p (.int .i64) (.p (.sl .str) (.p (.sl .str) .e))), (.int .i64)], [(.p (.int .i64) (.p (.sl .str) (.p (.sl .str) .e)))], changeforgeref1_moved_67⟩ :=
  Fn.of (c := ⟨Try.prog, [], [], [], changeforgeref1_moved_67_h⟩) (fs := []) (gs := []) (an := [(.int .i64), (.sl .str), (.sl .str), (.int .i64), (.int .i64), (.sl .str), (.sl .str), (.p (.int .i64) (.p (.sl .str) (.p (.sl .str) .e)))]) (by kernel_rfl) Try.func67 (by kernel_rfl) (by kernel_rfl) (fun _ h => by cases h) (fun _ h => by cases h) (by kernel_rfl)


/- changeforge/changeforgeref1.Commute -/
def changeforgeref1_Commute_51_h : List (Nat × SS × Nat) := [(508, ⟨us 4 ++ [.box 4 0, .box 5 0, .unk, .box 7 0, .unk, .box 9 0, .box 10 0] ++ us 142 ++ [.d (.v 12)] ++ us 6, [(4, .cs ([.d (.k (.nil))])), (5, .cs ([.d (.k (.nil))])), (7, .cs ([.d (.k (.int .i64 0)), .d (.k (.int .i64 0))])), (9, .cs ([.grow 66 3 10])), (10, .cs ([.grow 66 3 11]))], [.t 142, .t 95]⟩, 1), (253, ⟨us 4 ++ [.box 4 0, .box 5 0, .unk, .box 7 0, .unk, .box 9 0, .box 10 0] ++ us 149, [(4, .cs ([.d (.k (.nil))])), (5, .cs ([.d (.k (.nil))])), (7, .cs ([.d (.k (.int .i64 0)), .d (.k (.int .i64 0))])), (9, .cs ([.grow 66 3 10])), (10, .cs ([.grow 66 3 11]))], [.t 142, .t 95]⟩, 1), (64805, ⟨[.unk, .unk, .box 2 0, .unk, .box 4 0, .box 5 0, .unk, .box 7 0, .unk, .box 9 0, .box 10 0] ++ us 5 ++ [.d (.v 15), .d (.v 16)] ++ us 142, [(2, .cs ([.d (.v 2)])), (4, .cs ([.d (.k (.nil))])), (5, .cs ([.d (.k (.nil))])), (7, .cs ([.d (.k (.int .i64 0)), .d (.k (.int .i64 0))])), (9, .cs ([.grow 66 3 10])), (10, .cs ([.grow 66 3 17]))], [.t 142, .t 95]⟩, 3), (1036882, ⟨[.unk, .unk, .box 2 0, .unk, .box 4 0, .box 5 0, .unk, .box 7 0, .unk, .box 9 0, .box 10 0] ++ us 5 ++ [.d (.v 21), .d (.v 22), .d (.v 23)] ++ us 141, [(2, .cs ([.d (.v 2)])), (4, .cs ([.d (.k (.nil))])), (5, .cs ([.d (.k (.nil))])), (7, .cs ([.d (.k (.int .i64 0)), .d (.k (.int .i64 0))])), (9, .cs ([.grow 66 3 10])), (10, .cs ([.grow 66 3 24]))], [.t 142, .t 95]⟩, 4), (4147529, ⟨[.unk, .unk, .box 2 0, .unk, .box 4 0, .box 5 0, .unk, .box 7 0, .unk, .box 9 0, .box 10 0] ++ us 5 ++ [.d (.v 27), .d (.v 28), .d (.v 29)] ++ us 141, [(2, .cs ([.d (.v 2)])), (4, .cs ([.d (.k (.nil))])), (5, .cs ([.d (.k (.nil))])), (7, .cs ([.d (.k (.int .i64 0)), .d (.k (.int .i64 0))])), (9, .cs ([.grow 66 3 10])), (10, .cs ([.grow 66 3 30]))], [.t 142, .t 95]⟩, 4), (129610, ⟨[.unk, .unk, .box 2 0, .unk, .box 4 0, .box 5 0, .unk, .box 7 0, .unk, .box 9 0, .box 10 0] ++ us 5 ++ [.d (.v 15), .d (.v 16), .d (.v 17)] ++ us 141, [(2, .cs ([.d (.v 2)])), (4, .cs ([.d (.k (.nil))])), (5, .cs ([.d (.k (.nil))])), (7, .cs ([.d (.k (.int .i64 0)), .d (.k (.int .i64 0))])), (9, .cs ([.grow 66 3 10])), (10, .cs ([.grow 66 3 18]))], [.t 142, .t 95]⟩, 4), (506, ⟨[.unk, .unk, .box 2 0, .unk, .box 4 0, .box 5 0, .unk, .box 7 0, .unk, .box 9 0, .box 10 0] ++ us 5 ++ [.d (.v 11)] ++ us 143, [(2, .cs ([.d (.v 2)])), (4, .cs ([.d (.k (.nil))])), (5, .cs ([.d (.k (.nil))])), (7, .cs ([.d (.k (.int .i64 0)), .d (.k (.int .i64 0))])), (9, .cs ([.grow 66 3 10])), (10, .cs ([.grow 66 3 12]))], [.t 142, .t 95]⟩, 2), (125, ⟨[.unk, .unk, .box 2 0, .unk, .box 4 0, .box 5 0, .unk, .box 7 0, .unk, .box 9 0, .box 10 0] ++ us 149, [(2, .cs ([.d (.v 2)])), (4, .cs ([.d (.k (.nil))])), (5, .cs ([.d (.k (.nil))])), (7, .cs ([.d (.k (.int .i64 0)), .d (.k (.int .i64 0))])), (9, .cs ([.grow 66 3 10])), (10, .cs ([.d (.k (.nil))]))], [.t 95]⟩, 1), (32037, ⟨[.unk, .unk, .box 2 0, .box 3 0, .box 4 0, .box 5 0, .unk, .box 7 0, .unk, .box 9 0, .box 10 0, .d (.v 14), .d (.v 15)] ++ us 147, [(2, .cs ([.d (.v 2)])), (3, .cs ([.d (.v 3)])), (4, .cs ([.d (.k (.nil))])), (5, .cs ([.d (.k (.nil))])), (7, .cs ([.d (.k (.int .i64 0)), .d (.k (.int .i64 0))])), (9, .cs ([.grow 66 3 16])), (10, .cs ([.d (.k (.nil))]))], [.t 95]⟩, 3), (512594, ⟨[.unk, .unk, .box 2 0, .box 3 0, .box 4 0, .box 5 0, .unk, .box 7 0, .unk, .box 9 0, .box 10 0, .d (.v 20), .d (.v 21), .d (.v 22)] ++ us 146, [(2, .cs ([.d (.v 2)])), (3, .cs ([.d (.v 3)])), (4, .cs ([.d (.k (.nil))])), (5, .cs ([.d (.k (.nil))])), (7, .cs ([.d (.k (.int .i64 0)), .d (.k (.int .i64 0))])), (9, .cs ([.grow 66 3 23])), (10, .cs ([.d (.k (.nil))]))], [.t 95]⟩, 4), (8201511, ⟨[.unk, .unk, .box 2 0, .box 3 0, .box 4 0, .box 5 0, .unk, .box 7 0, .unk, .box 9 0, .box 10 0, .d (.v 32), .d (.v 33), .d (.v 34)] ++ us 146, [(2, .cs ([.d (.v 2)])), (3, .cs ([.d (.v 3)])), (4, .cs ([.d (.k (.nil))])), (5, .cs ([.d (.k (.nil))])), (7, .cs ([.d (.k (.int .i64 0)), .d (.k (.int .i64 0))])), (9, .cs ([.grow 66 3 35])), (10, .cs ([.d (.k (.nil))]))], [.t 95]⟩, 4), (8201508, ⟨[.unk, .unk, .box 2 0, .box 3 0, .box 4 0, .box 5 0, .unk, .box 7 0, .unk, .box 9 0, .box 10 0, .d (.v 23), .d (.v 24), .d (.v 25), .unk, .d (.v 26)] ++ us 49 ++ [.d (.v 27)] ++ us 94, [(2, .cs ([.d (.v 2)])), (3, .cs ([.d (.v 3)])), (4, .cs ([.d (.k (.nil))])), (5, .cs ([.d (.k (.nil))])), (7, .cs ([.d (.k (.int .i64 0)), .d (.k (.int .i64 0))])), (9, .cs ([.grow 66 3 28])), (10, .cs ([.d (.k (.nil))]))], [.t 95]⟩, 6), (64074, ⟨[.unk, .unk, .box 2 0, .box 3 0, .box 4 0, .box 5 0, .unk, .box 7 0, .unk, .box 9 0, .box 10 0, .d (.v 14), .d (.v 15), .d (.v 16)] ++ us 146, [(2, .cs ([.d (.v 2)])), (3, .cs ([.d (.v 3)])), (4, .cs ([.d (.k (.nil))])), (5, .cs ([.d (.k (.nil))])), (7, .cs ([.d (.k (.int .i64 0)), .d (.k (.int .i64 0))])), (9, .cs ([.grow 66 3 17])), (10, .cs ([.d (.k (.nil))]))], [.t 95]⟩, 4), (250, ⟨[.unk, .unk, .box 2 0, .box 3 0, .box 4 0, .box 5 0, .unk, .box 7 0, .unk, .box 9 0, .box 10 0, .d (.v 10)] ++ us 148, [(2, .cs ([.d (.v 2)])), (3, .cs ([.d (.v 3)])), (4, .cs ([.d (.k (.nil))])), (5, .cs ([.d (.k (.nil))])), (7, .cs ([.d (.k (.int .i64 0)), .d (.k (.int .i64 0))])), (9, .cs ([.grow 66 3 11])), (10, .cs ([.d (.k (.nil))]))], [.t 95]⟩, 2)]
theorem changeforgeref1_Commute_51_ok : Fn.Ok Try.prog ⟨51, [(.p (.sl (.p (.int .i64) (.p (.sl .str) (.p (.sl .str) .e)))) .e), (.p (.sl (.p (.int .i64) (.p (.sl .str) (.p (.sl .str) .e)))) .e)], [(.p (.sl (.p (.int .i64) (.p (.sl .str) (.p (.sl .str) .e)))) .e), (.p (.sl (.p (.int .i64) (.p (.sl .str) (.p (.sl .str) .e)))) .e), .bool, (.p (.int .i64) (.p (.int .i64) .e))], changeforgeref1_Commute_51⟩ :=
  Fn.of (c := ⟨Try.prog, [(63, 1), (29, 1), (50, 1), (67, 1), (58, 1), (66, 1), (65, 2)], [], [], changeforgeref1_Commute_51_h⟩) (fs := [⟨63, [(.p (.sl (.p (.int .i64) (.p (.sl .str) (.p (.sl .str) .e)))) .e), (.p (.sl (.p (.int .i64) (.p (.sl .str) (.p (.sl .str) .e)))) .e)], [(.p (.int .i64) (.p (.int .i64) .e))], changeforgeref1_Pair_63⟩, ⟨29, [(.int .i64), (.int .i64)], [(.p (.int .i64) (.p (.int .i64) .e))], changeforgeref1_At_29⟩, ⟨50, [(.p (.sl (.p (.int .i64) (.p (.sl .str) (.p (.sl .str) .e)))) .e)], [(.p (.int .i64) (.p (.int .i64) .e))], changeforgeref1_PatchFault_50⟩, ⟨67, [(.p (.int .i64) (.p (.sl .str) (.p (.sl .str) .e))), (.int .i64)], [(.p (.int .i64) (.p (.sl .str) (.p (.sl .str) .e)))], changeforgeref1_moved_67⟩, ⟨58, [(.p (.int .i64) (.p (.sl .str) (.p (.sl .str) .e)))], [(.int .i64)], changeforgeref1_End_58⟩, ⟨66, [(.p (.int .i64) (.p (.sl .str) (.p (.sl .str) .e)))], [(.int .i64)], changeforgeref1_Growth_66⟩, ⟨65, [(.p (.sl (.p (.int .i64) (.p (.sl .str) (.p (.sl .str) .e)))) .e), (.int .i64)], [(.int .i64), (.int .i64)], changeforgeref1_news_65⟩]) (gs := []) (an := [(.sl (.p (.int .i64) (.p (.sl .str) (.p (.sl .str) .e)))), (.sl (.p (.int .i64) (.p (.sl .str) (.p (.sl .str) .e)))), (.p (.sl (.p (.int .i64) (.p (.sl .str) (.p (.sl .str) .e)))) .e), (.p (.sl (.p (.int .i64) (.p (.sl .str) (.p (.sl .str) .e)))) .e), (.int .i64), (.int .i64), .bool, (.p (.sl (.p (.int .i64) (.p (.sl .str) (.p (.sl .str) .e)))) .e), (.p (.sl (.p (.int .i64) (.p (.sl .str) (.p (.sl .str) .e)))) .e), (.p (.int .i64) (.p (.int .i64) .e)), (.sl (.p (.int .i64) (.p (.sl .str) (.p (.sl .str) .e)))), (.sl (.p (.int .i64) (.p (.sl .str) (.p (.sl .str) .e)))), .bool, (.int .i64), (.int .i64), (.p (.sl (.p (.int .i64) (.p (.sl .str) (.p (.sl .str) .e)))) .e), (.p (.sl (.p (.int .i64) (.p (.sl .str) (.p (.sl .str) .e)))) .e), (.p (.int .i64) (.p (.int .i64) .e)), (.p (.sl (.p (.int .i64) (.p (.sl .str) (.p (.sl .str) .e)))) .e), (.p (.sl (.p (.int .i64) (.p (.sl .str) (.p (.sl .str) .e)))) .e), (.p (.int .i64) (.p (.int .i64) .e)), (.p (.sl (.p (.int .i64) (.p (.sl .str) (.p (.sl .str) .e)))) .e), (.int .i64), .bool, (.p (.sl (.p (.int .i64) (.p (.sl .str) (.p (.sl .str) .e)))) .e), (.int .i64), .bool, (.int .i64), (.sl (.p (.int .i64) (.p (.sl .str) (.p (.sl .str) .e)))), (.int .i64), .bool, (.int .i64), (.int .i64), (.sl (.p (.int .i64) (.p (.sl .str) (.p (.sl .str) .e)))), (.p (.int .i64) (.p (.sl .str) (.p (.sl .str) .e))), (.p (.int .i64) (.p (.sl .str) (.p (.sl .str) .e))), (.sl (.p (.int .i64) (.p (.sl .str) (.p (.sl .str) .e)))), (.sl (.p (.int .i64) (.p (.sl .str) (.p (.sl .str) .e)))), (.int .i64), (.int .i64), (.int .i64), (.int .i64), (.sl (.p (.int .i64) (.p (.sl .str) (.p (.sl .str) .e)))), (.int .i64), .bool, (.int .i64), (.int .i64), (.int .i64), (.sl (.p (.int .i64) (.p (.sl .str) (.p (.sl .str) .e)))), (.int .i64), (.p (.int .i64) (.p (.sl .str) (.p (.sl .str) .e))), (.p (.int .i64) (.p (.sl .str) (.p (.sl .str) .e))), (.p (.int .i64) (.p (.sl .str) (.p (.sl .str) .e))), (.int .i64), .bool, (.int .i64), (.int .i64), (.int .i64), (.sl (.p (.int .i64) (.p (.sl .str) (.p (.sl .str) .e)))), (.p (.int .i64) (.p (.sl .str) (.p (.sl .str) .e))), (.p (.int .i64) (.p (.sl .str) (.p (.sl .str) .e))), (.int .i64), (.int .i64), (.sl (.p (.int .i64) (.p (.sl .str) (.p (.sl .str) .e)))), (.int .i64), .bool, (.int .i64), (.int .i64), (.sl (.p (.int .i64) (.p (.sl .str) (.p (.sl .str) .e)))), (.p (.int .i64) (.p (.sl .str) (.p (.sl .str) .e))), (.p (.int .i64) (.p (.sl .str) (.p (.sl .str) .e))), (.sl (.p (.int .i64) (.p (.sl .str) (.p (.sl .str) .e)))), (.sl (.p (.int .i64) (.p (.sl .str) (.p (.sl .str) .e)))), (.int .i64), (.int .i64), (.int .i64), (.int .i64), (.sl (.p (.int .i64) (.p (.sl .str) (.p (.sl .str) .e)))), (.int .i64), .bool, (.int .i64), (.int .i64), (.int .i64), (.sl (.p (.int .i64) (.p (.sl .str) (.p (.sl .str) .e)))), (.int .i64), (.p (.sl (.p (.int .i64) (.p (.sl .str) (.p (.sl .str) .e)))) .e), (.int .i64), (.int .i64), (.int .i64), (.int .i64), .bool, (.sl (.p (.int .i64) (.p (.sl .str) (.p (.sl .str) .e)))), (.p (.sl (.p (.int .i64) (.p (.sl .str) (.p (.sl .str) .e)))) .e), (.p (.sl (.p (.int .i64) (.p (.sl .str) (.p (.sl .str) .e)))) .e), (.p (.int .i64) (.p (.int .i64) .e)), (.p (.int .i64) (.p (.sl .str) (.p (.sl .str) .e))), (.int .i64), .bool, (.int .i64), (.int .i64), (.int .i64), (.sl (.p (.int .i64) (.p (.sl .str) (.p (.sl .str) .e)))), (.p (.int .i64) (.p (.sl .str) (.p (.sl .str) .e))), (.p (.int .i64) (.p (.sl .str) (.p (.sl .str) .e))), (.int .i64), (.p (.int .i64) (.p (.sl .str) (.p (.sl .str) .e))), (.int .i64), .bool, (.p (.int .i64) (.p (.sl .str) (.p (.sl .str) .e))), (.p (.int .i64) (.p (.sl .str) (.p (.sl .str) .e))), .bool]) (by kernel_rfl) Try.func51 (by kernel_rfl) (by kernel_rfl) (by simp only [List.forall_mem_cons, List.not_mem_nil, false_implies, implies_true, and_true]; exact ⟨changeforgeref1_Pair_63_ok, changeforgeref1_At_29_ok, changeforgeref1_PatchFault_50_ok, changeforgeref1_moved_67_ok, changeforgeref1_End_58_ok, changeforgeref1_Growth_66_ok, changeforgeref1_news_65_ok⟩) (fun _ h => by cases h) (by kernel_rfl)


/- changeforge/stack.Drop -/
def stack_Drop_12_h : List (Nat × SS × Nat) := []
theorem stack_Drop_12_ok : Fn.Ok Try.prog ⟨12, [(.sl (.p (.sl (.p (.int .i64) (.p (.sl .str) (.p (.sl .str) .e)))) .e)), (.int .i64)], [(.sl (.p (.sl (.p (.int .i64) (.p (.sl .str) (.p (.sl .str) .e)))) .e)), .bool, (.p (.int .i64) (.p (.int .i64) .e))], stack_Drop_12⟩ :=
  Fn.of (c := ⟨Try.prog, [(23, 1), (24, 1), (10, 3)], [], [], stack_Drop_12_h⟩) (fs := [⟨23, [(.sl (.p (.sl (.p (.int .i64) (.p (.sl .str) (.p (.sl .str) .e)))) .e))], [(.p (.int .i64) (.p (.int .i64) .e))], stack_Validate_23⟩, ⟨24, [(.sl (.p (.sl (.p (.int .i64) (.p (.sl .str) (.p (.sl .str) .e)))) .e)), (.int .i64), (.int .i64)], [(.p (.int .i64) (.p (.int .i64) .e))], stack_position_24⟩, ⟨10, [(.sl (.p (.sl (.p (.int .i64) (.p (.sl .str) (.p (.sl .str) .e)))) .e)), (.int .i64), (.int .i64)], [(.sl (.p (.sl (.p (.int .i64) (.p (.sl .str) (.p (.sl .str) .e)))) .e)), .bool, (.p (.int .i64) (.p (.int .i64) .e))], stack_Move_10⟩]) (gs := []) (an := [(.int .i64), (.int .i64), (.p (.int .i64) (.p (.int .i64) .e)), (.p (.int .i64) (.p (.int .i64) .e)), .bool, (.p (.int .i64) (.p (.int .i64) .e)), (.int .i64), (.int .i64), (.p (.int .i64) (.p (.int .i64) .e)), (.p (.int .i64) (.p (.int .i64) .e)), .bool, (.p (.int .i64) (.p (.int .i64) .e)), (.int .i64), (.int .i64), (.int .i64), (.int .i64), .bool, (.p (.int .i64) (.p (.int .i64) .e)), (.int .i64), (.int .i64), (.sl (.p (.sl (.p (.int .i64) (.p (.sl .str) (.p (.sl .str) .e)))) .e)), (.p (.int .i64) (.p (.int .i64) .e))]) (by kernel_rfl) Try.func12 (by kernel_rfl) (by kernel_rfl) (by simp only [List.forall_mem_cons, List.not_mem_nil, false_implies, implies_true, and_true]; exact ⟨stack_Validate_23_ok, stack_position_24_ok, stack_Move_10_ok⟩) (fun _ h => by cases h) (by kernel_rfl)


/- changeforge/changeforgeequal.Strings -/
def changeforgeequal_Strings_17_h : List (Nat × SS × Nat) := [(29, ⟨us 26, [], []⟩, 0), (58, ⟨[.d (.v 0), .d (.v 1), .unk, .unk, .unk, .d (.v 5)] ++ us 20, [], []⟩, 1)]
theorem changeforgeequal_Strings_17_ok : Fn.Ok Try.prog ⟨17, [(.sl .str), (.sl .str)], [.bool], changeforgeequal_Strings_17⟩ :=
  Fn.of (c := ⟨Try.prog, [], [], [], changeforgeequal_Strings_17_h⟩) (fs := []) (gs := []) (an := [(.int .i64), (.int .i64), .bool, (.int .i64), (.int .i64), .bool, .str, .str, .str, .str, .bool, (.int .i64)]) (by kernel_rfl) Try.func17 (by kernel_rfl) (by kernel_rfl) (fun _ h => by cases h) (fun _ h => by cases h) (by kernel_rfl)


/- changeforge/changeforgeequal.Patch -/
def changeforgeequal_Patch_31_h : List (Nat × SS × Nat) := [(29, ⟨us 65, [], []⟩, 0), (1864, ⟨[.unk, .unk, .box 2 0, .box 3 0, .unk, .d (.v 10)] ++ us 58 ++ [.d (.v 11)], [(2, .cs ([.d (.v 2)])), (3, .cs ([.d (.v 3)]))], []⟩, 2), (58, ⟨[.unk, .unk, .box 2 0, .box 3 0, .unk, .d (.v 7)] ++ us 59, [(2, .cs ([.d (.v 2)])), (3, .cs ([.d (.v 3)]))], []⟩, 1)]
theorem changeforgeequal_Patch_31_ok : Fn.Ok Try.prog ⟨31, [(.p (.sl (.p (.int .i64) (.p (.sl .str) (.p (.sl .str) .e)))) .e), (.p (.sl (.p (.int .i64) (.p (.sl .str) (.p (.sl .str) .e)))) .e)], [.bool], changeforgeequal_Patch_31⟩ :=
  Fn.of (c := ⟨Try.prog, [(17, 1)], [], [], changeforgeequal_Patch_31_h⟩) (fs := [⟨17, [(.sl .str), (.sl .str)], [.bool], changeforgeequal_Strings_17⟩]) (gs := []) (an := [(.sl (.p (.int .i64) (.p (.sl .str) (.p (.sl .str) .e)))), (.sl (.p (.int .i64) (.p (.sl .str) (.p (.sl .str) .e)))), (.int .i64), (.int .i64), .bool, (.int .i64), (.int .i64), .bool, (.int .i64), .bool, (.int .i64), (.p (.int .i64) (.p (.sl .str) (.p (.sl .str) .e))), (.int .i64), (.p (.int .i64) (.p (.sl .str) (.p (.sl .str) .e))), (.int .i64), .bool, (.p (.int .i64) (.p (.sl .str) (.p (.sl .str) .e))), (.sl .str), (.p (.int .i64) (.p (.sl .str) (.p (.sl .str) .e))), (.sl .str), .bool, (.p (.int .i64) (.p (.sl .str) (.p (.sl .str) .e))), (.sl .str), (.p (.int .i64) (.p (.sl .str) (.p (.sl .str) .e))), (.sl .str), .bool]) (by kernel_rfl) Try.func31 (by kernel_rfl) (by kernel_rfl) (by simp only [List.forall_mem_cons, List.not_mem_nil, false_implies, implies_true, and_true]; exact changeforgeequal_Strings_17_ok) (fun _ h => by cases h) (by kernel_rfl)


/- changeforge/changeforgeequal.Patches -/
def changeforgeequal_Patches_14_h : List (Nat × SS × Nat) := [(29, ⟨us 27, [], []⟩, 0), (58, ⟨[.d (.v 0), .d (.v 1), .unk, .unk, .unk, .d (.v 5)] ++ us 21, [], []⟩, 1)]
theorem changeforgeequal_Patches_14_ok : Fn.Ok Try.prog ⟨14, [(.sl (.p (.sl (.p (.int .i64) (.p (.sl .str) (.p (.sl .str) .e)))) .e)), (.sl (.p (.sl (.p (.int .i64) (.p (.sl .str) (.p (.sl .str) .e)))) .e))], [.bool], changeforgeequal_Patches_14⟩ :=
  Fn.of (c := ⟨Try.prog, [(31, 1)], [], [], changeforgeequal_Patches_14_h⟩) (fs := [⟨31, [(.p (.sl (.p (.int .i64) (.p (.sl .str) (.p (.sl .str) .e)))) .e), (.p (.sl (.p (.int .i64) (.p (.sl .str) (.p (.sl .str) .e)))) .e)], [.bool], changeforgeequal_Patch_31⟩]) (gs := []) (an := [(.int .i64), (.int .i64), .bool, (.int .i64), (.int .i64), .bool, (.p (.sl (.p (.int .i64) (.p (.sl .str) (.p (.sl .str) .e)))) .e), (.p (.sl (.p (.int .i64) (.p (.sl .str) (.p (.sl .str) .e)))) .e), (.p (.sl (.p (.int .i64) (.p (.sl .str) (.p (.sl .str) .e)))) .e), (.p (.sl (.p (.int .i64) (.p (.sl .str) (.p (.sl .str) .e)))) .e), .bool, (.int .i64)]) (by kernel_rfl) Try.func14 (by kernel_rfl) (by kernel_rfl) (by simp only [List.forall_mem_cons, List.not_mem_nil, false_implies, implies_true, and_true]; exact changeforgeequal_Patch_31_ok) (fun _ h => by cases h) (by kernel_rfl)


/- changeforge/changeforgelaw2.single -/
def changeforgelaw2_single_32_h : List (Nat × SS × Nat) := []
theorem changeforgelaw2_single_32_ok : Fn.Ok Try.prog ⟨32, [(.int .i64), (.sl .str), (.sl .str)], [(.p (.sl (.p (.int .i64) (.p (.sl .str) (.p (.sl .str) .e)))) .e)], changeforgelaw2_single_32⟩ :=
  Fn.of (c := ⟨Try.prog, [], [], [], changeforgelaw2_single_32_h⟩) (fs := []) (gs := []) (an := [(.int .i64), (.sl .str), (.sl .str), (.p (.int .i64) (.p (.sl .str) (.p (.sl .str) .e))), (.sl (.p (.int .i64) (.p (.sl .str) (.p (.sl .str) .e)))), (.sl (.p (.int .i64) (.p (.sl .str) (.p (.sl .str) .e)))), (.p (.sl (.p (.int .i64) (.p (.sl .str) (.p (.sl .str) .e)))) .e)]) (by kernel_rfl) Try.func32 (by kernel_rfl) (by kernel_rfl) (fun _ h => by cases h) (fun _ h => by cases h) (by kernel_rfl)


/- slices.Equal[[]string,string] -/
def slices_Equal___string_string__43_h : List (Nat × SS × Nat) := [(29, ⟨us 26, [], []⟩, 0), (58, ⟨[.d (.v 0), .d (.v 1)] ++ us 10 ++ [.d (.v 5), .d (.v 6)] ++ us 12, [], []⟩, 1)]
theorem slices_Equal___string_string__43_ok : Fn.Ok Try.prog ⟨43, [(.sl .str), (.sl .str)], [.bool], slices_Equal___string_string__43⟩ :=
  Fn.of (c := ⟨Try.prog, [], [], [], slices_Equal___string_string__43_h⟩) (fs := []) (gs := []) (an := [(.int .i64), (.int .i64), .bool, (.int .i64), (.int .i64), .bool, .str, .str, .str, .str, .bool, (.int .i64)]) (by kernel_rfl) Try.func43 (by kernel_rfl) (by kernel_rfl) (fun _ h => by cases h) (fun _ h => by cases h) (by kernel_rfl)


/- changeforge/textpatch.Apply -/
def textpatch_Apply_19_h : List (Nat × SS × Nat) := [(253, ⟨[.unk, .d (.v 1), .unk, .unk, .unk, .box 5 0, .unk, .unk, .grow 9 1 13, .d (.v 14)] ++ us 65, [(5, .cs ([.d (.k (.int .i64 0)), .d (.k (.int .i64 0))]))], [.t 60, .t 57]⟩, 2), (129636, ⟨[.unk, .d (.v 1), .unk, .unk, .unk, .box 5 0, .unk, .unk, .grow 9 1 22, .d (.v 23), .d (.v 24), .box 11 0] ++ us 13 ++ [.d (.v 2), .d (.v 12), .d (.v 24)] ++ us 20 ++ [.d (.v 25)] ++ us 26, [(5, .cs ([.d (.k (.int .i64 0)), .d (.k (.int .i64 0))])), (11, .cs ([.d (.v 26), .d (.v 27), .d (.v 28)]))], [.t 60, .t 57]⟩, 7), (506, ⟨[.unk, .d (.v 1), .unk, .unk, .unk, .box 5 0, .unk, .unk, .grow 9 1 13, .d (.v 14)] ++ us 15 ++ [.d (.v 2), .d (.v 12), .d (.v 15)] ++ us 47, [(5, .cs ([.d (.k (.int .i64 0)), .d (.k (.int .i64 0))]))], [.t 60, .t 57]⟩, 3)]
theorem textpatch_Apply_19_ok : Fn.Ok Try.prog ⟨19, [(.p (.sl (.p (.int .i64) (.p (.sl .str) (.p (.sl .str) .e)))) .e), (.sl .str)], [(.sl .str), (.p (.int .i64) (.p (.int .i64) .e))], textpatch_Apply_19⟩ :=
  Fn.of (c := ⟨Try.prog, [(41, 1), (33, 1), (42, 1), (43, 1)], [], [], textpatch_Apply_19_h⟩) (fs := [⟨41, [(.p (.sl (.p (.int .i64) (.p (.sl .str) (.p (.sl .str) .e)))) .e)], [(.p (.int .i64) (.p (.int .i64) .e))], textpatch_Validate_41⟩, ⟨33, [(.sl .str)], [(.int .i64)], lines_Code_33⟩, ⟨42, [(.p (.int .i64) (.p (.sl .str) (.p (.sl .str) .e)))], [(.int .i64)], textpatch_End_42⟩, ⟨43, [(.sl .str), (.sl .str)], [.bool], slices_Equal___string_string__43⟩]) (gs := []) (an := [(.sl (.p (.int .i64) (.p (.sl .str) (.p (.sl .str) .e)))), (.p (.sl (.p (.int .i64) (.p (.sl .str) (.p (.sl .str) .e)))) .e), (.int .i64), (.int .i64), (.p (.int .i64) (.p (.int .i64) .e)), (.p (.int .i64) (.p (.int .i64) .e)), .bool, (.p (.int .i64) (.p (.int .i64) .e)), .bool, (.int .i64), (.p (.int .i64) (.p (.int .i64) .e)), (.int .i64), (.sl .str), (.int .i64), (.sl .str), (.sl .str), (.int .i64), .bool, (.p (.int .i64) (.p (.int .i64) .e)), (.p (.int .i64) (.p (.int .i64) .e)), (.sl .str), (.int .i64), (.int .i64), .bool, (.p (.int .i64) (.p (.sl .str) (.p (.sl .str) .e))), (.p (.int .i64) (.p (.sl .str) (.p (.sl .str) .e))), (.int .i64), (.sl .str), (.sl .str), (.sl .str), (.int .i64), (.int .i64), .bool, (.int .i64), (.sl .str), (.sl .str), (.int .i64), (.p (.int .i64) (.p (.int .i64) .e)), (.sl .str), (.sl .str), (.sl .str), (.p (.int .i64) (.p (.sl .str) (.p (.sl .str) .e))), (.int .i64), (.p (.int .i64) (.p (.sl .str) (.p (.sl .str) .e))), (.int .i64), .bool, (.p (.int .i64) (.p (.sl .str) (.p (.sl .str) .e))), (.sl .str), .bool]) (by kernel_rfl) Try.func19 (by kernel_rfl) (by kernel_rfl) (by simp only [List.forall_mem_cons, List.not_mem_nil, false_implies, implies_true, and_true]; exact ⟨textpatch_Validate_41_ok, lines_Code_33_ok, textpatch_End_42_ok, slices_Equal___string_string__43_ok⟩) (fun _ h => by cases h) (by kernel_rfl)


end Go.Proofs.Ytfepfapfogpfkaa.F
end
section
/- That they do: printed by a program of ours. -/
namespace Go.Proofs.Ytfepfapfogpfkaa.F
open Go Go.Proofs.Ytfepfapfogpfkaa.V
set_option maxRecDepth 100000
set_option linter.unusedVariables false

/- changeforge/stack.Apply -/
def stack_Apply_16_h : List (Nat × SS × Nat) := [(125, ⟨us 5 ++ [.box 5 0, .unk, .unk, .d (.v 12)] ++ us 42, [(5, .cs ([.d (.k (.int .i64 0)), .d (.k (.int .i64 0))]))], []⟩, 1), (250, ⟨us 5 ++ [.box 5 0, .unk, .unk, .d (.v 12)] ++ us 18 ++ [.d (.v 1), .d (.v 11), .d (.v 13)] ++ us 21, [(5, .cs ([.d (.k (.int .i64 0)), .d (.k (.int .i64 0))]))], []⟩, 2)]
theorem stack_Apply_16_ok : Fn.Ok Try.prog ⟨16, [(.sl .str), (.sl (.p (.sl (.p (.int .i64) (.p (.sl .str) (.p (.sl .str) .e)))) .e))], [(.sl .str), (.p (.int .i64) (.p (.int .i64) .e))], stack_Apply_16⟩ :=
  Fn.of (c := ⟨Try.prog, [(23, 1), (33, 1), (34, 1), (19, 2)], [], [], stack_Apply_16_h⟩) (fs := [⟨23, [(.sl (.p (.sl (.p (.int .i64) (.p (.sl .str) (.p (.sl .str) .e)))) .e))], [(.p (.int .i64) (.p (.int .i64) .e))], stack_Validate_23⟩, ⟨33, [(.sl .str)], [(.int .i64)], lines_Code_33⟩, ⟨34, [(.sl .str)], [(.sl .str)], slices_Clone___string_string__34⟩, ⟨19, [(.p (.sl (.p (.int .i64) (.p (.sl .str) (.p (.sl .str) .e)))) .e), (.sl .str)], [(.sl .str), (.p (.int .i64) (.p (.int .i64) .e))], textpatch_Apply_19⟩]) (gs := []) (an := [(.int .i64), (.int .i64), (.p (.int .i64) (.p (.int .i64) .e)), (.p (.int .i64) (.p (.int .i64) .e)), .bool, (.p (.int .i64) (.p (.int .i64) .e)), .bool, (.int .i64), (.p (.int .i64) (.p (.int .i64) .e)), (.int .i64), (.sl .str), (.p (.int .i64) (.p (.int .i64) .e)), (.sl .str), (.int .i64), .bool, (.p (.sl (.p (.int .i64) (.p (.sl .str) (.p (.sl .str) .e)))) .e), (.p (.sl (.p (.int .i64) (.p (.sl .str) (.p (.sl .str) .e)))) .e), (.sl (.p (.int .i64) (.p (.sl .str) (.p (.sl .str) .e)))), (.p (.sl (.p (.int .i64) (.p (.sl .str) (.p (.sl .str) .e)))) .e), (.int .i64), (.int .i64), (.p (.int .i64) (.p (.int .i64) .e)), (.p (.int .i64) (.p (.int .i64) .e)), .bool, (.int .i64), (.int .i64), (.p (.int .i64) (.p (.int .i64) .e)), (.int .i64)]) (by kernel_rfl) Try.func16 (by kernel_rfl) (by kernel_rfl) (by simp only [List.forall_mem_cons, List.not_mem_nil, false_implies, implies_true, and_true]; exact ⟨stack_Validate_23_ok, lines_Code_33_ok, slices_Clone___string_string__34_ok, textpatch_Apply_19_ok⟩) (fun _ h => by cases h) (by kernel_rfl)


/- changeforge/changeforgelaw2.dropped -/
def changeforgelaw2_dropped_15_h : List (Nat × SS × Nat) := [(62, ⟨[.d (.v 18)] ++ us 45, [], []⟩, 1)]
theorem changeforgelaw2_dropped_15_ok : Fn.Ok Try.prog ⟨15, [], [.bool], changeforgelaw2_dropped_15⟩ :=
  Fn.of (c := ⟨Try.prog, [(32, 1), (12, 3), (16, 2), (14, 1), (17, 1)], [], [], changeforgelaw2_dropped_15_h⟩) (fs := [⟨32, [(.int .i64), (.sl .str), (.sl .str)], [(.p (.sl (.p (.int .i64) (.p (.sl .str) (.p (.sl .str) .e)))) .e)], changeforgelaw2_single_32⟩, ⟨12, [(.sl (.p (.sl (.p (.int .i64) (.p (.sl .str) (.p (.sl .str) .e)))) .e)), (.int .i64)], [(.sl (.p (.sl (.p (.int .i64) (.p (.sl .str) (.p (.sl .str) .e)))) .e)), .bool, (.p (.int .i64) (.p (.int .i64) .e))], stack_Drop_12⟩, ⟨16, [(.sl .str), (.sl (.p (.sl (.p (.int .i64) (.p (.sl .str) (.p (.sl .str) .e)))) .e))], [(.sl .str), (.p (.int .i64) (.p (.int .i64) .e))], stack_Apply_16⟩, ⟨14, [(.sl (.p (.sl (.p (.int .i64) (.p (.sl .str) (.p (.sl .str) .e)))) .e)), (.sl (.p (.sl (.p (.int .i64) (.p (.sl .str) (.p (.sl .str) .e)))) .e))], [.bool], changeforgeequal_Patches_14⟩, ⟨17, [(.sl .str), (.sl .str)], [.bool], changeforgeequal_Strings_17⟩]) (gs := []) (an := [(.sl .str), (.sl (.p (.int .i64) (.p (.sl .str) (.p (.sl .str) .e)))), (.sl .str), (.p (.sl (.p (.int .i64) (.p (.sl .str) (.p (.sl .str) .e)))) .e), (.sl (.p (.sl (.p (.int .i64) (.p (.sl .str) (.p (.sl .str) .e)))) .e)), (.int .i64), (.int .i64), (.p (.sl (.p (.int .i64) (.p (.sl .str) (.p (.sl .str) .e)))) .e), (.sl (.p (.sl (.p (.int .i64) (.p (.sl .str) (.p (.sl .str) .e)))) .e)), (.int .i64), (.int .i64), .bool, .bool, .bool, (.p (.sl (.p (.int .i64) (.p (.sl .str) (.p (.sl .str) .e)))) .e), (.sl (.p (.sl (.p (.int .i64) (.p (.sl .str) (.p (.sl .str) .e)))) .e)), (.sl .str)]) (by kernel_rfl) Try.func15 (by kernel_rfl) (by kernel_rfl) (by simp only [List.forall_mem_cons, List.not_mem_nil, false_implies, implies_true, and_true]; exact ⟨changeforgelaw2_single_32_ok, stack_Drop_12_ok, stack_Apply_16_ok, changeforgeequal_Patches_14_ok, changeforgeequal_Strings_17_ok⟩) (fun _ h => by cases h) (by kernel_rfl)


/- changeforge/changeforgelaw2.StackMoveSameEffect -/
def changeforgelaw2_StackMoveSameEffect_4_h : List (Nat × SS × Nat) := [(254, ⟨us 8 ++ [.d (.v 19)] ++ us 55, [], []⟩, 1), (60, ⟨[.d (.v 0)] ++ us 8 ++ [.d (.v 4), .unk, .unk, .d (.v 9)] ++ us 28 ++ [.d (.v 13)] ++ us 22, [], []⟩, 1)]
theorem changeforgelaw2_StackMoveSameEffect_4_ok : Fn.Ok Try.prog ⟨4, [(.sl .str), (.sl (.p (.sl (.p (.int .i64) (.p (.sl .str) (.p (.sl .str) .e)))) .e)), (.int .i64), (.int .i64)], [.bool], changeforgelaw2_StackMoveSameEffect_4⟩ :=
  Fn.of (c := ⟨Try.prog, [(10, 3), (16, 2), (15, 1), (17, 1)], [], [], changeforgelaw2_StackMoveSameEffect_4_h⟩) (fs := [⟨10, [(.sl (.p (.sl (.p (.int .i64) (.p (.sl .str) (.p (.sl .str) .e)))) .e)), (.int .i64), (.int .i64)], [(.sl (.p (.sl (.p (.int .i64) (.p (.sl .str) (.p (.sl .str) .e)))) .e)), .bool, (.p (.int .i64) (.p (.int .i64) .e))], stack_Move_10⟩, ⟨16, [(.sl .str), (.sl (.p (.sl (.p (.int .i64) (.p (.sl .str) (.p (.sl .str) .e)))) .e))], [(.sl .str), (.p (.int .i64) (.p (.int .i64) .e))], stack_Apply_16⟩, ⟨15, [], [.bool], changeforgelaw2_dropped_15⟩, ⟨17, [(.sl .str), (.sl .str)], [.bool], changeforgeequal_Strings_17⟩]) (gs := []) (an := [(.int .i64), (.int .i64), (.int .i64), (.int .i64), .bool, (.int .i64), (.int .i64), .bool, .bool, .bool, .bool, .bool, .bool]) (by kernel_rfl) Try.func4 (by kernel_rfl) (by kernel_rfl) (by simp only [List.forall_mem_cons, List.not_mem_nil, false_implies, implies_true, and_true]; exact ⟨stack_Move_10_ok, stack_Apply_16_ok, changeforgelaw2_dropped_15_ok, changeforgeequal_Strings_17_ok⟩) (fun _ h => by cases h) (by kernel_rfl)


/- changeforge/changeforgelaw2.StackMoveBack -/
def changeforgelaw2_StackMoveBack_5_h : List (Nat × SS × Nat) := [(62, ⟨us 6 ++ [.d (.v 14)] ++ us 44, [], []⟩, 1), (28, ⟨[.d (.v 0), .d (.v 1), .d (.v 2)] ++ us 4 ++ [.d (.v 3)] ++ us 19 ++ [.d (.v 8)] ++ us 23, [], []⟩, 1)]
theorem changeforgelaw2_StackMoveBack_5_ok : Fn.Ok Try.prog ⟨5, [(.sl (.p (.sl (.p (.int .i64) (.p (.sl .str) (.p (.sl .str) .e)))) .e)), (.int .i64), (.int .i64)], [.bool], changeforgelaw2_StackMoveBack_5⟩ :=
  Fn.of (c := ⟨Try.prog, [(10, 3), (15, 1), (14, 1)], [], [], changeforgelaw2_StackMoveBack_5_h⟩) (fs := [⟨10, [(.sl (.p (.sl (.p (.int .i64) (.p (.sl .str) (.p (.sl .str) .e)))) .e)), (.int .i64), (.int .i64)], [(.sl (.p (.sl (.p (.int .i64) (.p (.sl .str) (.p (.sl .str) .e)))) .e)), .bool, (.p (.int .i64) (.p (.int .i64) .e))], stack_Move_10⟩, ⟨15, [], [.bool], changeforgelaw2_dropped_15⟩, ⟨14, [(.sl (.p (.sl (.p (.int .i64) (.p (.sl .str) (.p (.sl .str) .e)))) .e)), (.sl (.p (.sl (.p (.int .i64) (.p (.sl .str) (.p (.sl .str) .e)))) .e))], [.bool], changeforgeequal_Patches_14⟩]) (gs := []) (an := [(.int .i64), (.int .i64), .bool, (.int .i64), (.int .i64), .bool, .bool, .bool, .bool]) (by kernel_rfl) Try.func5 (by kernel_rfl) (by kernel_rfl) (by simp only [List.forall_mem_cons, List.not_mem_nil, false_implies, implies_true, and_true]; exact ⟨stack_Move_10_ok, changeforgelaw2_dropped_15_ok, changeforgeequal_Patches_14_ok⟩) (fun _ h => by cases h) (by kernel_rfl)


/- changeforge/changeforgelaw2.StackNeighbors -/
def changeforgelaw2_StackNeighbors_6_h : List (Nat × SS × Nat) := [(126, ⟨us 4 ++ [.d (.v 23)] ++ us 77, [], [.t 71, .t 67, .t 63]⟩, 1), (124, ⟨[.d (.v 0), .d (.v 1), .unk, .unk, .unk, .d (.v 3), .d (.v 4), .unk, .box 8 0, .box 9 0] ++ us 48 ++ [.d (.v 22)] ++ us 23, [(8, .cs ([.d (.v 18)])), (9, .cs ([.d (.v 19)]))], []⟩, 1), (28, ⟨[.d (.v 0), .d (.v 1), .unk, .unk, .unk, .d (.v 3), .d (.v 4)] ++ us 27 ++ [.d (.v 8)] ++ us 47, [], []⟩, 1)]
theorem changeforgelaw2_StackNeighbors_6_ok : Fn.Ok Try.prog ⟨6, [(.sl (.p (.sl (.p (.int .i64) (.p (.sl .str) (.p (.sl .str) .e)))) .e)), (.int .i64)], [.bool], changeforgelaw2_StackNeighbors_6⟩ :=
  Fn.of (c := ⟨Try.prog, [(10, 3), (15, 1), (18, 4), (14, 1)], [], [], changeforgelaw2_StackNeighbors_6_h⟩) (fs := [⟨10, [(.sl (.p (.sl (.p (.int .i64) (.p (.sl .str) (.p (.sl .str) .e)))) .e)), (.int .i64), (.int .i64)], [(.sl (.p (.sl (.p (.int .i64) (.p (.sl .str) (.p (.sl .str) .e)))) .e)), .bool, (.p (.int .i64) (.p (.int .i64) .e))], stack_Move_10⟩, ⟨15, [], [.bool], changeforgelaw2_dropped_15⟩, ⟨18, [(.p (.sl (.p (.int .i64) (.p (.sl .str) (.p (.sl .str) .e)))) .e), (.p (.sl (.p (.int .i64) (.p (.sl .str) (.p (.sl .str) .e)))) .e)], [(.p (.sl (.p (.int .i64) (.p (.sl .str) (.p (.sl .str) .e)))) .e), (.p (.sl (.p (.int .i64) (.p (.sl .str) (.p (.sl .str) .e)))) .e), .bool, (.p (.int .i64) (.p (.int .i64) .e))], commute_Commute_18⟩, ⟨14, [(.sl (.p (.sl (.p (.int .i64) (.p (.sl .str) (.p (.sl .str) .e)))) .e)), (.sl (.p (.sl (.p (.int .i64) (.p (.sl .str) (.p (.sl .str) .e)))) .e))], [.bool], changeforgeequal_Patches_14⟩]) (gs := []) (an := [(.int .i64), (.int .i64), (.int .i64), .bool, (.p (.sl (.p (.int .i64) (.p (.sl .str) (.p (.sl .str) .e)))) .e), (.p (.sl (.p (.int .i64) (.p (.sl .str) (.p (.sl .str) .e)))) .e), (.int .i64), (.p (.sl (.p (.int .i64) (.p (.sl .str) (.p (.sl .str) .e)))) .e), (.p (.sl (.p (.int .i64) (.p (.sl .str) (.p (.sl .str) .e)))) .e), (.sl (.p (.int .i64) (.p (.sl .str) (.p (.sl .str) .e)))), (.sl (.p (.int .i64) (.p (.sl .str) (.p (.sl .str) .e)))), (.int .i64), (.int .i64), .bool, .bool, .bool, (.sl (.p (.sl (.p (.int .i64) (.p (.sl .str) (.p (.sl .str) .e)))) .e)), (.sl (.p (.sl (.p (.int .i64) (.p (.sl .str) (.p (.sl .str) .e)))) .e)), (.sl (.p (.sl (.p (.int .i64) (.p (.sl .str) (.p (.sl .str) .e)))) .e)), (.p (.sl (.p (.int .i64) (.p (.sl .str) (.p (.sl .str) .e)))) .e), (.p (.sl (.p (.int .i64) (.p (.sl .str) (.p (.sl .str) .e)))) .e), (.sl (.p (.sl (.p (.int .i64) (.p (.sl .str) (.p (.sl .str) .e)))) .e)), (.sl (.p (.sl (.p (.int .i64) (.p (.sl .str) (.p (.sl .str) .e)))) .e)), (.int .i64), (.sl (.p (.sl (.p (.int .i64) (.p (.sl .str) (.p (.sl .str) .e)))) .e)), (.sl (.p (.sl (.p (.int .i64) (.p (.sl .str) (.p (.sl .str) .e)))) .e)), .bool, .bool, .bool, .bool, (.int .i64), (.int .i64), .bool]) (by kernel_rfl) Try.func6 (by kernel_rfl) (by kernel_rfl) (by simp only [List.forall_mem_cons, List.not_mem_nil, false_implies, implies_true, and_true]; exact ⟨stack_Move_10_ok, changeforgelaw2_dropped_15_ok, commute_Commute_18_ok, changeforgeequal_Patches_14_ok⟩) (fun _ h => by cases h) (by kernel_rfl)


/- changeforge/changeforgelaw2.StackDropUndone -/
def changeforgelaw2_StackDropUndone_7_h : List (Nat × SS × Nat) := [(1022, ⟨us 6 ++ [.d (.v 33)] ++ us 99, [], []⟩, 1), (2036, ⟨us 6 ++ [.d (.v 25)] ++ us 99, [], []⟩, 1), (124, ⟨[.d (.v 0)] ++ us 6 ++ [.d (.v 3), .unk, .unk, .d (.v 10), .unk, .unk, .d (.v 15)] ++ us 53 ++ [.d (.v 19)] ++ us 38, [], []⟩, 1)]
theorem changeforgelaw2_StackDropUndone_7_ok : Fn.Ok Try.prog ⟨7, [(.sl .str), (.sl (.p (.sl (.p (.int .i64) (.p (.sl .str) (.p (.sl .str) .e)))) .e)), (.int .i64)], [.bool], changeforgelaw2_StackDropUndone_7⟩ :=
  Fn.of (c := ⟨Try.prog, [(12, 3), (10, 3), (16, 2), (15, 1), (19, 2), (17, 1)], [], [], changeforgelaw2_StackDropUndone_7_h⟩) (fs := [⟨12, [(.sl (.p (.sl (.p (.int .i64) (.p (.sl .str) (.p (.sl .str) .e)))) .e)), (.int .i64)], [(.sl (.p (.sl (.p (.int .i64) (.p (.sl .str) (.p (.sl .str) .e)))) .e)), .bool, (.p (.int .i64) (.p (.int .i64) .e))], stack_Drop_12⟩, ⟨10, [(.sl (.p (.sl (.p (.int .i64) (.p (.sl .str) (.p (.sl .str) .e)))) .e)), (.int .i64), (.int .i64)], [(.sl (.p (.sl (.p (.int .i64) (.p (.sl .str) (.p (.sl .str) .e)))) .e)), .bool, (.p (.int .i64) (.p (.int .i64) .e))], stack_Move_10⟩, ⟨16, [(.sl .str), (.sl (.p (.sl (.p (.int .i64) (.p (.sl .str) (.p (.sl .str) .e)))) .e))], [(.sl .str), (.p (.int .i64) (.p (.int .i64) .e))], stack_Apply_16⟩, ⟨15, [], [.bool], changeforgelaw2_dropped_15⟩, ⟨19, [(.p (.sl (.p (.int .i64) (.p (.sl .str) (.p (.sl .str) .e)))) .e), (.sl .str)], [(.sl .str), (.p (.int .i64) (.p (.int .i64) .e))], textpatch_Apply_19⟩, ⟨17, [(.sl .str), (.sl .str)], [.bool], changeforgeequal_Strings_17⟩]) (gs := []) (an := [(.int .i64), (.int .i64), (.int .i64), (.int .i64), (.int .i64), (.int .i64), (.int .i64), (.int .i64), .bool, (.int .i64), (.int .i64), .bool, .bool, .bool, (.int .i64), (.int .i64), (.p (.sl (.p (.int .i64) (.p (.sl .str) (.p (.sl .str) .e)))) .e), (.p (.sl (.p (.int .i64) (.p (.sl .str) (.p (.sl .str) .e)))) .e), (.int .i64), (.int .i64), .bool, .bool, .bool, .bool, .bool, .bool, .bool, (.int .i64), .bool]) (by kernel_rfl) Try.func7 (by kernel_rfl) (by kernel_rfl) (by simp only [List.forall_mem_cons, List.not_mem_nil, false_implies, implies_true, and_true]; exact ⟨stack_Drop_12_ok, stack_Move_10_ok, stack_Apply_16_ok, changeforgelaw2_dropped_15_ok, textpatch_Apply_19_ok, changeforgeequal_Strings_17_ok⟩) (fun _ h => by cases h) (by kernel_rfl)


/- changeforge/changeforgeref1.Equal -/
def changeforgeref1_Equal_69_h : List (Nat × SS × Nat) := [(29, ⟨us 26, [], []⟩, 0), (58, ⟨[.d (.v 0), .d (.v 1), .unk, .unk, .unk, .d (.v 5)] ++ us 20, [], []⟩, 1)]
theorem changeforgeref1_Equal_69_ok : Fn.Ok Try.prog ⟨69, [(.sl .str), (.sl .str)], [.bool], changeforgeref1_Equal_69⟩ :=
  Fn.of (c := ⟨Try.prog, [], [], [], changeforgeref1_Equal_69_h⟩) (fs := []) (gs := []) (an := [(.int .i64), (.int .i64), .bool, (.int .i64), (.int .i64), .bool, .str, .str, .str, .str, .bool, (.int .i64)]) (by kernel_rfl) Try.func69 (by kernel_rfl) (by kernel_rfl) (fun _ h => by cases h) (fun _ h => by cases h) (by kernel_rfl)


/- changeforge/changeforgeref1.has -/
def changeforgeref1_has_57_h : List (Nat × SS × Nat) := [(12, ⟨[.d (.v 0), .d (.v 1), .d (.v 2)] ++ us 14 ++ [.d (.v 3)] ++ us 9, [], []⟩, 1)]
theorem changeforgeref1_has_57_ok : Fn.Ok Try.prog ⟨57, [(.sl .str), (.int .i64), (.sl .str)], [.bool], changeforgeref1_has_57⟩ :=
  Fn.of (c := ⟨Try.prog, [(69, 1)], [], [], changeforgeref1_has_57_h⟩) (fs := [⟨69, [(.sl .str), (.sl .str)], [.bool], changeforgeref1_Equal_69⟩]) (gs := []) (an := [.bool, (.int .i64), (.int .i64), (.sl .str), .bool, (.int .i64), (.int .i64), (.int .i64), .bool]) (by kernel_rfl) Try.func57 (by kernel_rfl) (by kernel_rfl) (by simp only [List.forall_mem_cons, List.not_mem_nil, false_implies, implies_true, and_true]; exact changeforgeref1_Equal_69_ok) (fun _ h => by cases h) (by kernel_rfl)


/- changeforge/changeforgeref1.fits -/
def changeforgeref1_fits_64_h : List (Nat × SS × Nat) := []
theorem changeforgeref1_fits_64_ok : Fn.Ok Try.prog ⟨64, [(.p (.sl (.p (.int .i64) (.p (.sl .str) (.p (.sl .str) .e)))) .e)], [(.p (.sl (.p (.int .i64) (.p (.sl .str) (.p (.sl .str) .e)))) .e), (.p (.int .i64) (.p (.int .i64) .e))], changeforgeref1_fits_64⟩ :=
  Fn.of (c := ⟨Try.prog, [(50, 1), (29, 1)], [], [], changeforgeref1_fits_64_h⟩) (fs := [⟨50, [(.p (.sl (.p (.int .i64) (.p (.sl .str) (.p (.sl .str) .e)))) .e)], [(.p (.int .i64) (.p (.int .i64) .e))], changeforgeref1_PatchFault_50⟩, ⟨29, [(.int .i64), (.int .i64)], [(.p (.int .i64) (.p (.int .i64) .e))], changeforgeref1_At_29⟩]) (gs := []) (an := [(.sl (.p (.int .i64) (.p (.sl .str) (.p (.sl .str) .e)))), (.p (.sl (.p (.int .i64) (.p (.sl .str) (.p (.sl .str) .e)))) .e), (.int .i64), .bool, (.int .i64), (.int .i64), (.p (.sl (.p (.int .i64) (.p (.sl .str) (.p (.sl .str) .e)))) .e), (.p (.int .i64) (.p (.int .i64) .e)), (.p (.sl (.p (.int .i64) (.p (.sl .str) (.p (.sl .str) .e)))) .e), (.p (.int .i64) (.p (.int .i64) .e))]) (by kernel_rfl) Try.func64 (by kernel_rfl) (by kernel_rfl) (by simp only [List.forall_mem_cons, List.not_mem_nil, false_implies, implies_true, and_true]; exact ⟨changeforgeref1_PatchFault_50_ok, changeforgeref1_At_29_ok⟩) (fun _ h => by cases h) (by kernel_rfl)

end Go.Proofs.Ytfepfapfogpfkaa.F
end
section
/- What more functions compute: printed by a program of ours. -/
namespace Go.Proofs.Ytfepfapfogpfkaa.F
open Go Go.Proofs.Ytfepfapfogpfkaa.V
set_option maxRecDepth 100000
set_option linter.unusedVariables false
/- changeforge/changeforgeref2.carried -/
noncomputable def changeforgeref2_carried_30_s (G : (List ((List ((Int) × (List (ByteArray)) × (List (ByteArray)) × Unit)) × Unit)) × (Int) × (Int) × Unit → Option ((List ((List ((Int) × (List (ByteArray)) × (List (ByteArray)) × Unit)) × Unit)) × (Bool) × ((Int) × (Int) × Unit) × Unit)) (a : (List ((List ((Int) × (List (ByteArray)) × (List (ByteArray)) × Unit)) × Unit)) × (Int) × (Int) × Unit) : Option ((List ((List ((Int) × (List (ByteArray)) × (List (ByteArray)) × Unit)) × Unit)) × (Bool) × ((Int) × (Int) × Unit) × Unit) :=
  let x0 := a.1
  let x1 := a.2.1
  let x2 := a.2.2.1
  let x3 : Bool := ((x2 : Int) == 0)
  if x3 = true then
   let x4 : (Int) × (Int) × Unit := (0, 0, ())
   some (x0, true, x4, ())
  else
   let x4 : Int := IntKind.wrap .i64 (x1 + 1)
   let x5 : Bool := decide ((x2 : Int) < 0)
   let j0 : (Int) × (Int) × (Int) × Unit → _ := fun s0 =>
     let x6 := s0.1
     let x7 := s0.2.1
     let x8 := s0.2.2.1
     atC x0 x6 fun y9 =>
      let x9 : (List ((Int) × (List (ByteArray)) × (List (ByteArray)) × Unit)) × Unit := y9
      let x10 : (List ((Int) × (List (ByteArray)) × (List (ByteArray)) × Unit)) × Unit := (x9.1, ())
      let x11 : Int := IntKind.wrap .i64 (x6 + 1)
      atC x0 x11 fun y12 =>
       let x12 : (List ((Int) × (List (ByteArray)) × (List (ByteArray)) × Unit)) × Unit := y12
       let x13 : (List ((Int) × (List (ByteArray)) × (List (ByteArray)) × Unit)) × Unit := (x12.1, ())
       Option.bind (changeforgeref1_Commute_51 (x10, x13, ())) fun r14 =>
        let x14 := r14.1
        let x15 := r14.2.1
        let x16 := r14.2.2.1
        let x17 := r14.2.2.2.1
        let x18 : List ((Int) × (List (ByteArray)) × (List (ByteArray)) × Unit) := x14.1
        let x19 : List ((Int) × (List (ByteArray)) × (List (ByteArray)) × Unit) := x15.1
        let x20 : Int := x17.1
        let x21 : Int := x17.2.1
        let x22 : Bool := ((x20 : Int) != 0)
        if x22 = true then
         Option.bind (changeforgeref1_At_29 (x20, (-1), ())) fun r23 =>
          let x23 := r23.1
          let x24 : Int := x23.1
          let x25 : Int := x23.2.1
          let x26 : (Int) × (Int) × Unit := (x24, x25, ())
          some (([] : List ((List ((Int) × (List (ByteArray)) × (List (ByteArray)) × Unit)) × Unit)), false, x26, ())
        else
         let x23 : Bool := (!x16)
         if x23 = true then
          let x24 : (Int) × (Int) × Unit := (0, 0, ())
          some (([] : List ((List ((Int) × (List (ByteArray)) × (List (ByteArray)) × Unit)) × Unit)), false, x24, ())
         else
          let x24 : List ((List ((Int) × (List (ByteArray)) × (List (ByteArray)) × Unit)) × Unit) := []
          let x25 : Int := (List.length x24 : Int)
          if 0 ≤ (x25 : Int) ∧ x25 ≤ (0 : Int) then
           let x26 : Int := (x25 : Int)
           if (List.length x24 + List.length x0) * 24 ≤ 140737488355328 ∧ List.length x24 + List.length x0 ≤ maxLen then
            let x27 : List ((List ((Int) × (List (ByteArray)) × (List (ByteArray)) × Unit)) × Unit) := x24 ++ x0
            if 0 ≤ (x6 : Int) ∧ x6 < ((List.length x27) : Int) then
             let x28 : Int := (x6 : Int)
             let x29 : (List ((Int) × (List (ByteArray)) × (List (ByteArray)) × Unit)) × Unit := (x18, ())
             atC x27 x28 fun y30 =>
              let x30 : List ((List ((Int) × (List (ByteArray)) × (List (ByteArray)) × Unit)) × Unit) := List.set x27 (Int.toNat x28) (x29.1, y30.2)
              let x31 : Int := IntKind.wrap .i64 (x6 + 1)
              if 0 ≤ (x31 : Int) ∧ x31 < ((List.length x30) : Int) then
               let x32 : Int := (x31 : Int)
               let x33 : (List ((Int) × (List (ByteArray)) × (List (ByteArray)) × Unit)) × Unit := (x19, ())
               atC x30 x32 fun y34 =>
                let x34 : List ((List ((Int) × (List (ByteArray)) × (List (ByteArray)) × Unit)) × Unit) := List.set x30 (Int.toNat x32) (x33.1, y34.2)
                let x35 : Int := IntKind.wrap .i64 (x2 - x8)
                Option.bind (G (x34, x7, x35, ())) fun r36 =>
                 let x36 := r36.1
                 let x37 := r36.2.1
                 let x38 := r36.2.2.1
                 let x39 : Int := x38.1
                 let x40 : Int := x38.2.1
                 let x41 : (Int) × (Int) × Unit := (x39, x40, ())
                 some (x36, x37, x41, ())
              else none
            else none
           else none
          else none
   if x5 = true then
    let x6 : Int := IntKind.wrap .i64 (x1 - 1)
    let x7 : Int := IntKind.wrap .i64 (x1 - 1)
    j0 (x6, x7, (-1), ())
   else
    j0 (x1, x4, 1, ())
noncomputable def changeforgeref2_carried_30_k (n : Nat) : (List ((List ((Int) × (List (ByteArray)) × (List (ByteArray)) × Unit)) × Unit)) × (Int) × (Int) × Unit → Option ((List ((List ((Int) × (List (ByteArray)) × (List (ByteArray)) × Unit)) × Unit)) × (Bool) × ((Int) × (Int) × Unit) × Unit) := Nat.rec (fun _ => none) (fun _ G => changeforgeref2_carried_30_s G) n
noncomputable def changeforgeref2_carried_30 (a : (List ((List ((Int) × (List (ByteArray)) × (List (ByteArray)) × Unit)) × Unit)) × (Int) × (Int) × Unit) : Option ((List ((List ((Int) × (List (ByteArray)) × (List (ByteArray)) × Unit)) × Unit)) × (Bool) × ((Int) × (Int) × Unit) × Unit) := changeforgeref2_carried_30_k 100000 a

/- changeforge/changeforgeref2.MoveStack -/
noncomputable def changeforgeref2_MoveStack_11 (a : (List ((List ((Int) × (List (ByteArray)) × (List (ByteArray)) × Unit)) × Unit)) × (Int) × (Int) × Unit) : Option ((List ((List ((Int) × (List (ByteArray)) × (List (ByteArray)) × Unit)) × Unit)) × (Bool) × ((Int) × (Int) × Unit) × Unit) :=
  let x0 := a.1
  let x1 := a.2.1
  let x2 := a.2.2.1
  Option.bind (changeforgeref2_StackFault_28 (x0, ())) fun r3 =>
   let x3 := r3.1
   let x4 : Int := x3.1
   let x5 : Int := x3.2.1
   let x6 : Bool := ((x4 : Int) != 0)
   if x6 = true then
    let x7 : (Int) × (Int) × Unit := (x4, x5, ())
    some (([] : List ((List ((Int) × (List (ByteArray)) × (List (ByteArray)) × Unit)) × Unit)), false, x7, ())
   else
    let j0 : (Bool) × Unit → _ := fun s0 =>
      let x7 := s0.1
      if x7 = true then
       Option.bind (changeforgeref1_At_29 (3, (-2), ())) fun r8 =>
        let x8 := r8.1
        let x9 : Int := x8.1
        let x10 : Int := x8.2.1
        let x11 : (Int) × (Int) × Unit := (x9, x10, ())
        some (([] : List ((List ((Int) × (List (ByteArray)) × (List (ByteArray)) × Unit)) × Unit)), false, x11, ())
      else
       let j0 : (Bool) × Unit → _ := fun s0 =>
         let x8 := s0.1
         if x8 = true then
          Option.bind (changeforgeref1_At_29 (3, (-3), ())) fun r9 =>
           let x9 := r9.1
           let x10 : Int := x9.1
           let x11 : Int := x9.2.1
           let x12 : (Int) × (Int) × Unit := (x10, x11, ())
           some (([] : List ((List ((Int) × (List (ByteArray)) × (List (ByteArray)) × Unit)) × Unit)), false, x12, ())
         else
          let x9 : Int := IntKind.wrap .i64 (x2 - x1)
          Option.bind (changeforgeref2_carried_30 (x0, x1, x9, ())) fun r10 =>
           let x10 := r10.1
           let x11 := r10.2.1
           let x12 := r10.2.2.1
           let x13 : Int := x12.1
           let x14 : Int := x12.2.1
           let x15 : (Int) × (Int) × Unit := (x13, x14, ())
           some (x10, x11, x15, ())
       let x8 : Bool := decide ((x2 : Int) < 0)
       if x8 = true then
        j0 (true, ())
       else
        let x9 : Int := (List.length x0 : Int)
        let x10 : Bool := decide ((x2 : Int) ≥ x9)
        j0 (x10, ())
    let x7 : Bool := decide ((x1 : Int) < 0)
    if x7 = true then
     j0 (true, ())
    else
     let x8 : Int := (List.length x0 : Int)
     let x9 : Bool := decide ((x1 : Int) ≥ x8)
     j0 (x9, ())

/- changeforge/changeforgeref2.DropStack -/
noncomputable def changeforgeref2_DropStack_13 (a : (List ((List ((Int) × (List (ByteArray)) × (List (ByteArray)) × Unit)) × Unit)) × (Int) × Unit) : Option ((List ((List ((Int) × (List (ByteArray)) × (List (ByteArray)) × Unit)) × Unit)) × (Bool) × ((Int) × (Int) × Unit) × Unit) :=
  let x0 := a.1
  let x1 := a.2.1
  Option.bind (changeforgeref2_StackFault_28 (x0, ())) fun r2 =>
   let x2 := r2.1
   let x3 : Int := x2.1
   let x4 : Int := x2.2.1
   let x5 : Bool := ((x3 : Int) != 0)
   if x5 = true then
    let x6 : (Int) × (Int) × Unit := (x3, x4, ())
    some (([] : List ((List ((Int) × (List (ByteArray)) × (List (ByteArray)) × Unit)) × Unit)), false, x6, ())
   else
    let j0 : (Bool) × Unit → _ := fun s0 =>
      let x6 := s0.1
      if x6 = true then
       Option.bind (changeforgeref1_At_29 (3, (-2), ())) fun r7 =>
        let x7 := r7.1
        let x8 : Int := x7.1
        let x9 : Int := x7.2.1
        let x10 : (Int) × (Int) × Unit := (x8, x9, ())
        some (([] : List ((List ((Int) × (List (ByteArray)) × (List (ByteArray)) × Unit)) × Unit)), false, x10, ())
      else
       let x7 : Int := (List.length x0 : Int)
       let x8 : Int := IntKind.wrap .i64 (x7 - 1)
       let x9 : Int := IntKind.wrap .i64 (x8 - x1)
       Option.bind (changeforgeref2_carried_30 (x0, x1, x9, ())) fun r10 =>
        let x10 := r10.1
        let x11 := r10.2.1
        let x12 := r10.2.2.1
        let x13 : Int := x12.1
        let x14 : Int := x12.2.1
        let x15 : Bool := (!x11)
        if x15 = true then
         let x16 : (Int) × (Int) × Unit := (x13, x14, ())
         some (([] : List ((List ((Int) × (List (ByteArray)) × (List (ByteArray)) × Unit)) × Unit)), false, x16, ())
        else
         let x16 : Int := (List.length x10 : Int)
         let x17 : Int := IntKind.wrap .i64 (x16 - 1)
         if 0 ≤ (0 : Int) ∧ (0 : Int) ≤ x17 ∧ x17 ≤ (List.length x10 : Int) then
          let x18 : List ((List ((Int) × (List (ByteArray)) × (List (ByteArray)) × Unit)) × Unit) := List.drop (Int.toNat (0 : Int)) (List.take (Int.toNat x17) x10)
          let x19 : (Int) × (Int) × Unit := (0, 0, ())
          some (x18, true, x19, ())
         else none
    let x6 : Bool := decide ((x1 : Int) < 0)
    if x6 = true then
     j0 (true, ())
    else
     let x7 : Int := (List.length x0 : Int)
     let x8 : Bool := decide ((x1 : Int) ≥ x7)
     j0 (x8, ())

/- changeforge/changeforgelaw2.StackMoveMatchesSpec -/
noncomputable def changeforgelaw2_StackMoveMatchesSpec_3 (a : (List ((List ((Int) × (List (ByteArray)) × (List (ByteArray)) × Unit)) × Unit)) × (Int) × (Int) × Unit) : Option ((Bool) × Unit) :=
  let x0 := a.1
  let x1 := a.2.1
  let x2 := a.2.2.1
  Option.bind (stack_Move_10 (x0, x1, x2, ())) fun r3 =>
   let x3 := r3.1
   let x4 := r3.2.1
   let x5 := r3.2.2.1
   let x6 : Int := x5.1
   let x7 : Int := x5.2.1
   Option.bind (changeforgeref2_MoveStack_11 (x0, x1, x2, ())) fun r8 =>
    let x8 := r8.1
    let x9 := r8.2.1
    let x10 := r8.2.2.1
    let x11 : Int := x10.1
    let x12 : Int := x10.2.1
    Option.bind (stack_Drop_12 (x0, x1, ())) fun r13 =>
     let x13 := r13.1
     let x14 := r13.2.1
     let x15 := r13.2.2.1
     let x16 : Int := x15.1
     let x17 : Int := x15.2.1
     Option.bind (changeforgeref2_DropStack_13 (x0, x1, ())) fun r18 =>
      let x18 := r18.1
      let x19 := r18.2.1
      let x20 := r18.2.2.1
      let x21 : Int := x20.1
      let x22 : Int := x20.2.1
      let j0 : (Bool) × Unit → _ := fun s0 =>
        let x23 := s0.1
        some (x23, ())
      Option.bind (changeforgeequal_Patches_14 (x3, x8, ())) fun r23 =>
       let x23 := r23.1
       if x23 = true then
        let x24 : Bool := ((x4 : Bool) == x9)
        if x24 = true then
         let x25 : (Int) × (Int) × Unit := (x6, x7, ())
         let x26 : (Int) × (Int) × Unit := (x11, x12, ())
         let x27 : Bool := ((x25.1 : Int) == x26.1 && ((x25.2.1 : Int) == x26.2.1 && true))
         if x27 = true then
          Option.bind (changeforgeequal_Patches_14 (x13, x18, ())) fun r28 =>
           let x28 := r28.1
           if x28 = true then
            let x29 : Bool := ((x14 : Bool) == x19)
            if x29 = true then
             let x30 : (Int) × (Int) × Unit := (x16, x17, ())
             let x31 : (Int) × (Int) × Unit := (x21, x22, ())
             let x32 : Bool := ((x30.1 : Int) == x31.1 && ((x30.2.1 : Int) == x31.2.1 && true))
             if x32 = true then
              Option.bind (changeforgelaw2_dropped_15 (())) fun r33 =>
               let x33 := r33.1
               j0 (x33, ())
             else
              j0 (false, ())
            else
             j0 (false, ())
           else
            j0 (false, ())
         else
          j0 (false, ())
        else
         j0 (false, ())
       else
        j0 (false, ())

/- changeforge/textpatch.Compose$1 -/
noncomputable def textpatch_Compose_1_62 (a : ((Int) × (List (ByteArray)) × (List (ByteArray)) × Unit) × Unit) : Option ((Bool) × Unit) :=
  let x0 := a.1
  let x1 : Int := x0.1
  let x2 : List (ByteArray) := x0.2.1
  let x3 : List (ByteArray) := x0.2.2.1
  let x4 : Int := (List.length x2 : Int)
  let x5 : Int := (List.length x3 : Int)
  let x6 : Int := IntKind.wrap .i64 (x4 + x5)
  let x7 : Bool := ((x6 : Int) == 0)
  some (x7, ())

/- slices.IndexFunc[[]changeforge/api.Hunk,changeforge/api.Hunk] -/
noncomputable def api_Hunk__73_62 (a : (List ((Int) × (List (ByteArray)) × (List (ByteArray)) × Unit)) × Unit) : Option ((Int) × Unit) :=
  let x0 := a.1
  let x1 : Int := (List.length x0 : Int)
  let j0 : Unit → _ := fun s0 =>
    some ((-1), ())
  loopC (fun (s1 : (Int) × Unit) =>
    let x2 := s1.1
    let x3 : Bool := decide ((x2 : Int) < x1)
    if x3 = true then
     atC x0 x2 fun y4 =>
      let x4 : (Int) × (List (ByteArray)) × (List (ByteArray)) × Unit := y4
      let x5 : (Int) × (List (ByteArray)) × (List (ByteArray)) × Unit := (x4.1, x4.2.1, x4.2.2.1, ())
      Option.bind (textpatch_Compose_1_62 (x5, ())) fun r6 =>
       let x6 := r6.1
       if x6 = true then
        some (.inr (x2, ()))
       else
        let x7 : Int := IntKind.wrap .i64 (x2 + 1)
        some (.inl (x7, ()))
    else
     Option.map .inr (j0 (())))
    (0, ())

end Go.Proofs.Ytfepfapfogpfkaa.F
end
section
/- That they do: printed by a program of ours. -/
namespace Go.Proofs.Ytfepfapfogpfkaa.F
open Go Go.Proofs.Ytfepfapfogpfkaa.V
set_option maxRecDepth 100000
set_option linter.unusedVariables false
/- changeforge/changeforgeref2.carried -/
def changeforgeref2_carried_30_h : List (Nat × SS × Nat) := [(253, ⟨[.d (.v 0), .unk, .d (.v 2)] ++ us 5 ++ [.box 8 0, .d (.v 6), .d (.v 7), .d (.v 8)] ++ us 63, [(8, .cs ([.d (.k (.int .i64 0)), .d (.k (.int .i64 0))]))], []⟩, 3)]
theorem changeforgeref2_carried_30_s_ok (G : (List ((List ((Int) × (List (ByteArray)) × (List (ByteArray)) × Unit)) × Unit)) × (Int) × (Int) × Unit → Option ((List ((List ((Int) × (List (ByteArray)) × (List (ByteArray)) × Unit)) × Unit)) × (Bool) × ((Int) × (Int) × Unit) × Unit)) (hG : Fn.Ok Try.prog ⟨30, [(.sl (.p (.sl (.p (.int .i64) (.p (.sl .str) (.p (.sl .str) .e)))) .e)), (.int .i64), (.int .i64)], [(.sl (.p (.sl (.p (.int .i64) (.p (.sl .str) (.p (.sl .str) .e)))) .e)), .bool, (.p (.int .i64) (.p (.int .i64) .e))], G⟩) : Fn.Ok Try.prog ⟨30, [(.sl (.p (.sl (.p (.int .i64) (.p (.sl .str) (.p (.sl .str) .e)))) .e)), (.int .i64), (.int .i64)], [(.sl (.p (.sl (.p (.int .i64) (.p (.sl .str) (.p (.sl .str) .e)))) .e)), .bool, (.p (.int .i64) (.p (.int .i64) .e))], changeforgeref2_carried_30_s G⟩ :=
  Fn.of (c := ⟨Try.prog, [(51, 4), (29, 1), (30, 3)], [], [56], changeforgeref2_carried_30_h⟩) (fs := [⟨51, [(.p (.sl (.p (.int .i64) (.p (.sl .str) (.p (.sl .str) .e)))) .e), (.p (.sl (.p (.int .i64) (.p (.sl .str) (.p (.sl .str) .e)))) .e)], [(.p (.sl (.p (.int .i64) (.p (.sl .str) (.p (.sl .str) .e)))) .e), (.p (.sl (.p (.int .i64) (.p (.sl .str) (.p (.sl .str) .e)))) .e), .bool, (.p (.int .i64) (.p (.int .i64) .e))], changeforgeref1_Commute_51⟩, ⟨29, [(.int .i64), (.int .i64)], [(.p (.int .i64) (.p (.int .i64) .e))], changeforgeref1_At_29⟩, ⟨30, [(.sl (.p (.sl (.p (.int .i64) (.p (.sl .str) (.p (.sl .str) .e)))) .e)), (.int .i64), (.int .i64)], [(.sl (.p (.sl (.p (.int .i64) (.p (.sl .str) (.p (.sl .str) .e)))) .e)), .bool, (.p (.int .i64) (.p (.int .i64) .e))], G⟩]) (gs := []) (an := [.bool, (.p (.int .i64) (.p (.int .i64) .e)), (.int .i64), .bool, (.int .i64), (.int .i64), (.int .i64), (.p (.sl (.p (.int .i64) (.p (.sl .str) (.p (.sl .str) .e)))) .e), (.p (.sl (.p (.int .i64) (.p (.sl .str) (.p (.sl .str) .e)))) .e), (.int .i64), (.p (.sl (.p (.int .i64) (.p (.sl .str) (.p (.sl .str) .e)))) .e), (.p (.sl (.p (.int .i64) (.p (.sl .str) (.p (.sl .str) .e)))) .e), (.sl (.p (.int .i64) (.p (.sl .str) (.p (.sl .str) .e)))), (.sl (.p (.int .i64) (.p (.sl .str) (.p (.sl .str) .e)))), (.int .i64), (.int .i64), .bool, (.int .i64), (.int .i64), (.p (.int .i64) (.p (.int .i64) .e)), .bool, (.p (.int .i64) (.p (.int .i64) .e)), (.sl (.p (.sl (.p (.int .i64) (.p (.sl .str) (.p (.sl .str) .e)))) .e)), (.int .i64), (.int .i64), (.sl (.p (.sl (.p (.int .i64) (.p (.sl .str) (.p (.sl .str) .e)))) .e)), (.int .i64), (.p (.sl (.p (.int .i64) (.p (.sl .str) (.p (.sl .str) .e)))) .e), (.sl (.p (.sl (.p (.int .i64) (.p (.sl .str) (.p (.sl .str) .e)))) .e)), (.int .i64), (.int .i64), (.p (.sl (.p (.int .i64) (.p (.sl .str) (.p (.sl .str) .e)))) .e), (.sl (.p (.sl (.p (.int .i64) (.p (.sl .str) (.p (.sl .str) .e)))) .e)), (.int .i64), (.int .i64), (.int .i64), (.p (.int .i64) (.p (.int .i64) .e)), (.int .i64), (.int .i64)]) (by kernel_rfl) Try.func30 (by kernel_rfl) (by kernel_rfl) (by simp only [List.forall_mem_cons, List.not_mem_nil, false_implies, implies_true, and_true]; exact ⟨changeforgeref1_Commute_51_ok, changeforgeref1_At_29_ok, hG⟩) (fun _ h => by cases h) (by kernel_rfl)
theorem changeforgeref2_carried_30_ok : Fn.Ok Try.prog ⟨30, [(.sl (.p (.sl (.p (.int .i64) (.p (.sl .str) (.p (.sl .str) .e)))) .e)), (.int .i64), (.int .i64)], [(.sl (.p (.sl (.p (.int .i64) (.p (.sl .str) (.p (.sl .str) .e)))) .e)), .bool, (.p (.int .i64) (.p (.int .i64) .e))], changeforgeref2_carried_30⟩ := by
  have key : ∀ n, Fn.Ok Try.prog ⟨30, [(.sl (.p (.sl (.p (.int .i64) (.p (.sl .str) (.p (.sl .str) .e)))) .e)), (.int .i64), (.int .i64)], [(.sl (.p (.sl (.p (.int .i64) (.p (.sl .str) (.p (.sl .str) .e)))) .e)), .bool, (.p (.int .i64) (.p (.int .i64) .e))], changeforgeref2_carried_30_k n⟩ := fun n => by
    induction n with
    | zero => intro a r h; cases h
    | succ n ih => exact changeforgeref2_carried_30_s_ok _ ih
  exact key 100000


/- changeforge/changeforgeref2.MoveStack -/
def changeforgeref2_MoveStack_11_h : List (Nat × SS × Nat) := [(60, ⟨[.d (.v 0), .d (.v 1), .d (.v 2)] ++ us 5 ++ [.box 8 0] ++ us 23 ++ [.d (.v 8)] ++ us 10, [(8, .cs ([.d (.k (.int .i64 0)), .d (.k (.int .i64 0))]))], []⟩, 1), (28, ⟨[.d (.v 0), .d (.v 1), .d (.v 2)] ++ us 5 ++ [.box 8 0] ++ us 14 ++ [.d (.v 7)] ++ us 19, [(8, .cs ([.d (.k (.int .i64 0)), .d (.k (.int .i64 0))]))], []⟩, 1)]
theorem changeforgeref2_MoveStack_11_ok : Fn.Ok Try.prog ⟨11, [(.sl (.p (.sl (.p (.int .i64) (.p (.sl .str) (.p (.sl .str) .e)))) .e)), (.int .i64), (.int .i64)], [(.sl (.p (.sl (.p (.int .i64) (.p (.sl .str) (.p (.sl .str) .e)))) .e)), .bool, (.p (.int .i64) (.p (.int .i64) .e))], changeforgeref2_MoveStack_11⟩ :=
  Fn.of (c := ⟨Try.prog, [(28, 1), (29, 1), (30, 3)], [], [], changeforgeref2_MoveStack_11_h⟩) (fs := [⟨28, [(.sl (.p (.sl (.p (.int .i64) (.p (.sl .str) (.p (.sl .str) .e)))) .e))], [(.p (.int .i64) (.p (.int .i64) .e))], changeforgeref2_StackFault_28⟩, ⟨29, [(.int .i64), (.int .i64)], [(.p (.int .i64) (.p (.int .i64) .e))], changeforgeref1_At_29⟩, ⟨30, [(.sl (.p (.sl (.p (.int .i64) (.p (.sl .str) (.p (.sl .str) .e)))) .e)), (.int .i64), (.int .i64)], [(.sl (.p (.sl (.p (.int .i64) (.p (.sl .str) (.p (.sl .str) .e)))) .e)), .bool, (.p (.int .i64) (.p (.int .i64) .e))], changeforgeref2_carried_30⟩]) (gs := []) (an := [(.int .i64), (.int .i64), .bool, (.p (.int .i64) (.p (.int .i64) .e)), .bool, (.int .i64), (.int .i64), (.p (.int .i64) (.p (.int .i64) .e)), .bool, (.int .i64), (.int .i64), (.p (.int .i64) (.p (.int .i64) .e)), (.int .i64), (.int .i64), (.int .i64), (.p (.int .i64) (.p (.int .i64) .e)), .bool, (.int .i64), .bool, .bool, (.int .i64), .bool]) (by kernel_rfl) Try.func11 (by kernel_rfl) (by kernel_rfl) (by simp only [List.forall_mem_cons, List.not_mem_nil, false_implies, implies_true, and_true]; exact ⟨changeforgeref2_StackFault_28_ok, changeforgeref1_At_29_ok, changeforgeref2_carried_30_ok⟩) (fun _ h => by cases h) (by kernel_rfl)


/- changeforge/changeforgeref2.DropStack -/
def changeforgeref2_DropStack_13_h : List (Nat × SS × Nat) := [(28, ⟨[.d (.v 0), .d (.v 1)] ++ us 4 ++ [.box 6 0] ++ us 17 ++ [.d (.v 6)] ++ us 22, [(6, .cs ([.d (.k (.int .i64 0)), .d (.k (.int .i64 0))]))], []⟩, 1)]
theorem changeforgeref2_DropStack_13_ok : Fn.Ok Try.prog ⟨13, [(.sl (.p (.sl (.p (.int .i64) (.p (.sl .str) (.p (.sl .str) .e)))) .e)), (.int .i64)], [(.sl (.p (.sl (.p (.int .i64) (.p (.sl .str) (.p (.sl .str) .e)))) .e)), .bool, (.p (.int .i64) (.p (.int .i64) .e))], changeforgeref2_DropStack_13⟩ :=
  Fn.of (c := ⟨Try.prog, [(28, 1), (29, 1), (30, 3)], [], [], changeforgeref2_DropStack_13_h⟩) (fs := [⟨28, [(.sl (.p (.sl (.p (.int .i64) (.p (.sl .str) (.p (.sl .str) .e)))) .e))], [(.p (.int .i64) (.p (.int .i64) .e))], changeforgeref2_StackFault_28⟩, ⟨29, [(.int .i64), (.int .i64)], [(.p (.int .i64) (.p (.int .i64) .e))], changeforgeref1_At_29⟩, ⟨30, [(.sl (.p (.sl (.p (.int .i64) (.p (.sl .str) (.p (.sl .str) .e)))) .e)), (.int .i64), (.int .i64)], [(.sl (.p (.sl (.p (.int .i64) (.p (.sl .str) (.p (.sl .str) .e)))) .e)), .bool, (.p (.int .i64) (.p (.int .i64) .e))], changeforgeref2_carried_30⟩]) (gs := []) (an := [(.int .i64), (.int .i64), .bool, (.p (.int .i64) (.p (.int .i64) .e)), .bool, (.int .i64), (.int .i64), (.p (.int .i64) (.p (.int .i64) .e)), (.int .i64), (.int .i64), (.int .i64), (.int .i64), (.int .i64), .bool, (.p (.int .i64) (.p (.int .i64) .e)), (.int .i64), (.int .i64), (.sl (.p (.sl (.p (.int .i64) (.p (.sl .str) (.p (.sl .str) .e)))) .e)), (.p (.int .i64) (.p (.int .i64) .e)), .bool, (.int .i64), .bool]) (by kernel_rfl) Try.func13 (by kernel_rfl) (by kernel_rfl) (by simp only [List.forall_mem_cons, List.not_mem_nil, false_implies, implies_true, and_true]; exact ⟨changeforgeref2_StackFault_28_ok, changeforgeref1_At_29_ok, changeforgeref2_carried_30_ok⟩) (fun _ h => by cases h) (by kernel_rfl)


/- changeforge/changeforgelaw2.StackMoveMatchesSpec -/
def changeforgelaw2_StackMoveMatchesSpec_3_h : List (Nat × SS × Nat) := [(126, ⟨us 6 ++ [.d (.v 23)] ++ us 73, [], []⟩, 1)]
theorem changeforgelaw2_StackMoveMatchesSpec_3_ok : Fn.Ok Try.prog ⟨3, [(.sl (.p (.sl (.p (.int .i64) (.p (.sl .str) (.p (.sl .str) .e)))) .e)), (.int .i64), (.int .i64)], [.bool], changeforgelaw2_StackMoveMatchesSpec_3⟩ :=
  Fn.of (c := ⟨Try.prog, [(10, 3), (11, 3), (12, 3), (13, 3), (14, 1), (15, 1)], [], [], changeforgelaw2_StackMoveMatchesSpec_3_h⟩) (fs := [⟨10, [(.sl (.p (.sl (.p (.int .i64) (.p (.sl .str) (.p (.sl .str) .e)))) .e)), (.int .i64), (.int .i64)], [(.sl (.p (.sl (.p (.int .i64) (.p (.sl .str) (.p (.sl .str) .e)))) .e)), .bool, (.p (.int .i64) (.p (.int .i64) .e))], stack_Move_10⟩, ⟨11, [(.sl (.p (.sl (.p (.int .i64) (.p (.sl .str) (.p (.sl .str) .e)))) .e)), (.int .i64), (.int .i64)], [(.sl (.p (.sl (.p (.int .i64) (.p (.sl .str) (.p (.sl .str) .e)))) .e)), .bool, (.p (.int .i64) (.p (.int .i64) .e))], changeforgeref2_MoveStack_11⟩, ⟨12, [(.sl (.p (.sl (.p (.int .i64) (.p (.sl .str) (.p (.sl .str) .e)))) .e)), (.int .i64)], [(.sl (.p (.sl (.p (.int .i64) (.p (.sl .str) (.p (.sl .str) .e)))) .e)), .bool, (.p (.int .i64) (.p (.int .i64) .e))], stack_Drop_12⟩, ⟨13, [(.sl (.p (.sl (.p (.int .i64) (.p (.sl .str) (.p (.sl .str) .e)))) .e)), (.int .i64)], [(.sl (.p (.sl (.p (.int .i64) (.p (.sl .str) (.p (.sl .str) .e)))) .e)), .bool, (.p (.int .i64) (.p (.int .i64) .e))], changeforgeref2_DropStack_13⟩, ⟨14, [(.sl (.p (.sl (.p (.int .i64) (.p (.sl .str) (.p (.sl .str) .e)))) .e)), (.sl (.p (.sl (.p (.int .i64) (.p (.sl .str) (.p (.sl .str) .e)))) .e))], [.bool], changeforgeequal_Patches_14⟩, ⟨15, [], [.bool], changeforgelaw2_dropped_15⟩]) (gs := []) (an := [(.int .i64), (.int .i64), (.int .i64), (.int .i64), (.int .i64), (.int .i64), (.int .i64), (.int .i64), .bool, .bool, (.p (.int .i64) (.p (.int .i64) .e)), (.p (.int .i64) (.p (.int .i64) .e)), .bool, .bool, (.p (.int .i64) (.p (.int .i64) .e)), (.p (.int .i64) (.p (.int .i64) .e)), .bool]) (by kernel_rfl) Try.func3 (by kernel_rfl) (by kernel_rfl) (by simp only [List.forall_mem_cons, List.not_mem_nil, false_implies, implies_true, and_true]; exact ⟨stack_Move_10_ok, changeforgeref2_MoveStack_11_ok, stack_Drop_12_ok, changeforgeref2_DropStack_13_ok, changeforgeequal_Patches_14_ok, changeforgelaw2_dropped_15_ok⟩) (fun _ h => by cases h) (by kernel_rfl)


/- changeforge/textpatch.Compose$1 -/
def textpatch_Compose_1_62_h : List (Nat × SS × Nat) := []
theorem textpatch_Compose_1_62_ok : Fn.Ok Try.prog ⟨62, [(.p (.int .i64) (.p (.sl .str) (.p (.sl .str) .e)))], [.bool], textpatch_Compose_1_62⟩ :=
  Fn.of (c := ⟨Try.prog, [], [], [], textpatch_Compose_1_62_h⟩) (fs := []) (gs := []) (an := [(.int .i64), (.sl .str), (.sl .str), (.int .i64), (.int .i64), (.int .i64), .bool]) (by kernel_rfl) Try.func62 (by kernel_rfl) (by kernel_rfl) (fun _ h => by cases h) (fun _ h => by cases h) (by kernel_rfl)


/- slices.IndexFunc[[]changeforge/api.Hunk,changeforge/api.Hunk] -/
def api_Hunk__73_62_h : List (Nat × SS × Nat) := [(13, ⟨us 19, [], []⟩, 0), (26, ⟨[.d (.v 0), .fn 62 []] ++ us 5 ++ [.d (.v 1), .d (.v 2)] ++ us 10, [], []⟩, 1)]
def api_Hunk__73_62_g : Sg := ⟨73, [.d (.v 0), .fn 62 []], [], 1, [.d (.v 0)], [], 1, []⟩
theorem api_Hunk__73_62_ok : Gn.Ok Try.prog ⟨api_Hunk__73_62_g, [(.sl (.p (.int .i64) (.p (.sl .str) (.p (.sl .str) .e))))], [(.int .i64)], api_Hunk__73_62⟩ :=
  Gn.of' (c := ⟨Try.prog, [(62, 1)], [], [], api_Hunk__73_62_h⟩) (fs := [⟨62, [(.p (.int .i64) (.p (.sl .str) (.p (.sl .str) .e)))], [.bool], textpatch_Compose_1_62⟩]) (gs := []) (an := [(.int .i64), (.int .i64), .bool, (.p (.int .i64) (.p (.sl .str) (.p (.sl .str) .e))), (.p (.int .i64) (.p (.sl .str) (.p (.sl .str) .e))), (.int .i64)]) (by kernel_rfl) Try.func73 (by kernel_rfl) (by kernel_rfl) (by simp only [List.forall_mem_cons, List.not_mem_nil, false_implies, implies_true, and_true]; exact textpatch_Compose_1_62_ok) (fun _ h => by cases h) (by kernel_rfl)


end Go.Proofs.Ytfepfapfogpfkaa.F
end
