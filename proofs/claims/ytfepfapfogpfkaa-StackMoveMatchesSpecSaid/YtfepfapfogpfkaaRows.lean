/-
  No cell of these rows narrows 'for every input' (looked for: loops, veiled, ifaces, maps, wideKeys, modest, calm, conditions, laid).
  DERIVED. THE GIVEN ROWS OF THIS SEAT. 7 by the template 'for every input the law returns true; each argument reads behind the call as it read before'; 0 by the template 'total and deterministic' (their statements: YtfepfapfogpfkaaTotals.lean).
  GIVEN WITH THE SEED: the statements are not yours to turn. If you find one false, say at which input.
  Laid BY PROGRAM, IN A SANDBOX (cutbox-rows.mjs): the forced cells as the released guide's own fill.sh prints them over the translation e6238e705450c2ed… (all of the seat's roots in one cut). By AI agents, Wed Nov 11 2026. No macro, syntax, notation, axiom, sorry.
-/
import Derived.Test.YtfepfapfogpfkaaChecked
import GoSem.Claim
import GoSem.ClaimJoined
import GoSem.ClaimMapViews
import Derived.JoinedTies
import Derived.KernelRfl
namespace Go.Proofs.Ytfepfapfogpfkaa
/- THE CELL 'sum', in the pinned program and in every row, IS THE sha256 OF THE DUMP (.gsa) THAT YtfepfapfogpfkaaProg.lean LOADS. Nothing in Lean hashes anything: it is a label: what it is worth is what the hold of that sum in a sandbox is worth. -/
noncomputable def Try.pinned : Pinned := { name := "ytfepfapfogpfkaa", sum := "e6238e705450c2ed4713187a850a92f7542419864a5dc2a4e9795315015d357e", checked := Try.checked }
namespace Rows
def none {H : Type} : Left H := { results := [], args := [] }

/-- 'changeforgelaw2.StackMoveMatchesSpec': WHATEVER THE INPUT: true; the input reads as it did. -/
def stackMoveMatchesSpecSpec : ChangeSpec := { name := "stackMoveMatchesSpec", fn := fun _ => fun
  | [d1, d2, d3] => { results := [.lit (.bool true)], args := [d1, d2, d3] }
  | _ => none }
def stackMoveMatchesSpecRow : OpenClaim := { program := "ytfepfapfogpfkaa", sum := "e6238e705450c2ed4713187a850a92f7542419864a5dc2a4e9795315015d357e", func := "changeforge/changeforgelaw2.StackMoveMatchesSpec", spec := "stackMoveMatchesSpec", inPlace := ["internal/bytealg.IndexByteString", "internal/bytealg.IndexString"], recurses := true, named := ["internal/bytealg.MaxLen"], apart := false }
def StackMoveMatchesSpecSaid : Prop := stackMoveMatchesSpecRow.holds Try.pinned (OpenSpec.ofChange stackMoveMatchesSpecSpec)

/-- ITS FALSE NEIGHBOUR: 'it returns false'. Refute it at one input. -/
def stackMoveMatchesSpecWrong : ChangeSpec := { name := "stackMoveMatchesSpec", fn := fun _ => fun
  | [d1, d2, d3] => { results := [.lit (.bool false)], args := [d1, d2, d3] }
  | _ => none }
def StackMoveMatchesSpecWrongFalsely : Prop := stackMoveMatchesSpecRow.holds Try.pinned (OpenSpec.ofChange stackMoveMatchesSpecWrong)

/-- 'changeforgelaw2.StackMoveSameEffect': WHATEVER THE INPUT: true; the input reads as it did. -/
def stackMoveSameEffectSpec : ChangeSpec := { name := "stackMoveSameEffect", fn := fun _ => fun
  | [d1, d2, d3, d4] => { results := [.lit (.bool true)], args := [d1, d2, d3, d4] }
  | _ => none }
def stackMoveSameEffectRow : OpenClaim := { program := "ytfepfapfogpfkaa", sum := "e6238e705450c2ed4713187a850a92f7542419864a5dc2a4e9795315015d357e", func := "changeforge/changeforgelaw2.StackMoveSameEffect", spec := "stackMoveSameEffect", inPlace := ["internal/bytealg.IndexByteString", "internal/bytealg.IndexString"], named := ["internal/bytealg.MaxLen"], apart := false }
def StackMoveSameEffectSaid : Prop := stackMoveSameEffectRow.holds Try.pinned (OpenSpec.ofChange stackMoveSameEffectSpec)

/-- ITS FALSE NEIGHBOUR: 'it returns false'. Refute it at one input. -/
def stackMoveSameEffectWrong : ChangeSpec := { name := "stackMoveSameEffect", fn := fun _ => fun
  | [d1, d2, d3, d4] => { results := [.lit (.bool false)], args := [d1, d2, d3, d4] }
  | _ => none }
def StackMoveSameEffectWrongFalsely : Prop := stackMoveSameEffectRow.holds Try.pinned (OpenSpec.ofChange stackMoveSameEffectWrong)

/-- 'changeforgelaw2.StackMoveBack': WHATEVER THE INPUT: true; the input reads as it did. -/
def stackMoveBackSpec : ChangeSpec := { name := "stackMoveBack", fn := fun _ => fun
  | [d1, d2, d3] => { results := [.lit (.bool true)], args := [d1, d2, d3] }
  | _ => none }
def stackMoveBackRow : OpenClaim := { program := "ytfepfapfogpfkaa", sum := "e6238e705450c2ed4713187a850a92f7542419864a5dc2a4e9795315015d357e", func := "changeforge/changeforgelaw2.StackMoveBack", spec := "stackMoveBack", inPlace := ["internal/bytealg.IndexByteString", "internal/bytealg.IndexString"], named := ["internal/bytealg.MaxLen"], apart := false }
def StackMoveBackSaid : Prop := stackMoveBackRow.holds Try.pinned (OpenSpec.ofChange stackMoveBackSpec)

/-- ITS FALSE NEIGHBOUR: 'it returns false'. Refute it at one input. -/
def stackMoveBackWrong : ChangeSpec := { name := "stackMoveBack", fn := fun _ => fun
  | [d1, d2, d3] => { results := [.lit (.bool false)], args := [d1, d2, d3] }
  | _ => none }
def StackMoveBackWrongFalsely : Prop := stackMoveBackRow.holds Try.pinned (OpenSpec.ofChange stackMoveBackWrong)

/-- 'changeforgelaw2.StackNeighbors': WHATEVER THE INPUT: true; the input reads as it did. -/
def stackNeighborsSpec : ChangeSpec := { name := "stackNeighbors", fn := fun _ => fun
  | [d1, d2] => { results := [.lit (.bool true)], args := [d1, d2] }
  | _ => none }
def stackNeighborsRow : OpenClaim := { program := "ytfepfapfogpfkaa", sum := "e6238e705450c2ed4713187a850a92f7542419864a5dc2a4e9795315015d357e", func := "changeforge/changeforgelaw2.StackNeighbors", spec := "stackNeighbors", inPlace := ["internal/bytealg.IndexByteString", "internal/bytealg.IndexString"], named := ["internal/bytealg.MaxLen"], apart := false }
def StackNeighborsSaid : Prop := stackNeighborsRow.holds Try.pinned (OpenSpec.ofChange stackNeighborsSpec)

/-- ITS FALSE NEIGHBOUR: 'it returns false'. Refute it at one input. -/
def stackNeighborsWrong : ChangeSpec := { name := "stackNeighbors", fn := fun _ => fun
  | [d1, d2] => { results := [.lit (.bool false)], args := [d1, d2] }
  | _ => none }
def StackNeighborsWrongFalsely : Prop := stackNeighborsRow.holds Try.pinned (OpenSpec.ofChange stackNeighborsWrong)

/-- 'changeforgelaw2.StackDropUndone': WHATEVER THE INPUT: true; the input reads as it did. -/
def stackDropUndoneSpec : ChangeSpec := { name := "stackDropUndone", fn := fun _ => fun
  | [d1, d2, d3] => { results := [.lit (.bool true)], args := [d1, d2, d3] }
  | _ => none }
def stackDropUndoneRow : OpenClaim := { program := "ytfepfapfogpfkaa", sum := "e6238e705450c2ed4713187a850a92f7542419864a5dc2a4e9795315015d357e", func := "changeforge/changeforgelaw2.StackDropUndone", spec := "stackDropUndone", inPlace := ["internal/bytealg.IndexByteString", "internal/bytealg.IndexString"], named := ["internal/bytealg.MaxLen"], apart := false }
def StackDropUndoneSaid : Prop := stackDropUndoneRow.holds Try.pinned (OpenSpec.ofChange stackDropUndoneSpec)

/-- ITS FALSE NEIGHBOUR: 'it returns false'. Refute it at one input. -/
def stackDropUndoneWrong : ChangeSpec := { name := "stackDropUndone", fn := fun _ => fun
  | [d1, d2, d3] => { results := [.lit (.bool false)], args := [d1, d2, d3] }
  | _ => none }
def StackDropUndoneWrongFalsely : Prop := stackDropUndoneRow.holds Try.pinned (OpenSpec.ofChange stackDropUndoneWrong)

/-- 'changeforgelaw2.StackMatchesSpec': WHATEVER THE INPUT: true; the input reads as it did. -/
def stackMatchesSpecSpec : ChangeSpec := { name := "stackMatchesSpec", fn := fun _ => fun
  | [d1, d2, d3] => { results := [.lit (.bool true)], args := [d1, d2, d3] }
  | _ => none }
def stackMatchesSpecRow : OpenClaim := { program := "ytfepfapfogpfkaa", sum := "e6238e705450c2ed4713187a850a92f7542419864a5dc2a4e9795315015d357e", func := "changeforge/changeforgelaw2.StackMatchesSpec", spec := "stackMatchesSpec", inPlace := ["internal/bytealg.IndexByteString", "internal/bytealg.IndexString"], unfollowed := true, recurses := true, named := ["internal/bytealg.MaxLen"], apart := false }
def StackMatchesSpecSaid : Prop := stackMatchesSpecRow.holds Try.pinned (OpenSpec.ofChange stackMatchesSpecSpec)

/-- ITS FALSE NEIGHBOUR: 'it returns false'. Refute it at one input. -/
def stackMatchesSpecWrong : ChangeSpec := { name := "stackMatchesSpec", fn := fun _ => fun
  | [d1, d2, d3] => { results := [.lit (.bool false)], args := [d1, d2, d3] }
  | _ => none }
def StackMatchesSpecWrongFalsely : Prop := stackMatchesSpecRow.holds Try.pinned (OpenSpec.ofChange stackMatchesSpecWrong)

/-- 'changeforgelaw2.StackSquashSameEffect': WHATEVER THE INPUT: true; the input reads as it did. -/
def stackSquashSameEffectSpec : ChangeSpec := { name := "stackSquashSameEffect", fn := fun _ => fun
  | [d1, d2, d3] => { results := [.lit (.bool true)], args := [d1, d2, d3] }
  | _ => none }
def stackSquashSameEffectRow : OpenClaim := { program := "ytfepfapfogpfkaa", sum := "e6238e705450c2ed4713187a850a92f7542419864a5dc2a4e9795315015d357e", func := "changeforge/changeforgelaw2.StackSquashSameEffect", spec := "stackSquashSameEffect", inPlace := ["internal/bytealg.IndexByteString", "internal/bytealg.IndexString"], unfollowed := true, recurses := true, named := ["internal/bytealg.MaxLen"], apart := false }
def StackSquashSameEffectSaid : Prop := stackSquashSameEffectRow.holds Try.pinned (OpenSpec.ofChange stackSquashSameEffectSpec)

/-- ITS FALSE NEIGHBOUR: 'it returns false'. Refute it at one input. -/
def stackSquashSameEffectWrong : ChangeSpec := { name := "stackSquashSameEffect", fn := fun _ => fun
  | [d1, d2, d3] => { results := [.lit (.bool false)], args := [d1, d2, d3] }
  | _ => none }
def StackSquashSameEffectWrongFalsely : Prop := stackSquashSameEffectRow.holds Try.pinned (OpenSpec.ofChange stackSquashSameEffectWrong)

/- THE SECOND FORM. 'bulk': how many values and letters a reading holds, each counted each time it is reached (what is shared counts as often as it is met; a slice's spare places count too). A statement '..UptoSaid' is the law's where the arguments, and the package variables that the reading takes, are together of bulk at most 1048576: NARROWER than '..Said'. Prove '..Said' where nothing that the law and all that it calls make is longer than what came in: it says more and counts as full. Else prove '..UptoSaid'. A law counts once. -/
mutual
def uptoBulk {H : Type} : DataW H → Nat
  | .lit (.string bytes) => bytes.length + 1
  | .lit _ => 1
  | .nil => 1
  | .ptr d => uptoBulk d + 1
  | .slice elems spare => uptoBulkAll elems + uptoBulkAll spare + 1
  | .agg parts => uptoBulkAll parts + 1
  | .iface _ d => uptoBulk d + 1
  | .map entries => uptoBulkEntries entries + 1
  | .held _ => 1
def uptoBulkAll {H : Type} : List (DataW H) → Nat
  | [] => 0
  | d :: r => uptoBulk d + uptoBulkAll r
def uptoBulkEntries {H : Type} : List (Lit × DataW H) → Nat
  | [] => 0
  | x :: r => uptoBulkEntry x + uptoBulkEntries r
def uptoBulkEntry {H : Type} : Lit × DataW H → Nat
  | (.string bytes, d) => bytes.length + uptoBulk d + 1
  | (_, d) => uptoBulk d + 1
 end
def uptoSmall : (H : Type) → List (DataW H) → Bool := fun _ ds => decide (uptoBulkAll ds ≤ 1048576)
def OpenSpec.upto (s : _root_.Go.ChangeSpec) : _root_.Go.OpenSpec := { _root_.Go.OpenSpec.ofChange s with cond := some uptoSmall }

/-- 'changeforgelaw2.StackMoveMatchesSpec', WHERE WHAT IT READS IS OF BULK AT MOST 1048576: true; the input reads as it did. -/
def stackMoveMatchesSpecUptoRow : OpenClaim := { program := "ytfepfapfogpfkaa", sum := "e6238e705450c2ed4713187a850a92f7542419864a5dc2a4e9795315015d357e", func := "changeforge/changeforgelaw2.StackMoveMatchesSpec", spec := "stackMoveMatchesSpec", inPlace := ["internal/bytealg.IndexByteString", "internal/bytealg.IndexString"], recurses := true, named := ["internal/bytealg.MaxLen"], apart := false, narrowed := true }
def StackMoveMatchesSpecUptoSaid : Prop := stackMoveMatchesSpecUptoRow.holds Try.pinned (OpenSpec.upto stackMoveMatchesSpecSpec)

/-- 'changeforgelaw2.StackMoveSameEffect', WHERE WHAT IT READS IS OF BULK AT MOST 1048576: true; the input reads as it did. -/
def stackMoveSameEffectUptoRow : OpenClaim := { program := "ytfepfapfogpfkaa", sum := "e6238e705450c2ed4713187a850a92f7542419864a5dc2a4e9795315015d357e", func := "changeforge/changeforgelaw2.StackMoveSameEffect", spec := "stackMoveSameEffect", inPlace := ["internal/bytealg.IndexByteString", "internal/bytealg.IndexString"], named := ["internal/bytealg.MaxLen"], apart := false, narrowed := true }
def StackMoveSameEffectUptoSaid : Prop := stackMoveSameEffectUptoRow.holds Try.pinned (OpenSpec.upto stackMoveSameEffectSpec)

/-- 'changeforgelaw2.StackMoveBack', WHERE WHAT IT READS IS OF BULK AT MOST 1048576: true; the input reads as it did. -/
def stackMoveBackUptoRow : OpenClaim := { program := "ytfepfapfogpfkaa", sum := "e6238e705450c2ed4713187a850a92f7542419864a5dc2a4e9795315015d357e", func := "changeforge/changeforgelaw2.StackMoveBack", spec := "stackMoveBack", inPlace := ["internal/bytealg.IndexByteString", "internal/bytealg.IndexString"], named := ["internal/bytealg.MaxLen"], apart := false, narrowed := true }
def StackMoveBackUptoSaid : Prop := stackMoveBackUptoRow.holds Try.pinned (OpenSpec.upto stackMoveBackSpec)

/-- 'changeforgelaw2.StackNeighbors', WHERE WHAT IT READS IS OF BULK AT MOST 1048576: true; the input reads as it did. -/
def stackNeighborsUptoRow : OpenClaim := { program := "ytfepfapfogpfkaa", sum := "e6238e705450c2ed4713187a850a92f7542419864a5dc2a4e9795315015d357e", func := "changeforge/changeforgelaw2.StackNeighbors", spec := "stackNeighbors", inPlace := ["internal/bytealg.IndexByteString", "internal/bytealg.IndexString"], named := ["internal/bytealg.MaxLen"], apart := false, narrowed := true }
def StackNeighborsUptoSaid : Prop := stackNeighborsUptoRow.holds Try.pinned (OpenSpec.upto stackNeighborsSpec)

/-- 'changeforgelaw2.StackDropUndone', WHERE WHAT IT READS IS OF BULK AT MOST 1048576: true; the input reads as it did. -/
def stackDropUndoneUptoRow : OpenClaim := { program := "ytfepfapfogpfkaa", sum := "e6238e705450c2ed4713187a850a92f7542419864a5dc2a4e9795315015d357e", func := "changeforge/changeforgelaw2.StackDropUndone", spec := "stackDropUndone", inPlace := ["internal/bytealg.IndexByteString", "internal/bytealg.IndexString"], named := ["internal/bytealg.MaxLen"], apart := false, narrowed := true }
def StackDropUndoneUptoSaid : Prop := stackDropUndoneUptoRow.holds Try.pinned (OpenSpec.upto stackDropUndoneSpec)

/-- 'changeforgelaw2.StackMatchesSpec', WHERE WHAT IT READS IS OF BULK AT MOST 1048576: true; the input reads as it did. -/
def stackMatchesSpecUptoRow : OpenClaim := { program := "ytfepfapfogpfkaa", sum := "e6238e705450c2ed4713187a850a92f7542419864a5dc2a4e9795315015d357e", func := "changeforge/changeforgelaw2.StackMatchesSpec", spec := "stackMatchesSpec", inPlace := ["internal/bytealg.IndexByteString", "internal/bytealg.IndexString"], unfollowed := true, recurses := true, named := ["internal/bytealg.MaxLen"], apart := false, narrowed := true }
def StackMatchesSpecUptoSaid : Prop := stackMatchesSpecUptoRow.holds Try.pinned (OpenSpec.upto stackMatchesSpecSpec)

/-- 'changeforgelaw2.StackSquashSameEffect', WHERE WHAT IT READS IS OF BULK AT MOST 1048576: true; the input reads as it did. -/
def stackSquashSameEffectUptoRow : OpenClaim := { program := "ytfepfapfogpfkaa", sum := "e6238e705450c2ed4713187a850a92f7542419864a5dc2a4e9795315015d357e", func := "changeforge/changeforgelaw2.StackSquashSameEffect", spec := "stackSquashSameEffect", inPlace := ["internal/bytealg.IndexByteString", "internal/bytealg.IndexString"], unfollowed := true, recurses := true, named := ["internal/bytealg.MaxLen"], apart := false, narrowed := true }
def StackSquashSameEffectUptoSaid : Prop := stackSquashSameEffectUptoRow.holds Try.pinned (OpenSpec.upto stackSquashSameEffectSpec)

end Rows
end Go.Proofs.Ytfepfapfogpfkaa
