/-
  No cell of these rows narrows 'for every input' (looked for: loops, veiled, ifaces, maps, wideKeys, modest, calm, conditions, laid).
  DERIVED. THE GIVEN ROWS OF THIS SEAT. 8 by the template 'for every input the law returns true; each argument reads behind the call as it read before'; 0 by the template 'total and deterministic' (their statements: YtgjdljfhdaeeeaaTotals.lean).
  GIVEN WITH THE SEED: the statements are not yours to turn. If you find one false, say at which input.
  Laid BY PROGRAM, IN A SANDBOX (cutbox-rows.mjs): the forced cells as the released guide's own fill.sh prints them over the translation ca6fe664c0913637… (all of the seat's roots in one cut). By AI agents, Wed Nov 11 2026. No macro, syntax, notation, axiom, sorry.
-/
import Derived.Test.YtgjdljfhdaeeeaaChecked
import GoSem.Claim
import GoSem.ClaimJoined
import GoSem.ClaimMapViews
import Derived.JoinedTies
import Derived.KernelRfl
namespace Go.Proofs.Ytgjdljfhdaeeeaa
/- THE CELL 'sum', in the pinned program and in every row, IS THE sha256 OF THE DUMP (.gsa) THAT YtgjdljfhdaeeeaaProg.lean LOADS. Nothing in Lean hashes anything: it is a label: what it is worth is what the hold of that sum in a sandbox is worth. -/
noncomputable def Try.pinned : Pinned := { name := "ytgjdljfhdaeeeaa", sum := "ca6fe664c0913637b9b6a7b194748baeeaf17fb6460b1e14b95c109abfeb348e", checked := Try.checked }
namespace Rows
def none {H : Type} : Left H := { results := [], args := [] }

/-- 'laws.FnExactThicknessOf': WHATEVER THE INPUT: true; the input reads as it did. -/
def fnExactThicknessOfSpec : ChangeSpec := { name := "fnExactThicknessOf", fn := fun _ => fun
  | [d] => { results := [.lit (.bool true)], args := [d] }
  | _ => none }
def fnExactThicknessOfRow : OpenClaim := { program := "ytgjdljfhdaeeeaa", sum := "ca6fe664c0913637b9b6a7b194748baeeaf17fb6460b1e14b95c109abfeb348e", func := "loop.example/g01013/laws.FnExactThicknessOf", spec := "fnExactThicknessOf", apart := false }
def FnExactThicknessOfSaid : Prop := fnExactThicknessOfRow.holds Try.pinned (OpenSpec.ofChange fnExactThicknessOfSpec)

/-- ITS FALSE NEIGHBOUR: 'it returns false'. Refute it at one input. -/
def fnExactThicknessOfWrong : ChangeSpec := { name := "fnExactThicknessOf", fn := fun _ => fun
  | [d] => { results := [.lit (.bool false)], args := [d] }
  | _ => none }
def FnExactThicknessOfWrongFalsely : Prop := fnExactThicknessOfRow.holds Try.pinned (OpenSpec.ofChange fnExactThicknessOfWrong)

/-- 'laws.FnExactSettleLayer': WHATEVER THE INPUT: true; the input reads as it did. -/
def fnExactSettleLayerSpec : ChangeSpec := { name := "fnExactSettleLayer", fn := fun _ => fun
  | [d1, d2] => { results := [.lit (.bool true)], args := [d1, d2] }
  | _ => none }
def fnExactSettleLayerRow : OpenClaim := { program := "ytgjdljfhdaeeeaa", sum := "ca6fe664c0913637b9b6a7b194748baeeaf17fb6460b1e14b95c109abfeb348e", func := "loop.example/g01013/laws.FnExactSettleLayer", spec := "fnExactSettleLayer", apart := false }
def FnExactSettleLayerSaid : Prop := fnExactSettleLayerRow.holds Try.pinned (OpenSpec.ofChange fnExactSettleLayerSpec)

/-- ITS FALSE NEIGHBOUR: 'it returns false'. Refute it at one input. -/
def fnExactSettleLayerWrong : ChangeSpec := { name := "fnExactSettleLayer", fn := fun _ => fun
  | [d1, d2] => { results := [.lit (.bool false)], args := [d1, d2] }
  | _ => none }
def FnExactSettleLayerWrongFalsely : Prop := fnExactSettleLayerRow.holds Try.pinned (OpenSpec.ofChange fnExactSettleLayerWrong)

/-- 'laws.FnExactStrengthBounds': WHATEVER THE INPUT: true; the input reads as it did. -/
def fnExactStrengthBoundsSpec : ChangeSpec := { name := "fnExactStrengthBounds", fn := fun _ => fun
  | [d1, d2] => { results := [.lit (.bool true)], args := [d1, d2] }
  | _ => none }
def fnExactStrengthBoundsRow : OpenClaim := { program := "ytgjdljfhdaeeeaa", sum := "ca6fe664c0913637b9b6a7b194748baeeaf17fb6460b1e14b95c109abfeb348e", func := "loop.example/g01013/laws.FnExactStrengthBounds", spec := "fnExactStrengthBounds", apart := false }
def FnExactStrengthBoundsSaid : Prop := fnExactStrengthBoundsRow.holds Try.pinned (OpenSpec.ofChange fnExactStrengthBoundsSpec)

/-- ITS FALSE NEIGHBOUR: 'it returns false'. Refute it at one input. -/
def fnExactStrengthBoundsWrong : ChangeSpec := { name := "fnExactStrengthBounds", fn := fun _ => fun
  | [d1, d2] => { results := [.lit (.bool false)], args := [d1, d2] }
  | _ => none }
def FnExactStrengthBoundsWrongFalsely : Prop := fnExactStrengthBoundsRow.holds Try.pinned (OpenSpec.ofChange fnExactStrengthBoundsWrong)

/-- 'laws.FnExactSameProfile': WHATEVER THE INPUT: true; the input reads as it did. -/
def fnExactSameProfileSpec : ChangeSpec := { name := "fnExactSameProfile", fn := fun _ => fun
  | [d1, d2] => { results := [.lit (.bool true)], args := [d1, d2] }
  | _ => none }
def fnExactSameProfileRow : OpenClaim := { program := "ytgjdljfhdaeeeaa", sum := "ca6fe664c0913637b9b6a7b194748baeeaf17fb6460b1e14b95c109abfeb348e", func := "loop.example/g01013/laws.FnExactSameProfile", spec := "fnExactSameProfile", apart := false }
def FnExactSameProfileSaid : Prop := fnExactSameProfileRow.holds Try.pinned (OpenSpec.ofChange fnExactSameProfileSpec)

/-- ITS FALSE NEIGHBOUR: 'it returns false'. Refute it at one input. -/
def fnExactSameProfileWrong : ChangeSpec := { name := "fnExactSameProfile", fn := fun _ => fun
  | [d1, d2] => { results := [.lit (.bool false)], args := [d1, d2] }
  | _ => none }
def FnExactSameProfileWrongFalsely : Prop := fnExactSameProfileRow.holds Try.pinned (OpenSpec.ofChange fnExactSameProfileWrong)

/-- 'laws.FnExactValidProfile': WHATEVER THE INPUT: true; the input reads as it did. -/
def fnExactValidProfileSpec : ChangeSpec := { name := "fnExactValidProfile", fn := fun _ => fun
  | [d] => { results := [.lit (.bool true)], args := [d] }
  | _ => none }
def fnExactValidProfileRow : OpenClaim := { program := "ytgjdljfhdaeeeaa", sum := "ca6fe664c0913637b9b6a7b194748baeeaf17fb6460b1e14b95c109abfeb348e", func := "loop.example/g01013/laws.FnExactValidProfile", spec := "fnExactValidProfile", unfollowed := true, recurses := true, apart := false }
def FnExactValidProfileSaid : Prop := fnExactValidProfileRow.holds Try.pinned (OpenSpec.ofChange fnExactValidProfileSpec)

/-- ITS FALSE NEIGHBOUR: 'it returns false'. Refute it at one input. -/
def fnExactValidProfileWrong : ChangeSpec := { name := "fnExactValidProfile", fn := fun _ => fun
  | [d] => { results := [.lit (.bool false)], args := [d] }
  | _ => none }
def FnExactValidProfileWrongFalsely : Prop := fnExactValidProfileRow.holds Try.pinned (OpenSpec.ofChange fnExactValidProfileWrong)

/-- 'laws.FnExactMassOf': WHATEVER THE INPUT: true; the input reads as it did. -/
def fnExactMassOfSpec : ChangeSpec := { name := "fnExactMassOf", fn := fun _ => fun
  | [d] => { results := [.lit (.bool true)], args := [d] }
  | _ => none }
def fnExactMassOfRow : OpenClaim := { program := "ytgjdljfhdaeeeaa", sum := "ca6fe664c0913637b9b6a7b194748baeeaf17fb6460b1e14b95c109abfeb348e", func := "loop.example/g01013/laws.FnExactMassOf", spec := "fnExactMassOf", unfollowed := true, recurses := true, apart := false }
def FnExactMassOfSaid : Prop := fnExactMassOfRow.holds Try.pinned (OpenSpec.ofChange fnExactMassOfSpec)

/-- ITS FALSE NEIGHBOUR: 'it returns false'. Refute it at one input. -/
def fnExactMassOfWrong : ChangeSpec := { name := "fnExactMassOf", fn := fun _ => fun
  | [d] => { results := [.lit (.bool false)], args := [d] }
  | _ => none }
def FnExactMassOfWrongFalsely : Prop := fnExactMassOfRow.holds Try.pinned (OpenSpec.ofChange fnExactMassOfWrong)

/-- 'laws.FnExactColdOf': WHATEVER THE INPUT: true; the input reads as it did. -/
def fnExactColdOfSpec : ChangeSpec := { name := "fnExactColdOf", fn := fun _ => fun
  | [d] => { results := [.lit (.bool true)], args := [d] }
  | _ => none }
def fnExactColdOfRow : OpenClaim := { program := "ytgjdljfhdaeeeaa", sum := "ca6fe664c0913637b9b6a7b194748baeeaf17fb6460b1e14b95c109abfeb348e", func := "loop.example/g01013/laws.FnExactColdOf", spec := "fnExactColdOf", unfollowed := true, recurses := true, apart := false }
def FnExactColdOfSaid : Prop := fnExactColdOfRow.holds Try.pinned (OpenSpec.ofChange fnExactColdOfSpec)

/-- ITS FALSE NEIGHBOUR: 'it returns false'. Refute it at one input. -/
def fnExactColdOfWrong : ChangeSpec := { name := "fnExactColdOf", fn := fun _ => fun
  | [d] => { results := [.lit (.bool false)], args := [d] }
  | _ => none }
def FnExactColdOfWrongFalsely : Prop := fnExactColdOfRow.holds Try.pinned (OpenSpec.ofChange fnExactColdOfWrong)

/-- 'laws.FnExactLoadAbove': WHATEVER THE INPUT: true; the input reads as it did. -/
def fnExactLoadAboveSpec : ChangeSpec := { name := "fnExactLoadAbove", fn := fun _ => fun
  | [d1, d2] => { results := [.lit (.bool true)], args := [d1, d2] }
  | _ => none }
def fnExactLoadAboveRow : OpenClaim := { program := "ytgjdljfhdaeeeaa", sum := "ca6fe664c0913637b9b6a7b194748baeeaf17fb6460b1e14b95c109abfeb348e", func := "loop.example/g01013/laws.FnExactLoadAbove", spec := "fnExactLoadAbove", unfollowed := true, recurses := true, apart := false }
def FnExactLoadAboveSaid : Prop := fnExactLoadAboveRow.holds Try.pinned (OpenSpec.ofChange fnExactLoadAboveSpec)

/-- ITS FALSE NEIGHBOUR: 'it returns false'. Refute it at one input. -/
def fnExactLoadAboveWrong : ChangeSpec := { name := "fnExactLoadAbove", fn := fun _ => fun
  | [d1, d2] => { results := [.lit (.bool false)], args := [d1, d2] }
  | _ => none }
def FnExactLoadAboveWrongFalsely : Prop := fnExactLoadAboveRow.holds Try.pinned (OpenSpec.ofChange fnExactLoadAboveWrong)

/- THE SECOND FORM. 'bulk': how many values and letters a reading holds, each counted each time it is reached (what is shared counts as often as it is met; a slice's spare places count too). A statement '..UptoSaid' is the law's where the arguments, and the package variables that the reading takes, are together of bulk at most 1048576: NARROWER than '..Said'. Prove '..Said' where nothing that the law and all that it calls make is longer than what came in: it says more and counts as full. Else prove '..UptoSaid'. A law counts once. -/
mutual
def uptoBulk {H : Type} : DataW H → Nat
  | .lit (.string bytes) => bytes.length + 1
  | .lit _ => 1
  | .nil => 1
  | .ptr d => uptoBulk d + 1
  | .slice elems spare => uptoBulkAll elems + uptoBulkAll spare + 1
  | .agg parts => uptoBulkAll parts + 1
  | .iface _ d => uptoBulk d + 1
  | .map entries => uptoBulkEntries entries + 1
  | .held _ => 1
def uptoBulkAll {H : Type} : List (DataW H) → Nat
  | [] => 0
  | d :: r => uptoBulk d + uptoBulkAll r
def uptoBulkEntries {H : Type} : List (Lit × DataW H) → Nat
  | [] => 0
  | x :: r => uptoBulkEntry x + uptoBulkEntries r
def uptoBulkEntry {H : Type} : Lit × DataW H → Nat
  | (.string bytes, d) => bytes.length + uptoBulk d + 1
  | (_, d) => uptoBulk d + 1
 end
def uptoSmall : (H : Type) → List (DataW H) → Bool := fun _ ds => decide (uptoBulkAll ds ≤ 1048576)
def OpenSpec.upto (s : _root_.Go.ChangeSpec) : _root_.Go.OpenSpec := { _root_.Go.OpenSpec.ofChange s with cond := some uptoSmall }

/-- 'laws.FnExactThicknessOf', WHERE WHAT IT READS IS OF BULK AT MOST 1048576: true; the input reads as it did. -/
def fnExactThicknessOfUptoRow : OpenClaim := { program := "ytgjdljfhdaeeeaa", sum := "ca6fe664c0913637b9b6a7b194748baeeaf17fb6460b1e14b95c109abfeb348e", func := "loop.example/g01013/laws.FnExactThicknessOf", spec := "fnExactThicknessOf", apart := false, narrowed := true }
def FnExactThicknessOfUptoSaid : Prop := fnExactThicknessOfUptoRow.holds Try.pinned (OpenSpec.upto fnExactThicknessOfSpec)

/-- 'laws.FnExactSettleLayer', WHERE WHAT IT READS IS OF BULK AT MOST 1048576: true; the input reads as it did. -/
def fnExactSettleLayerUptoRow : OpenClaim := { program := "ytgjdljfhdaeeeaa", sum := "ca6fe664c0913637b9b6a7b194748baeeaf17fb6460b1e14b95c109abfeb348e", func := "loop.example/g01013/laws.FnExactSettleLayer", spec := "fnExactSettleLayer", apart := false, narrowed := true }
def FnExactSettleLayerUptoSaid : Prop := fnExactSettleLayerUptoRow.holds Try.pinned (OpenSpec.upto fnExactSettleLayerSpec)

/-- 'laws.FnExactStrengthBounds', WHERE WHAT IT READS IS OF BULK AT MOST 1048576: true; the input reads as it did. -/
def fnExactStrengthBoundsUptoRow : OpenClaim := { program := "ytgjdljfhdaeeeaa", sum := "ca6fe664c0913637b9b6a7b194748baeeaf17fb6460b1e14b95c109abfeb348e", func := "loop.example/g01013/laws.FnExactStrengthBounds", spec := "fnExactStrengthBounds", apart := false, narrowed := true }
def FnExactStrengthBoundsUptoSaid : Prop := fnExactStrengthBoundsUptoRow.holds Try.pinned (OpenSpec.upto fnExactStrengthBoundsSpec)

/-- 'laws.FnExactSameProfile', WHERE WHAT IT READS IS OF BULK AT MOST 1048576: true; the input reads as it did. -/
def fnExactSameProfileUptoRow : OpenClaim := { program := "ytgjdljfhdaeeeaa", sum := "ca6fe664c0913637b9b6a7b194748baeeaf17fb6460b1e14b95c109abfeb348e", func := "loop.example/g01013/laws.FnExactSameProfile", spec := "fnExactSameProfile", apart := false, narrowed := true }
def FnExactSameProfileUptoSaid : Prop := fnExactSameProfileUptoRow.holds Try.pinned (OpenSpec.upto fnExactSameProfileSpec)

/-- 'laws.FnExactValidProfile', WHERE WHAT IT READS IS OF BULK AT MOST 1048576: true; the input reads as it did. -/
def fnExactValidProfileUptoRow : OpenClaim := { program := "ytgjdljfhdaeeeaa", sum := "ca6fe664c0913637b9b6a7b194748baeeaf17fb6460b1e14b95c109abfeb348e", func := "loop.example/g01013/laws.FnExactValidProfile", spec := "fnExactValidProfile", unfollowed := true, recurses := true, apart := false, narrowed := true }
def FnExactValidProfileUptoSaid : Prop := fnExactValidProfileUptoRow.holds Try.pinned (OpenSpec.upto fnExactValidProfileSpec)

/-- 'laws.FnExactMassOf', WHERE WHAT IT READS IS OF BULK AT MOST 1048576: true; the input reads as it did. -/
def fnExactMassOfUptoRow : OpenClaim := { program := "ytgjdljfhdaeeeaa", sum := "ca6fe664c0913637b9b6a7b194748baeeaf17fb6460b1e14b95c109abfeb348e", func := "loop.example/g01013/laws.FnExactMassOf", spec := "fnExactMassOf", unfollowed := true, recurses := true, apart := false, narrowed := true }
def FnExactMassOfUptoSaid : Prop := fnExactMassOfUptoRow.holds Try.pinned (OpenSpec.upto fnExactMassOfSpec)

/-- 'laws.FnExactColdOf', WHERE WHAT IT READS IS OF BULK AT MOST 1048576: true; the input reads as it did. -/
def fnExactColdOfUptoRow : OpenClaim := { program := "ytgjdljfhdaeeeaa", sum := "ca6fe664c0913637b9b6a7b194748baeeaf17fb6460b1e14b95c109abfeb348e", func := "loop.example/g01013/laws.FnExactColdOf", spec := "fnExactColdOf", unfollowed := true, recurses := true, apart := false, narrowed := true }
def FnExactColdOfUptoSaid : Prop := fnExactColdOfUptoRow.holds Try.pinned (OpenSpec.upto fnExactColdOfSpec)

/-- 'laws.FnExactLoadAbove', WHERE WHAT IT READS IS OF BULK AT MOST 1048576: true; the input reads as it did. -/
def fnExactLoadAboveUptoRow : OpenClaim := { program := "ytgjdljfhdaeeeaa", sum := "ca6fe664c0913637b9b6a7b194748baeeaf17fb6460b1e14b95c109abfeb348e", func := "loop.example/g01013/laws.FnExactLoadAbove", spec := "fnExactLoadAbove", unfollowed := true, recurses := true, apart := false, narrowed := true }
def FnExactLoadAboveUptoSaid : Prop := fnExactLoadAboveUptoRow.holds Try.pinned (OpenSpec.upto fnExactLoadAboveSpec)

end Rows
end Go.Proofs.Ytgjdljfhdaeeeaa
