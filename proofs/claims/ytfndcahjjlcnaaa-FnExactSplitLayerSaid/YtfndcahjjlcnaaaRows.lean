/-
  No cell of these rows narrows 'for every input' (looked for: loops, veiled, ifaces, maps, wideKeys, modest, calm, conditions, laid).
  DERIVED. THE GIVEN ROWS OF THIS SEAT. 7 by the template 'for every input the law returns true; each argument reads behind the call as it read before'; 0 by the template 'total and deterministic' (their statements: YtfndcahjjlcnaaaTotals.lean).
  GIVEN WITH THE SEED: the statements are not yours to turn. If you find one false, say at which input.
  Laid BY PROGRAM, IN A SANDBOX (cutbox-rows.mjs): the forced cells as the released guide's own fill.sh prints them over the translation 1afd988571f2ab98… (all of the seat's roots in one cut). By AI agents, Wed Nov 11 2026. No macro, syntax, notation, axiom, sorry.
-/
import Derived.Test.YtfndcahjjlcnaaaChecked
import GoSem.Claim
import GoSem.ClaimJoined
import GoSem.ClaimMapViews
import Derived.JoinedTies
import Derived.KernelRfl
namespace Go.Proofs.Ytfndcahjjlcnaaa
/- THE CELL 'sum', in the pinned program and in every row, IS THE sha256 OF THE DUMP (.gsa) THAT YtfndcahjjlcnaaaProg.lean LOADS. Nothing in Lean hashes anything: it is a label: what it is worth is what the hold of that sum in a sandbox is worth. -/
noncomputable def Try.pinned : Pinned := { name := "ytfndcahjjlcnaaa", sum := "1afd988571f2ab98af1a56aa020485e3bb2e0bd028f102dd6ca99b71254eb2ef", checked := Try.checked }
namespace Rows
def none {H : Type} : Left H := { results := [], args := [] }

/-- 'laws.FnExactHeightOf': WHATEVER THE INPUT: true; the input reads as it did. -/
def fnExactHeightOfSpec : ChangeSpec := { name := "fnExactHeightOf", fn := fun _ => fun
  | [d] => { results := [.lit (.bool true)], args := [d] }
  | _ => none }
def fnExactHeightOfRow : OpenClaim := { program := "ytfndcahjjlcnaaa", sum := "1afd988571f2ab98af1a56aa020485e3bb2e0bd028f102dd6ca99b71254eb2ef", func := "loop.example/g01013/laws.FnExactHeightOf", spec := "fnExactHeightOf", unfollowed := true, recurses := true, apart := false }
def FnExactHeightOfSaid : Prop := fnExactHeightOfRow.holds Try.pinned (OpenSpec.ofChange fnExactHeightOfSpec)

/-- ITS FALSE NEIGHBOUR: 'it returns false'. Refute it at one input. -/
def fnExactHeightOfWrong : ChangeSpec := { name := "fnExactHeightOf", fn := fun _ => fun
  | [d] => { results := [.lit (.bool false)], args := [d] }
  | _ => none }
def FnExactHeightOfWrongFalsely : Prop := fnExactHeightOfRow.holds Try.pinned (OpenSpec.ofChange fnExactHeightOfWrong)

/-- 'laws.FnExactGradientOf': WHATEVER THE INPUT: true; the input reads as it did. -/
def fnExactGradientOfSpec : ChangeSpec := { name := "fnExactGradientOf", fn := fun _ => fun
  | [d1, d2] => { results := [.lit (.bool true)], args := [d1, d2] }
  | _ => none }
def fnExactGradientOfRow : OpenClaim := { program := "ytfndcahjjlcnaaa", sum := "1afd988571f2ab98af1a56aa020485e3bb2e0bd028f102dd6ca99b71254eb2ef", func := "loop.example/g01013/laws.FnExactGradientOf", spec := "fnExactGradientOf", unfollowed := true, recurses := true, apart := false }
def FnExactGradientOfSaid : Prop := fnExactGradientOfRow.holds Try.pinned (OpenSpec.ofChange fnExactGradientOfSpec)

/-- ITS FALSE NEIGHBOUR: 'it returns false'. Refute it at one input. -/
def fnExactGradientOfWrong : ChangeSpec := { name := "fnExactGradientOf", fn := fun _ => fun
  | [d1, d2] => { results := [.lit (.bool false)], args := [d1, d2] }
  | _ => none }
def FnExactGradientOfWrongFalsely : Prop := fnExactGradientOfRow.holds Try.pinned (OpenSpec.ofChange fnExactGradientOfWrong)

/-- 'laws.FnExactLayerAt': WHATEVER THE INPUT: true; the input reads as it did. -/
def fnExactLayerAtSpec : ChangeSpec := { name := "fnExactLayerAt", fn := fun _ => fun
  | [d1, d2] => { results := [.lit (.bool true)], args := [d1, d2] }
  | _ => none }
def fnExactLayerAtRow : OpenClaim := { program := "ytfndcahjjlcnaaa", sum := "1afd988571f2ab98af1a56aa020485e3bb2e0bd028f102dd6ca99b71254eb2ef", func := "loop.example/g01013/laws.FnExactLayerAt", spec := "fnExactLayerAt", unfollowed := true, recurses := true, apart := false }
def FnExactLayerAtSaid : Prop := fnExactLayerAtRow.holds Try.pinned (OpenSpec.ofChange fnExactLayerAtSpec)

/-- ITS FALSE NEIGHBOUR: 'it returns false'. Refute it at one input. -/
def fnExactLayerAtWrong : ChangeSpec := { name := "fnExactLayerAt", fn := fun _ => fun
  | [d1, d2] => { results := [.lit (.bool false)], args := [d1, d2] }
  | _ => none }
def FnExactLayerAtWrongFalsely : Prop := fnExactLayerAtRow.holds Try.pinned (OpenSpec.ofChange fnExactLayerAtWrong)

/-- 'laws.FnExactStressAt': WHATEVER THE INPUT: true; the input reads as it did. -/
def fnExactStressAtSpec : ChangeSpec := { name := "fnExactStressAt", fn := fun _ => fun
  | [d1, d2, d3, d4] => { results := [.lit (.bool true)], args := [d1, d2, d3, d4] }
  | _ => none }
def fnExactStressAtRow : OpenClaim := { program := "ytfndcahjjlcnaaa", sum := "1afd988571f2ab98af1a56aa020485e3bb2e0bd028f102dd6ca99b71254eb2ef", func := "loop.example/g01013/laws.FnExactStressAt", spec := "fnExactStressAt", unfollowed := true, recurses := true, apart := false }
def FnExactStressAtSaid : Prop := fnExactStressAtRow.holds Try.pinned (OpenSpec.ofChange fnExactStressAtSpec)

/-- ITS FALSE NEIGHBOUR: 'it returns false'. Refute it at one input. -/
def fnExactStressAtWrong : ChangeSpec := { name := "fnExactStressAt", fn := fun _ => fun
  | [d1, d2, d3, d4] => { results := [.lit (.bool false)], args := [d1, d2, d3, d4] }
  | _ => none }
def FnExactStressAtWrongFalsely : Prop := fnExactStressAtRow.holds Try.pinned (OpenSpec.ofChange fnExactStressAtWrong)

/-- 'laws.FnExactIndexBounds': WHATEVER THE INPUT: true; the input reads as it did. -/
def fnExactIndexBoundsSpec : ChangeSpec := { name := "fnExactIndexBounds", fn := fun _ => fun
  | [d1, d2, d3, d4, d5] => { results := [.lit (.bool true)], args := [d1, d2, d3, d4, d5] }
  | _ => none }
def fnExactIndexBoundsRow : OpenClaim := { program := "ytfndcahjjlcnaaa", sum := "1afd988571f2ab98af1a56aa020485e3bb2e0bd028f102dd6ca99b71254eb2ef", func := "loop.example/g01013/laws.FnExactIndexBounds", spec := "fnExactIndexBounds", unfollowed := true, recurses := true, apart := false }
def FnExactIndexBoundsSaid : Prop := fnExactIndexBoundsRow.holds Try.pinned (OpenSpec.ofChange fnExactIndexBoundsSpec)

/-- ITS FALSE NEIGHBOUR: 'it returns false'. Refute it at one input. -/
def fnExactIndexBoundsWrong : ChangeSpec := { name := "fnExactIndexBounds", fn := fun _ => fun
  | [d1, d2, d3, d4, d5] => { results := [.lit (.bool false)], args := [d1, d2, d3, d4, d5] }
  | _ => none }
def FnExactIndexBoundsWrongFalsely : Prop := fnExactIndexBoundsRow.holds Try.pinned (OpenSpec.ofChange fnExactIndexBoundsWrong)

/-- 'laws.FnExactAddLayer': WHATEVER THE INPUT: true; the input reads as it did. -/
def fnExactAddLayerSpec : ChangeSpec := { name := "fnExactAddLayer", fn := fun _ => fun
  | [d1, d2] => { results := [.lit (.bool true)], args := [d1, d2] }
  | _ => none }
def fnExactAddLayerRow : OpenClaim := { program := "ytfndcahjjlcnaaa", sum := "1afd988571f2ab98af1a56aa020485e3bb2e0bd028f102dd6ca99b71254eb2ef", func := "loop.example/g01013/laws.FnExactAddLayer", spec := "fnExactAddLayer", unfollowed := true, recurses := true, apart := false }
def FnExactAddLayerSaid : Prop := fnExactAddLayerRow.holds Try.pinned (OpenSpec.ofChange fnExactAddLayerSpec)

/-- ITS FALSE NEIGHBOUR: 'it returns false'. Refute it at one input. -/
def fnExactAddLayerWrong : ChangeSpec := { name := "fnExactAddLayer", fn := fun _ => fun
  | [d1, d2] => { results := [.lit (.bool false)], args := [d1, d2] }
  | _ => none }
def FnExactAddLayerWrongFalsely : Prop := fnExactAddLayerRow.holds Try.pinned (OpenSpec.ofChange fnExactAddLayerWrong)

/-- 'laws.FnExactSplitLayer': WHATEVER THE INPUT: true; the input reads as it did. -/
def fnExactSplitLayerSpec : ChangeSpec := { name := "fnExactSplitLayer", fn := fun _ => fun
  | [d1, d2, d3] => { results := [.lit (.bool true)], args := [d1, d2, d3] }
  | _ => none }
def fnExactSplitLayerRow : OpenClaim := { program := "ytfndcahjjlcnaaa", sum := "1afd988571f2ab98af1a56aa020485e3bb2e0bd028f102dd6ca99b71254eb2ef", func := "loop.example/g01013/laws.FnExactSplitLayer", spec := "fnExactSplitLayer", unfollowed := true, recurses := true, apart := false }
def FnExactSplitLayerSaid : Prop := fnExactSplitLayerRow.holds Try.pinned (OpenSpec.ofChange fnExactSplitLayerSpec)

/-- ITS FALSE NEIGHBOUR: 'it returns false'. Refute it at one input. -/
def fnExactSplitLayerWrong : ChangeSpec := { name := "fnExactSplitLayer", fn := fun _ => fun
  | [d1, d2, d3] => { results := [.lit (.bool false)], args := [d1, d2, d3] }
  | _ => none }
def FnExactSplitLayerWrongFalsely : Prop := fnExactSplitLayerRow.holds Try.pinned (OpenSpec.ofChange fnExactSplitLayerWrong)

/- THE SECOND FORM. 'bulk': how many values and letters a reading holds, each counted each time it is reached (what is shared counts as often as it is met; a slice's spare places count too). A statement '..UptoSaid' is the law's where the arguments, and the package variables that the reading takes, are together of bulk at most 1048576: NARROWER than '..Said'. Prove '..Said' where nothing that the law and all that it calls make is longer than what came in: it says more and counts as full. Else prove '..UptoSaid'. A law counts once. -/
mutual
def uptoBulk {H : Type} : DataW H → Nat
  | .lit (.string bytes) => bytes.length + 1
  | .lit _ => 1
  | .nil => 1
  | .ptr d => uptoBulk d + 1
  | .slice elems spare => uptoBulkAll elems + uptoBulkAll spare + 1
  | .agg parts => uptoBulkAll parts + 1
  | .iface _ d => uptoBulk d + 1
  | .map entries => uptoBulkEntries entries + 1
  | .held _ => 1
def uptoBulkAll {H : Type} : List (DataW H) → Nat
  | [] => 0
  | d :: r => uptoBulk d + uptoBulkAll r
def uptoBulkEntries {H : Type} : List (Lit × DataW H) → Nat
  | [] => 0
  | x :: r => uptoBulkEntry x + uptoBulkEntries r
def uptoBulkEntry {H : Type} : Lit × DataW H → Nat
  | (.string bytes, d) => bytes.length + uptoBulk d + 1
  | (_, d) => uptoBulk d + 1
 end
def uptoSmall : (H : Type) → List (DataW H) → Bool := fun _ ds => decide (uptoBulkAll ds ≤ 1048576)
def OpenSpec.upto (s : _root_.Go.ChangeSpec) : _root_.Go.OpenSpec := { _root_.Go.OpenSpec.ofChange s with cond := some uptoSmall }

/-- 'laws.FnExactHeightOf', WHERE WHAT IT READS IS OF BULK AT MOST 1048576: true; the input reads as it did. -/
def fnExactHeightOfUptoRow : OpenClaim := { program := "ytfndcahjjlcnaaa", sum := "1afd988571f2ab98af1a56aa020485e3bb2e0bd028f102dd6ca99b71254eb2ef", func := "loop.example/g01013/laws.FnExactHeightOf", spec := "fnExactHeightOf", unfollowed := true, recurses := true, apart := false, narrowed := true }
def FnExactHeightOfUptoSaid : Prop := fnExactHeightOfUptoRow.holds Try.pinned (OpenSpec.upto fnExactHeightOfSpec)

/-- 'laws.FnExactGradientOf', WHERE WHAT IT READS IS OF BULK AT MOST 1048576: true; the input reads as it did. -/
def fnExactGradientOfUptoRow : OpenClaim := { program := "ytfndcahjjlcnaaa", sum := "1afd988571f2ab98af1a56aa020485e3bb2e0bd028f102dd6ca99b71254eb2ef", func := "loop.example/g01013/laws.FnExactGradientOf", spec := "fnExactGradientOf", unfollowed := true, recurses := true, apart := false, narrowed := true }
def FnExactGradientOfUptoSaid : Prop := fnExactGradientOfUptoRow.holds Try.pinned (OpenSpec.upto fnExactGradientOfSpec)

/-- 'laws.FnExactLayerAt', WHERE WHAT IT READS IS OF BULK AT MOST 1048576: true; the input reads as it did. -/
def fnExactLayerAtUptoRow : OpenClaim := { program := "ytfndcahjjlcnaaa", sum := "1afd988571f2ab98af1a56aa020485e3bb2e0bd028f102dd6ca99b71254eb2ef", func := "loop.example/g01013/laws.FnExactLayerAt", spec := "fnExactLayerAt", unfollowed := true, recurses := true, apart := false, narrowed := true }
def FnExactLayerAtUptoSaid : Prop := fnExactLayerAtUptoRow.holds Try.pinned (OpenSpec.upto fnExactLayerAtSpec)

/-- 'laws.FnExactStressAt', WHERE WHAT IT READS IS OF BULK AT MOST 1048576: true; the input reads as it did. -/
def fnExactStressAtUptoRow : OpenClaim := { program := "ytfndcahjjlcnaaa", sum := "1afd988571f2ab98af1a56aa020485e3bb2e0bd028f102dd6ca99b71254eb2ef", func := "loop.example/g01013/laws.FnExactStressAt", spec := "fnExactStressAt", unfollowed := true, recurses := true, apart := false, narrowed := true }
def FnExactStressAtUptoSaid : Prop := fnExactStressAtUptoRow.holds Try.pinned (OpenSpec.upto fnExactStressAtSpec)

/-- 'laws.FnExactIndexBounds', WHERE WHAT IT READS IS OF BULK AT MOST 1048576: true; the input reads as it did. -/
def fnExactIndexBoundsUptoRow : OpenClaim := { program := "ytfndcahjjlcnaaa", sum := "1afd988571f2ab98af1a56aa020485e3bb2e0bd028f102dd6ca99b71254eb2ef", func := "loop.example/g01013/laws.FnExactIndexBounds", spec := "fnExactIndexBounds", unfollowed := true, recurses := true, apart := false, narrowed := true }
def FnExactIndexBoundsUptoSaid : Prop := fnExactIndexBoundsUptoRow.holds Try.pinned (OpenSpec.upto fnExactIndexBoundsSpec)

/-- 'laws.FnExactAddLayer', WHERE WHAT IT READS IS OF BULK AT MOST 1048576: true; the input reads as it did. -/
def fnExactAddLayerUptoRow : OpenClaim := { program := "ytfndcahjjlcnaaa", sum := "1afd988571f2ab98af1a56aa020485e3bb2e0bd028f102dd6ca99b71254eb2ef", func := "loop.example/g01013/laws.FnExactAddLayer", spec := "fnExactAddLayer", unfollowed := true, recurses := true, apart := false, narrowed := true }
def FnExactAddLayerUptoSaid : Prop := fnExactAddLayerUptoRow.holds Try.pinned (OpenSpec.upto fnExactAddLayerSpec)

/-- 'laws.FnExactSplitLayer', WHERE WHAT IT READS IS OF BULK AT MOST 1048576: true; the input reads as it did. -/
def fnExactSplitLayerUptoRow : OpenClaim := { program := "ytfndcahjjlcnaaa", sum := "1afd988571f2ab98af1a56aa020485e3bb2e0bd028f102dd6ca99b71254eb2ef", func := "loop.example/g01013/laws.FnExactSplitLayer", spec := "fnExactSplitLayer", unfollowed := true, recurses := true, apart := false, narrowed := true }
def FnExactSplitLayerUptoSaid : Prop := fnExactSplitLayerUptoRow.holds Try.pinned (OpenSpec.upto fnExactSplitLayerSpec)

end Rows
end Go.Proofs.Ytfndcahjjlcnaaa
