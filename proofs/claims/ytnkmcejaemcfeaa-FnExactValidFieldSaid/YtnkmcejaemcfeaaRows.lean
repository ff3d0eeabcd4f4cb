/-
  No cell of these rows narrows 'for every input' (looked for: loops, veiled, ifaces, maps, wideKeys, modest, calm, conditions, laid).
  DERIVED. THE GIVEN ROWS OF THIS SEAT. 13 by the template 'for every input the law returns true; each argument reads behind the call as it read before'; 0 by the template 'total and deterministic' (their statements: YtnkmcejaemcfeaaTotals.lean).
  GIVEN WITH THE SEED: the statements are not yours to turn. If you find one false, say at which input.
  Laid BY PROGRAM, IN A SANDBOX (cutbox-rows.mjs): the forced cells as the released guide's own fill.sh prints them over the translation b1171f5862ae7527… (all of the seat's roots in one cut). By AI agents, Wed Nov 11 2026. No macro, syntax, notation, axiom, sorry.
-/
import Derived.Test.YtnkmcejaemcfeaaChecked
import GoSem.Claim
import GoSem.ClaimJoined
import GoSem.ClaimMapViews
import Derived.JoinedTies
import Derived.KernelRfl
namespace Go.Proofs.Ytnkmcejaemcfeaa
/- THE CELL 'sum', in the pinned program and in every row, IS THE sha256 OF THE DUMP (.gsa) THAT YtnkmcejaemcfeaaProg.lean LOADS. Nothing in Lean hashes anything: it is a label: what it is worth is what the hold of that sum in a sandbox is worth. -/
noncomputable def Try.pinned : Pinned := { name := "ytnkmcejaemcfeaa", sum := "b1171f5862ae7527c0d13c0410da72a5d6da4f4547098d9b23da85c887a48fd5", checked := Try.checked }
namespace Rows
def none {H : Type} : Left H := { results := [], args := [] }

/-- 'laws.FnExactRootOf': WHATEVER THE INPUT: true; the input reads as it did. -/
def fnExactRootOfSpec : ChangeSpec := { name := "fnExactRootOf", fn := fun _ => fun
  | [d] => { results := [.lit (.bool true)], args := [d] }
  | _ => none }
def fnExactRootOfRow : OpenClaim := { program := "ytnkmcejaemcfeaa", sum := "b1171f5862ae7527c0d13c0410da72a5d6da4f4547098d9b23da85c887a48fd5", func := "loop.example/g01013/laws.FnExactRootOf", spec := "fnExactRootOf", unfollowed := true, recurses := true, apart := false }
def FnExactRootOfSaid : Prop := fnExactRootOfRow.holds Try.pinned (OpenSpec.ofChange fnExactRootOfSpec)

/-- ITS FALSE NEIGHBOUR: 'it returns false'. Refute it at one input. -/
def fnExactRootOfWrong : ChangeSpec := { name := "fnExactRootOf", fn := fun _ => fun
  | [d] => { results := [.lit (.bool false)], args := [d] }
  | _ => none }
def FnExactRootOfWrongFalsely : Prop := fnExactRootOfRow.holds Try.pinned (OpenSpec.ofChange fnExactRootOfWrong)

/-- 'laws.FnExactDivRound': WHATEVER THE INPUT: true; the input reads as it did. -/
def fnExactDivRoundSpec : ChangeSpec := { name := "fnExactDivRound", fn := fun _ => fun
  | [d1, d2] => { results := [.lit (.bool true)], args := [d1, d2] }
  | _ => none }
def fnExactDivRoundRow : OpenClaim := { program := "ytnkmcejaemcfeaa", sum := "b1171f5862ae7527c0d13c0410da72a5d6da4f4547098d9b23da85c887a48fd5", func := "loop.example/g01013/laws.FnExactDivRound", spec := "fnExactDivRound", apart := false }
def FnExactDivRoundSaid : Prop := fnExactDivRoundRow.holds Try.pinned (OpenSpec.ofChange fnExactDivRoundSpec)

/-- ITS FALSE NEIGHBOUR: 'it returns false'. Refute it at one input. -/
def fnExactDivRoundWrong : ChangeSpec := { name := "fnExactDivRound", fn := fun _ => fun
  | [d1, d2] => { results := [.lit (.bool false)], args := [d1, d2] }
  | _ => none }
def FnExactDivRoundWrongFalsely : Prop := fnExactDivRoundRow.holds Try.pinned (OpenSpec.ofChange fnExactDivRoundWrong)

/-- 'laws.FnExactSnowHeight': WHATEVER THE INPUT: true; the input reads as it did. -/
def fnExactSnowHeightSpec : ChangeSpec := { name := "fnExactSnowHeight", fn := fun _ => fun
  | [d1, d2] => { results := [.lit (.bool true)], args := [d1, d2] }
  | _ => none }
def fnExactSnowHeightRow : OpenClaim := { program := "ytnkmcejaemcfeaa", sum := "b1171f5862ae7527c0d13c0410da72a5d6da4f4547098d9b23da85c887a48fd5", func := "loop.example/g01013/laws.FnExactSnowHeight", spec := "fnExactSnowHeight", apart := false }
def FnExactSnowHeightSaid : Prop := fnExactSnowHeightRow.holds Try.pinned (OpenSpec.ofChange fnExactSnowHeightSpec)

/-- ITS FALSE NEIGHBOUR: 'it returns false'. Refute it at one input. -/
def fnExactSnowHeightWrong : ChangeSpec := { name := "fnExactSnowHeight", fn := fun _ => fun
  | [d1, d2] => { results := [.lit (.bool false)], args := [d1, d2] }
  | _ => none }
def FnExactSnowHeightWrongFalsely : Prop := fnExactSnowHeightRow.holds Try.pinned (OpenSpec.ofChange fnExactSnowHeightWrong)

/-- 'laws.FnExactClockText': WHATEVER THE INPUT: true; the input reads as it did. -/
def fnExactClockTextSpec : ChangeSpec := { name := "fnExactClockText", fn := fun _ => fun
  | [d] => { results := [.lit (.bool true)], args := [d] }
  | _ => none }
def fnExactClockTextRow : OpenClaim := { program := "ytnkmcejaemcfeaa", sum := "b1171f5862ae7527c0d13c0410da72a5d6da4f4547098d9b23da85c887a48fd5", func := "loop.example/g01013/laws.FnExactClockText", spec := "fnExactClockText", apart := false }
def FnExactClockTextSaid : Prop := fnExactClockTextRow.holds Try.pinned (OpenSpec.ofChange fnExactClockTextSpec)

/-- ITS FALSE NEIGHBOUR: 'it returns false'. Refute it at one input. -/
def fnExactClockTextWrong : ChangeSpec := { name := "fnExactClockText", fn := fun _ => fun
  | [d] => { results := [.lit (.bool false)], args := [d] }
  | _ => none }
def FnExactClockTextWrongFalsely : Prop := fnExactClockTextRow.holds Try.pinned (OpenSpec.ofChange fnExactClockTextWrong)

/-- 'laws.FnExactDayNumber': WHATEVER THE INPUT: true; the input reads as it did. -/
def fnExactDayNumberSpec : ChangeSpec := { name := "fnExactDayNumber", fn := fun _ => fun
  | [d1, d2, d3] => { results := [.lit (.bool true)], args := [d1, d2, d3] }
  | _ => none }
def fnExactDayNumberRow : OpenClaim := { program := "ytnkmcejaemcfeaa", sum := "b1171f5862ae7527c0d13c0410da72a5d6da4f4547098d9b23da85c887a48fd5", func := "loop.example/g01013/laws.FnExactDayNumber", spec := "fnExactDayNumber", apart := false }
def FnExactDayNumberSaid : Prop := fnExactDayNumberRow.holds Try.pinned (OpenSpec.ofChange fnExactDayNumberSpec)

/-- ITS FALSE NEIGHBOUR: 'it returns false'. Refute it at one input. -/
def fnExactDayNumberWrong : ChangeSpec := { name := "fnExactDayNumber", fn := fun _ => fun
  | [d1, d2, d3] => { results := [.lit (.bool false)], args := [d1, d2, d3] }
  | _ => none }
def FnExactDayNumberWrongFalsely : Prop := fnExactDayNumberRow.holds Try.pinned (OpenSpec.ofChange fnExactDayNumberWrong)

/-- 'laws.FnExactReadClock': WHATEVER THE INPUT: true; the input reads as it did. -/
def fnExactReadClockSpec : ChangeSpec := { name := "fnExactReadClock", fn := fun _ => fun
  | [d] => { results := [.lit (.bool true)], args := [d] }
  | _ => none }
def fnExactReadClockRow : OpenClaim := { program := "ytnkmcejaemcfeaa", sum := "b1171f5862ae7527c0d13c0410da72a5d6da4f4547098d9b23da85c887a48fd5", func := "loop.example/g01013/laws.FnExactReadClock", spec := "fnExactReadClock", apart := false }
def FnExactReadClockSaid : Prop := fnExactReadClockRow.holds Try.pinned (OpenSpec.ofChange fnExactReadClockSpec)

/-- ITS FALSE NEIGHBOUR: 'it returns false'. Refute it at one input. -/
def fnExactReadClockWrong : ChangeSpec := { name := "fnExactReadClock", fn := fun _ => fun
  | [d] => { results := [.lit (.bool false)], args := [d] }
  | _ => none }
def FnExactReadClockWrongFalsely : Prop := fnExactReadClockRow.holds Try.pinned (OpenSpec.ofChange fnExactReadClockWrong)

/-- 'laws.FnExactDateOf': WHATEVER THE INPUT: true; the input reads as it did. -/
def fnExactDateOfSpec : ChangeSpec := { name := "fnExactDateOf", fn := fun _ => fun
  | [d] => { results := [.lit (.bool true)], args := [d] }
  | _ => none }
def fnExactDateOfRow : OpenClaim := { program := "ytnkmcejaemcfeaa", sum := "b1171f5862ae7527c0d13c0410da72a5d6da4f4547098d9b23da85c887a48fd5", func := "loop.example/g01013/laws.FnExactDateOf", spec := "fnExactDateOf", apart := false }
def FnExactDateOfSaid : Prop := fnExactDateOfRow.holds Try.pinned (OpenSpec.ofChange fnExactDateOfSpec)

/-- ITS FALSE NEIGHBOUR: 'it returns false'. Refute it at one input. -/
def fnExactDateOfWrong : ChangeSpec := { name := "fnExactDateOf", fn := fun _ => fun
  | [d] => { results := [.lit (.bool false)], args := [d] }
  | _ => none }
def FnExactDateOfWrongFalsely : Prop := fnExactDateOfRow.holds Try.pinned (OpenSpec.ofChange fnExactDateOfWrong)

/-- 'laws.FnExactShareOf': WHATEVER THE INPUT: true; the input reads as it did. -/
def fnExactShareOfSpec : ChangeSpec := { name := "fnExactShareOf", fn := fun _ => fun
  | [d] => { results := [.lit (.bool true)], args := [d] }
  | _ => none }
def fnExactShareOfRow : OpenClaim := { program := "ytnkmcejaemcfeaa", sum := "b1171f5862ae7527c0d13c0410da72a5d6da4f4547098d9b23da85c887a48fd5", func := "loop.example/g01013/laws.FnExactShareOf", spec := "fnExactShareOf", apart := false }
def FnExactShareOfSaid : Prop := fnExactShareOfRow.holds Try.pinned (OpenSpec.ofChange fnExactShareOfSpec)

/-- ITS FALSE NEIGHBOUR: 'it returns false'. Refute it at one input. -/
def fnExactShareOfWrong : ChangeSpec := { name := "fnExactShareOf", fn := fun _ => fun
  | [d] => { results := [.lit (.bool false)], args := [d] }
  | _ => none }
def FnExactShareOfWrongFalsely : Prop := fnExactShareOfRow.holds Try.pinned (OpenSpec.ofChange fnExactShareOfWrong)

/-- 'laws.FnExactBlend': WHATEVER THE INPUT: true; the input reads as it did. -/
def fnExactBlendSpec : ChangeSpec := { name := "fnExactBlend", fn := fun _ => fun
  | [d1, d2, d3, d4, d5] => { results := [.lit (.bool true)], args := [d1, d2, d3, d4, d5] }
  | _ => none }
def fnExactBlendRow : OpenClaim := { program := "ytnkmcejaemcfeaa", sum := "b1171f5862ae7527c0d13c0410da72a5d6da4f4547098d9b23da85c887a48fd5", func := "loop.example/g01013/laws.FnExactBlend", spec := "fnExactBlend", apart := false }
def FnExactBlendSaid : Prop := fnExactBlendRow.holds Try.pinned (OpenSpec.ofChange fnExactBlendSpec)

/-- ITS FALSE NEIGHBOUR: 'it returns false'. Refute it at one input. -/
def fnExactBlendWrong : ChangeSpec := { name := "fnExactBlend", fn := fun _ => fun
  | [d1, d2, d3, d4, d5] => { results := [.lit (.bool false)], args := [d1, d2, d3, d4, d5] }
  | _ => none }
def FnExactBlendWrongFalsely : Prop := fnExactBlendRow.holds Try.pinned (OpenSpec.ofChange fnExactBlendWrong)

/-- 'laws.FnExactSameField': WHATEVER THE INPUT: true; the input reads as it did. -/
def fnExactSameFieldSpec : ChangeSpec := { name := "fnExactSameField", fn := fun _ => fun
  | [d1, d2] => { results := [.lit (.bool true)], args := [d1, d2] }
  | _ => none }
def fnExactSameFieldRow : OpenClaim := { program := "ytnkmcejaemcfeaa", sum := "b1171f5862ae7527c0d13c0410da72a5d6da4f4547098d9b23da85c887a48fd5", func := "loop.example/g01013/laws.FnExactSameField", spec := "fnExactSameField", apart := false }
def FnExactSameFieldSaid : Prop := fnExactSameFieldRow.holds Try.pinned (OpenSpec.ofChange fnExactSameFieldSpec)

/-- ITS FALSE NEIGHBOUR: 'it returns false'. Refute it at one input. -/
def fnExactSameFieldWrong : ChangeSpec := { name := "fnExactSameField", fn := fun _ => fun
  | [d1, d2] => { results := [.lit (.bool false)], args := [d1, d2] }
  | _ => none }
def FnExactSameFieldWrongFalsely : Prop := fnExactSameFieldRow.holds Try.pinned (OpenSpec.ofChange fnExactSameFieldWrong)

/-- 'laws.FnExactValidField': WHATEVER THE INPUT: true; the input reads as it did. -/
def fnExactValidFieldSpec : ChangeSpec := { name := "fnExactValidField", fn := fun _ => fun
  | [d] => { results := [.lit (.bool true)], args := [d] }
  | _ => none }
def fnExactValidFieldRow : OpenClaim := { program := "ytnkmcejaemcfeaa", sum := "b1171f5862ae7527c0d13c0410da72a5d6da4f4547098d9b23da85c887a48fd5", func := "loop.example/g01013/laws.FnExactValidField", spec := "fnExactValidField", unfollowed := true, recurses := true, apart := false }
def FnExactValidFieldSaid : Prop := fnExactValidFieldRow.holds Try.pinned (OpenSpec.ofChange fnExactValidFieldSpec)

/-- ITS FALSE NEIGHBOUR: 'it returns false'. Refute it at one input. -/
def fnExactValidFieldWrong : ChangeSpec := { name := "fnExactValidField", fn := fun _ => fun
  | [d] => { results := [.lit (.bool false)], args := [d] }
  | _ => none }
def FnExactValidFieldWrongFalsely : Prop := fnExactValidFieldRow.holds Try.pinned (OpenSpec.ofChange fnExactValidFieldWrong)

/-- 'laws.FnExactFieldMass': WHATEVER THE INPUT: true; the input reads as it did. -/
def fnExactFieldMassSpec : ChangeSpec := { name := "fnExactFieldMass", fn := fun _ => fun
  | [d] => { results := [.lit (.bool true)], args := [d] }
  | _ => none }
def fnExactFieldMassRow : OpenClaim := { program := "ytnkmcejaemcfeaa", sum := "b1171f5862ae7527c0d13c0410da72a5d6da4f4547098d9b23da85c887a48fd5", func := "loop.example/g01013/laws.FnExactFieldMass", spec := "fnExactFieldMass", unfollowed := true, recurses := true, apart := false }
def FnExactFieldMassSaid : Prop := fnExactFieldMassRow.holds Try.pinned (OpenSpec.ofChange fnExactFieldMassSpec)

/-- ITS FALSE NEIGHBOUR: 'it returns false'. Refute it at one input. -/
def fnExactFieldMassWrong : ChangeSpec := { name := "fnExactFieldMass", fn := fun _ => fun
  | [d] => { results := [.lit (.bool false)], args := [d] }
  | _ => none }
def FnExactFieldMassWrongFalsely : Prop := fnExactFieldMassRow.holds Try.pinned (OpenSpec.ofChange fnExactFieldMassWrong)

/-- 'laws.FnExactSnowOver': WHATEVER THE INPUT: true; the input reads as it did. -/
def fnExactSnowOverSpec : ChangeSpec := { name := "fnExactSnowOver", fn := fun _ => fun
  | [d1, d2] => { results := [.lit (.bool true)], args := [d1, d2] }
  | _ => none }
def fnExactSnowOverRow : OpenClaim := { program := "ytnkmcejaemcfeaa", sum := "b1171f5862ae7527c0d13c0410da72a5d6da4f4547098d9b23da85c887a48fd5", func := "loop.example/g01013/laws.FnExactSnowOver", spec := "fnExactSnowOver", unfollowed := true, recurses := true, apart := false }
def FnExactSnowOverSaid : Prop := fnExactSnowOverRow.holds Try.pinned (OpenSpec.ofChange fnExactSnowOverSpec)

/-- ITS FALSE NEIGHBOUR: 'it returns false'. Refute it at one input. -/
def fnExactSnowOverWrong : ChangeSpec := { name := "fnExactSnowOver", fn := fun _ => fun
  | [d1, d2] => { results := [.lit (.bool false)], args := [d1, d2] }
  | _ => none }
def FnExactSnowOverWrongFalsely : Prop := fnExactSnowOverRow.holds Try.pinned (OpenSpec.ofChange fnExactSnowOverWrong)

/- THE SECOND FORM. 'bulk': how many values and letters a reading holds, each counted each time it is reached (what is shared counts as often as it is met; a slice's spare places count too). A statement '..UptoSaid' is the law's where the arguments, and the package variables that the reading takes, are together of bulk at most 1048576: NARROWER than '..Said'. Prove '..Said' where nothing that the law and all that it calls make is longer than what came in: it says more and counts as full. Else prove '..UptoSaid'. A law counts once. -/
mutual
def uptoBulk {H : Type} : DataW H → Nat
  | .lit (.string bytes) => bytes.length + 1
  | .lit _ => 1
  | .nil => 1
  | .ptr d => uptoBulk d + 1
  | .slice elems spare => uptoBulkAll elems + uptoBulkAll spare + 1
  | .agg parts => uptoBulkAll parts + 1
  | .iface _ d => uptoBulk d + 1
  | .map entries => uptoBulkEntries entries + 1
  | .held _ => 1
def uptoBulkAll {H : Type} : List (DataW H) → Nat
  | [] => 0
  | d :: r => uptoBulk d + uptoBulkAll r
def uptoBulkEntries {H : Type} : List (Lit × DataW H) → Nat
  | [] => 0
  | x :: r => uptoBulkEntry x + uptoBulkEntries r
def uptoBulkEntry {H : Type} : Lit × DataW H → Nat
  | (.string bytes, d) => bytes.length + uptoBulk d + 1
  | (_, d) => uptoBulk d + 1
 end
def uptoSmall : (H : Type) → List (DataW H) → Bool := fun _ ds => decide (uptoBulkAll ds ≤ 1048576)
def OpenSpec.upto (s : _root_.Go.ChangeSpec) : _root_.Go.OpenSpec := { _root_.Go.OpenSpec.ofChange s with cond := some uptoSmall }

/-- 'laws.FnExactRootOf', WHERE WHAT IT READS IS OF BULK AT MOST 1048576: true; the input reads as it did. -/
def fnExactRootOfUptoRow : OpenClaim := { program := "ytnkmcejaemcfeaa", sum := "b1171f5862ae7527c0d13c0410da72a5d6da4f4547098d9b23da85c887a48fd5", func := "loop.example/g01013/laws.FnExactRootOf", spec := "fnExactRootOf", unfollowed := true, recurses := true, apart := false, narrowed := true }
def FnExactRootOfUptoSaid : Prop := fnExactRootOfUptoRow.holds Try.pinned (OpenSpec.upto fnExactRootOfSpec)

/-- 'laws.FnExactDivRound', WHERE WHAT IT READS IS OF BULK AT MOST 1048576: true; the input reads as it did. -/
def fnExactDivRoundUptoRow : OpenClaim := { program := "ytnkmcejaemcfeaa", sum := "b1171f5862ae7527c0d13c0410da72a5d6da4f4547098d9b23da85c887a48fd5", func := "loop.example/g01013/laws.FnExactDivRound", spec := "fnExactDivRound", apart := false, narrowed := true }
def FnExactDivRoundUptoSaid : Prop := fnExactDivRoundUptoRow.holds Try.pinned (OpenSpec.upto fnExactDivRoundSpec)

/-- 'laws.FnExactSnowHeight', WHERE WHAT IT READS IS OF BULK AT MOST 1048576: true; the input reads as it did. -/
def fnExactSnowHeightUptoRow : OpenClaim := { program := "ytnkmcejaemcfeaa", sum := "b1171f5862ae7527c0d13c0410da72a5d6da4f4547098d9b23da85c887a48fd5", func := "loop.example/g01013/laws.FnExactSnowHeight", spec := "fnExactSnowHeight", apart := false, narrowed := true }
def FnExactSnowHeightUptoSaid : Prop := fnExactSnowHeightUptoRow.holds Try.pinned (OpenSpec.upto fnExactSnowHeightSpec)

/-- 'laws.FnExactClockText', WHERE WHAT IT READS IS OF BULK AT MOST 1048576: true; the input reads as it did. -/
def fnExactClockTextUptoRow : OpenClaim := { program := "ytnkmcejaemcfeaa", sum := "b1171f5862ae7527c0d13c0410da72a5d6da4f4547098d9b23da85c887a48fd5", func := "loop.example/g01013/laws.FnExactClockText", spec := "fnExactClockText", apart := false, narrowed := true }
def FnExactClockTextUptoSaid : Prop := fnExactClockTextUptoRow.holds Try.pinned (OpenSpec.upto fnExactClockTextSpec)

/-- 'laws.FnExactDayNumber', WHERE WHAT IT READS IS OF BULK AT MOST 1048576: true; the input reads as it did. -/
def fnExactDayNumberUptoRow : OpenClaim := { program := "ytnkmcejaemcfeaa", sum := "b1171f5862ae7527c0d13c0410da72a5d6da4f4547098d9b23da85c887a48fd5", func := "loop.example/g01013/laws.FnExactDayNumber", spec := "fnExactDayNumber", apart := false, narrowed := true }
def FnExactDayNumberUptoSaid : Prop := fnExactDayNumberUptoRow.holds Try.pinned (OpenSpec.upto fnExactDayNumberSpec)

/-- 'laws.FnExactReadClock', WHERE WHAT IT READS IS OF BULK AT MOST 1048576: true; the input reads as it did. -/
def fnExactReadClockUptoRow : OpenClaim := { program := "ytnkmcejaemcfeaa", sum := "b1171f5862ae7527c0d13c0410da72a5d6da4f4547098d9b23da85c887a48fd5", func := "loop.example/g01013/laws.FnExactReadClock", spec := "fnExactReadClock", apart := false, narrowed := true }
def FnExactReadClockUptoSaid : Prop := fnExactReadClockUptoRow.holds Try.pinned (OpenSpec.upto fnExactReadClockSpec)

/-- 'laws.FnExactDateOf', WHERE WHAT IT READS IS OF BULK AT MOST 1048576: true; the input reads as it did. -/
def fnExactDateOfUptoRow : OpenClaim := { program := "ytnkmcejaemcfeaa", sum := "b1171f5862ae7527c0d13c0410da72a5d6da4f4547098d9b23da85c887a48fd5", func := "loop.example/g01013/laws.FnExactDateOf", spec := "fnExactDateOf", apart := false, narrowed := true }
def FnExactDateOfUptoSaid : Prop := fnExactDateOfUptoRow.holds Try.pinned (OpenSpec.upto fnExactDateOfSpec)

/-- 'laws.FnExactShareOf', WHERE WHAT IT READS IS OF BULK AT MOST 1048576: true; the input reads as it did. -/
def fnExactShareOfUptoRow : OpenClaim := { program := "ytnkmcejaemcfeaa", sum := "b1171f5862ae7527c0d13c0410da72a5d6da4f4547098d9b23da85c887a48fd5", func := "loop.example/g01013/laws.FnExactShareOf", spec := "fnExactShareOf", apart := false, narrowed := true }
def FnExactShareOfUptoSaid : Prop := fnExactShareOfUptoRow.holds Try.pinned (OpenSpec.upto fnExactShareOfSpec)

/-- 'laws.FnExactBlend', WHERE WHAT IT READS IS OF BULK AT MOST 1048576: true; the input reads as it did. -/
def fnExactBlendUptoRow : OpenClaim := { program := "ytnkmcejaemcfeaa", sum := "b1171f5862ae7527c0d13c0410da72a5d6da4f4547098d9b23da85c887a48fd5", func := "loop.example/g01013/laws.FnExactBlend", spec := "fnExactBlend", apart := false, narrowed := true }
def FnExactBlendUptoSaid : Prop := fnExactBlendUptoRow.holds Try.pinned (OpenSpec.upto fnExactBlendSpec)

/-- 'laws.FnExactSameField', WHERE WHAT IT READS IS OF BULK AT MOST 1048576: true; the input reads as it did. -/
def fnExactSameFieldUptoRow : OpenClaim := { program := "ytnkmcejaemcfeaa", sum := "b1171f5862ae7527c0d13c0410da72a5d6da4f4547098d9b23da85c887a48fd5", func := "loop.example/g01013/laws.FnExactSameField", spec := "fnExactSameField", apart := false, narrowed := true }
def FnExactSameFieldUptoSaid : Prop := fnExactSameFieldUptoRow.holds Try.pinned (OpenSpec.upto fnExactSameFieldSpec)

/-- 'laws.FnExactValidField', WHERE WHAT IT READS IS OF BULK AT MOST 1048576: true; the input reads as it did. -/
def fnExactValidFieldUptoRow : OpenClaim := { program := "ytnkmcejaemcfeaa", sum := "b1171f5862ae7527c0d13c0410da72a5d6da4f4547098d9b23da85c887a48fd5", func := "loop.example/g01013/laws.FnExactValidField", spec := "fnExactValidField", unfollowed := true, recurses := true, apart := false, narrowed := true }
def FnExactValidFieldUptoSaid : Prop := fnExactValidFieldUptoRow.holds Try.pinned (OpenSpec.upto fnExactValidFieldSpec)

/-- 'laws.FnExactFieldMass', WHERE WHAT IT READS IS OF BULK AT MOST 1048576: true; the input reads as it did. -/
def fnExactFieldMassUptoRow : OpenClaim := { program := "ytnkmcejaemcfeaa", sum := "b1171f5862ae7527c0d13c0410da72a5d6da4f4547098d9b23da85c887a48fd5", func := "loop.example/g01013/laws.FnExactFieldMass", spec := "fnExactFieldMass", unfollowed := true, recurses := true, apart := false, narrowed := true }
def FnExactFieldMassUptoSaid : Prop := fnExactFieldMassUptoRow.holds Try.pinned (OpenSpec.upto fnExactFieldMassSpec)

/-- 'laws.FnExactSnowOver', WHERE WHAT IT READS IS OF BULK AT MOST 1048576: true; the input reads as it did. -/
def fnExactSnowOverUptoRow : OpenClaim := { program := "ytnkmcejaemcfeaa", sum := "b1171f5862ae7527c0d13c0410da72a5d6da4f4547098d9b23da85c887a48fd5", func := "loop.example/g01013/laws.FnExactSnowOver", spec := "fnExactSnowOver", unfollowed := true, recurses := true, apart := false, narrowed := true }
def FnExactSnowOverUptoSaid : Prop := fnExactSnowOverUptoRow.holds Try.pinned (OpenSpec.upto fnExactSnowOverSpec)

end Rows
end Go.Proofs.Ytnkmcejaemcfeaa
