/-
  No cell of these rows narrows 'for every input' (looked for: loops, veiled, ifaces, maps, wideKeys, modest, calm, conditions, laid).
  DERIVED. THE GIVEN ROWS OF THIS SEAT. 8 by the template 'for every input the law returns true; each argument reads behind the call as it read before'; 0 by the template 'total and deterministic' (their statements: YtnlikinckmoomaaTotals.lean).
  GIVEN WITH THE SEED: the statements are not yours to turn. If you find one false, say at which input.
  Laid BY PROGRAM, IN A SANDBOX (cutbox-rows.mjs): the forced cells as the released guide's own fill.sh prints them over the translation f9c7cd4ba7e2b99b… (all of the seat's roots in one cut). By AI agents, Wed Nov 11 2026. No macro, syntax, notation, axiom, sorry.
-/
import Derived.Test.YtnlikinckmoomaaChecked
import GoSem.Claim
import GoSem.ClaimJoined
import GoSem.ClaimMapViews
import Derived.JoinedTies
import Derived.KernelRfl
namespace Go.Proofs.Ytnlikinckmoomaa
/- THE CELL 'sum', in the pinned program and in every row, IS THE sha256 OF THE DUMP (.gsa) THAT YtnlikinckmoomaaProg.lean LOADS. Nothing in Lean hashes anything: it is a label: what it is worth is what the hold of that sum in a sandbox is worth. -/
noncomputable def Try.pinned : Pinned := { name := "ytnlikinckmoomaa", sum := "f9c7cd4ba7e2b99ba5bb1cd3e7097295e864dacf2252cac811df1464fa4bcb51", checked := Try.checked }
namespace Rows
def none {H : Type} : Left H := { results := [], args := [] }

/-- 'laws.FnExactJoinLayers': WHATEVER THE INPUT: true; the input reads as it did. -/
def fnExactJoinLayersSpec : ChangeSpec := { name := "fnExactJoinLayers", fn := fun _ => fun
  | [d1, d2] => { results := [.lit (.bool true)], args := [d1, d2] }
  | _ => none }
def fnExactJoinLayersRow : OpenClaim := { program := "ytnlikinckmoomaa", sum := "f9c7cd4ba7e2b99ba5bb1cd3e7097295e864dacf2252cac811df1464fa4bcb51", func := "loop.example/g01013/laws.FnExactJoinLayers", spec := "fnExactJoinLayers", unfollowed := true, recurses := true, apart := false }
def FnExactJoinLayersSaid : Prop := fnExactJoinLayersRow.holds Try.pinned (OpenSpec.ofChange fnExactJoinLayersSpec)

/-- ITS FALSE NEIGHBOUR: 'it returns false'. Refute it at one input. -/
def fnExactJoinLayersWrong : ChangeSpec := { name := "fnExactJoinLayers", fn := fun _ => fun
  | [d1, d2] => { results := [.lit (.bool false)], args := [d1, d2] }
  | _ => none }
def FnExactJoinLayersWrongFalsely : Prop := fnExactJoinLayersRow.holds Try.pinned (OpenSpec.ofChange fnExactJoinLayersWrong)

/-- 'laws.FnExactDrainProfile': WHATEVER THE INPUT: true; the input reads as it did. -/
def fnExactDrainProfileSpec : ChangeSpec := { name := "fnExactDrainProfile", fn := fun _ => fun
  | [d] => { results := [.lit (.bool true)], args := [d] }
  | _ => none }
def fnExactDrainProfileRow : OpenClaim := { program := "ytnlikinckmoomaa", sum := "f9c7cd4ba7e2b99ba5bb1cd3e7097295e864dacf2252cac811df1464fa4bcb51", func := "loop.example/g01013/laws.FnExactDrainProfile", spec := "fnExactDrainProfile", unfollowed := true, recurses := true, apart := false }
def FnExactDrainProfileSaid : Prop := fnExactDrainProfileRow.holds Try.pinned (OpenSpec.ofChange fnExactDrainProfileSpec)

/-- ITS FALSE NEIGHBOUR: 'it returns false'. Refute it at one input. -/
def fnExactDrainProfileWrong : ChangeSpec := { name := "fnExactDrainProfile", fn := fun _ => fun
  | [d] => { results := [.lit (.bool false)], args := [d] }
  | _ => none }
def FnExactDrainProfileWrongFalsely : Prop := fnExactDrainProfileRow.holds Try.pinned (OpenSpec.ofChange fnExactDrainProfileWrong)

/-- 'laws.FnExactSettleProfile': WHATEVER THE INPUT: true; the input reads as it did. -/
def fnExactSettleProfileSpec : ChangeSpec := { name := "fnExactSettleProfile", fn := fun _ => fun
  | [d] => { results := [.lit (.bool true)], args := [d] }
  | _ => none }
def fnExactSettleProfileRow : OpenClaim := { program := "ytnlikinckmoomaa", sum := "f9c7cd4ba7e2b99ba5bb1cd3e7097295e864dacf2252cac811df1464fa4bcb51", func := "loop.example/g01013/laws.FnExactSettleProfile", spec := "fnExactSettleProfile", unfollowed := true, recurses := true, apart := false }
def FnExactSettleProfileSaid : Prop := fnExactSettleProfileRow.holds Try.pinned (OpenSpec.ofChange fnExactSettleProfileSpec)

/-- ITS FALSE NEIGHBOUR: 'it returns false'. Refute it at one input. -/
def fnExactSettleProfileWrong : ChangeSpec := { name := "fnExactSettleProfile", fn := fun _ => fun
  | [d] => { results := [.lit (.bool false)], args := [d] }
  | _ => none }
def FnExactSettleProfileWrongFalsely : Prop := fnExactSettleProfileRow.holds Try.pinned (OpenSpec.ofChange fnExactSettleProfileWrong)

/-- 'laws.FnExactCoolTop': WHATEVER THE INPUT: true; the input reads as it did. -/
def fnExactCoolTopSpec : ChangeSpec := { name := "fnExactCoolTop", fn := fun _ => fun
  | [d1, d2] => { results := [.lit (.bool true)], args := [d1, d2] }
  | _ => none }
def fnExactCoolTopRow : OpenClaim := { program := "ytnlikinckmoomaa", sum := "f9c7cd4ba7e2b99ba5bb1cd3e7097295e864dacf2252cac811df1464fa4bcb51", func := "loop.example/g01013/laws.FnExactCoolTop", spec := "fnExactCoolTop", unfollowed := true, recurses := true, apart := false }
def FnExactCoolTopSaid : Prop := fnExactCoolTopRow.holds Try.pinned (OpenSpec.ofChange fnExactCoolTopSpec)

/-- ITS FALSE NEIGHBOUR: 'it returns false'. Refute it at one input. -/
def fnExactCoolTopWrong : ChangeSpec := { name := "fnExactCoolTop", fn := fun _ => fun
  | [d1, d2] => { results := [.lit (.bool false)], args := [d1, d2] }
  | _ => none }
def FnExactCoolTopWrongFalsely : Prop := fnExactCoolTopRow.holds Try.pinned (OpenSpec.ofChange fnExactCoolTopWrong)

/-- 'laws.FnExactWarmTop': WHATEVER THE INPUT: true; the input reads as it did. -/
def fnExactWarmTopSpec : ChangeSpec := { name := "fnExactWarmTop", fn := fun _ => fun
  | [d1, d2] => { results := [.lit (.bool true)], args := [d1, d2] }
  | _ => none }
def fnExactWarmTopRow : OpenClaim := { program := "ytnlikinckmoomaa", sum := "f9c7cd4ba7e2b99ba5bb1cd3e7097295e864dacf2252cac811df1464fa4bcb51", func := "loop.example/g01013/laws.FnExactWarmTop", spec := "fnExactWarmTop", unfollowed := true, recurses := true, apart := false }
def FnExactWarmTopSaid : Prop := fnExactWarmTopRow.holds Try.pinned (OpenSpec.ofChange fnExactWarmTopSpec)

/-- ITS FALSE NEIGHBOUR: 'it returns false'. Refute it at one input. -/
def fnExactWarmTopWrong : ChangeSpec := { name := "fnExactWarmTop", fn := fun _ => fun
  | [d1, d2] => { results := [.lit (.bool false)], args := [d1, d2] }
  | _ => none }
def FnExactWarmTopWrongFalsely : Prop := fnExactWarmTopRow.holds Try.pinned (OpenSpec.ofChange fnExactWarmTopWrong)

/-- 'laws.FnExactChangeForms': WHATEVER THE INPUT: true; the input reads as it did. -/
def fnExactChangeFormsSpec : ChangeSpec := { name := "fnExactChangeForms", fn := fun _ => fun
  | [d] => { results := [.lit (.bool true)], args := [d] }
  | _ => none }
def fnExactChangeFormsRow : OpenClaim := { program := "ytnlikinckmoomaa", sum := "f9c7cd4ba7e2b99ba5bb1cd3e7097295e864dacf2252cac811df1464fa4bcb51", func := "loop.example/g01013/laws.FnExactChangeForms", spec := "fnExactChangeForms", unfollowed := true, recurses := true, apart := false }
def FnExactChangeFormsSaid : Prop := fnExactChangeFormsRow.holds Try.pinned (OpenSpec.ofChange fnExactChangeFormsSpec)

/-- ITS FALSE NEIGHBOUR: 'it returns false'. Refute it at one input. -/
def fnExactChangeFormsWrong : ChangeSpec := { name := "fnExactChangeForms", fn := fun _ => fun
  | [d] => { results := [.lit (.bool false)], args := [d] }
  | _ => none }
def FnExactChangeFormsWrongFalsely : Prop := fnExactChangeFormsRow.holds Try.pinned (OpenSpec.ofChange fnExactChangeFormsWrong)

/-- 'laws.FnExactStepHour': WHATEVER THE INPUT: true; the input reads as it did. -/
def fnExactStepHourSpec : ChangeSpec := { name := "fnExactStepHour", fn := fun _ => fun
  | [d1, d2] => { results := [.lit (.bool true)], args := [d1, d2] }
  | _ => none }
def fnExactStepHourRow : OpenClaim := { program := "ytnlikinckmoomaa", sum := "f9c7cd4ba7e2b99ba5bb1cd3e7097295e864dacf2252cac811df1464fa4bcb51", func := "loop.example/g01013/laws.FnExactStepHour", spec := "fnExactStepHour", unfollowed := true, recurses := true, apart := false }
def FnExactStepHourSaid : Prop := fnExactStepHourRow.holds Try.pinned (OpenSpec.ofChange fnExactStepHourSpec)

/-- ITS FALSE NEIGHBOUR: 'it returns false'. Refute it at one input. -/
def fnExactStepHourWrong : ChangeSpec := { name := "fnExactStepHour", fn := fun _ => fun
  | [d1, d2] => { results := [.lit (.bool false)], args := [d1, d2] }
  | _ => none }
def FnExactStepHourWrongFalsely : Prop := fnExactStepHourRow.holds Try.pinned (OpenSpec.ofChange fnExactStepHourWrong)

/-- 'laws.FnExactRunHours': WHATEVER THE INPUT: true; the input reads as it did. -/
def fnExactRunHoursSpec : ChangeSpec := { name := "fnExactRunHours", fn := fun _ => fun
  | [d1, d2] => { results := [.lit (.bool true)], args := [d1, d2] }
  | _ => none }
def fnExactRunHoursRow : OpenClaim := { program := "ytnlikinckmoomaa", sum := "f9c7cd4ba7e2b99ba5bb1cd3e7097295e864dacf2252cac811df1464fa4bcb51", func := "loop.example/g01013/laws.FnExactRunHours", spec := "fnExactRunHours", unfollowed := true, recurses := true, apart := false }
def FnExactRunHoursSaid : Prop := fnExactRunHoursRow.holds Try.pinned (OpenSpec.ofChange fnExactRunHoursSpec)

/-- ITS FALSE NEIGHBOUR: 'it returns false'. Refute it at one input. -/
def fnExactRunHoursWrong : ChangeSpec := { name := "fnExactRunHours", fn := fun _ => fun
  | [d1, d2] => { results := [.lit (.bool false)], args := [d1, d2] }
  | _ => none }
def FnExactRunHoursWrongFalsely : Prop := fnExactRunHoursRow.holds Try.pinned (OpenSpec.ofChange fnExactRunHoursWrong)

/- THE SECOND FORM. 'bulk': how many values and letters a reading holds, each counted each time it is reached (what is shared counts as often as it is met; a slice's spare places count too). A statement '..UptoSaid' is the law's where the arguments, and the package variables that the reading takes, are together of bulk at most 1048576: NARROWER than '..Said'. Prove '..Said' where nothing that the law and all that it calls make is longer than what came in: it says more and counts as full. Else prove '..UptoSaid'. A law counts once. -/
mutual
def uptoBulk {H : Type} : DataW H → Nat
  | .lit (.string bytes) => bytes.length + 1
  | .lit _ => 1
  | .nil => 1
  | .ptr d => uptoBulk d + 1
  | .slice elems spare => uptoBulkAll elems + uptoBulkAll spare + 1
  | .agg parts => uptoBulkAll parts + 1
  | .iface _ d => uptoBulk d + 1
  | .map entries => uptoBulkEntries entries + 1
  | .held _ => 1
def uptoBulkAll {H : Type} : List (DataW H) → Nat
  | [] => 0
  | d :: r => uptoBulk d + uptoBulkAll r
def uptoBulkEntries {H : Type} : List (Lit × DataW H) → Nat
  | [] => 0
  | x :: r => uptoBulkEntry x + uptoBulkEntries r
def uptoBulkEntry {H : Type} : Lit × DataW H → Nat
  | (.string bytes, d) => bytes.length + uptoBulk d + 1
  | (_, d) => uptoBulk d + 1
 end
def uptoSmall : (H : Type) → List (DataW H) → Bool := fun _ ds => decide (uptoBulkAll ds ≤ 1048576)
def OpenSpec.upto (s : _root_.Go.ChangeSpec) : _root_.Go.OpenSpec := { _root_.Go.OpenSpec.ofChange s with cond := some uptoSmall }

/-- 'laws.FnExactJoinLayers', WHERE WHAT IT READS IS OF BULK AT MOST 1048576: true; the input reads as it did. -/
def fnExactJoinLayersUptoRow : OpenClaim := { program := "ytnlikinckmoomaa", sum := "f9c7cd4ba7e2b99ba5bb1cd3e7097295e864dacf2252cac811df1464fa4bcb51", func := "loop.example/g01013/laws.FnExactJoinLayers", spec := "fnExactJoinLayers", unfollowed := true, recurses := true, apart := false, narrowed := true }
def FnExactJoinLayersUptoSaid : Prop := fnExactJoinLayersUptoRow.holds Try.pinned (OpenSpec.upto fnExactJoinLayersSpec)

/-- 'laws.FnExactDrainProfile', WHERE WHAT IT READS IS OF BULK AT MOST 1048576: true; the input reads as it did. -/
def fnExactDrainProfileUptoRow : OpenClaim := { program := "ytnlikinckmoomaa", sum := "f9c7cd4ba7e2b99ba5bb1cd3e7097295e864dacf2252cac811df1464fa4bcb51", func := "loop.example/g01013/laws.FnExactDrainProfile", spec := "fnExactDrainProfile", unfollowed := true, recurses := true, apart := false, narrowed := true }
def FnExactDrainProfileUptoSaid : Prop := fnExactDrainProfileUptoRow.holds Try.pinned (OpenSpec.upto fnExactDrainProfileSpec)

/-- 'laws.FnExactSettleProfile', WHERE WHAT IT READS IS OF BULK AT MOST 1048576: true; the input reads as it did. -/
def fnExactSettleProfileUptoRow : OpenClaim := { program := "ytnlikinckmoomaa", sum := "f9c7cd4ba7e2b99ba5bb1cd3e7097295e864dacf2252cac811df1464fa4bcb51", func := "loop.example/g01013/laws.FnExactSettleProfile", spec := "fnExactSettleProfile", unfollowed := true, recurses := true, apart := false, narrowed := true }
def FnExactSettleProfileUptoSaid : Prop := fnExactSettleProfileUptoRow.holds Try.pinned (OpenSpec.upto fnExactSettleProfileSpec)

/-- 'laws.FnExactCoolTop', WHERE WHAT IT READS IS OF BULK AT MOST 1048576: true; the input reads as it did. -/
def fnExactCoolTopUptoRow : OpenClaim := { program := "ytnlikinckmoomaa", sum := "f9c7cd4ba7e2b99ba5bb1cd3e7097295e864dacf2252cac811df1464fa4bcb51", func := "loop.example/g01013/laws.FnExactCoolTop", spec := "fnExactCoolTop", unfollowed := true, recurses := true, apart := false, narrowed := true }
def FnExactCoolTopUptoSaid : Prop := fnExactCoolTopUptoRow.holds Try.pinned (OpenSpec.upto fnExactCoolTopSpec)

/-- 'laws.FnExactWarmTop', WHERE WHAT IT READS IS OF BULK AT MOST 1048576: true; the input reads as it did. -/
def fnExactWarmTopUptoRow : OpenClaim := { program := "ytnlikinckmoomaa", sum := "f9c7cd4ba7e2b99ba5bb1cd3e7097295e864dacf2252cac811df1464fa4bcb51", func := "loop.example/g01013/laws.FnExactWarmTop", spec := "fnExactWarmTop", unfollowed := true, recurses := true, apart := false, narrowed := true }
def FnExactWarmTopUptoSaid : Prop := fnExactWarmTopUptoRow.holds Try.pinned (OpenSpec.upto fnExactWarmTopSpec)

/-- 'laws.FnExactChangeForms', WHERE WHAT IT READS IS OF BULK AT MOST 1048576: true; the input reads as it did. -/
def fnExactChangeFormsUptoRow : OpenClaim := { program := "ytnlikinckmoomaa", sum := "f9c7cd4ba7e2b99ba5bb1cd3e7097295e864dacf2252cac811df1464fa4bcb51", func := "loop.example/g01013/laws.FnExactChangeForms", spec := "fnExactChangeForms", unfollowed := true, recurses := true, apart := false, narrowed := true }
def FnExactChangeFormsUptoSaid : Prop := fnExactChangeFormsUptoRow.holds Try.pinned (OpenSpec.upto fnExactChangeFormsSpec)

/-- 'laws.FnExactStepHour', WHERE WHAT IT READS IS OF BULK AT MOST 1048576: true; the input reads as it did. -/
def fnExactStepHourUptoRow : OpenClaim := { program := "ytnlikinckmoomaa", sum := "f9c7cd4ba7e2b99ba5bb1cd3e7097295e864dacf2252cac811df1464fa4bcb51", func := "loop.example/g01013/laws.FnExactStepHour", spec := "fnExactStepHour", unfollowed := true, recurses := true, apart := false, narrowed := true }
def FnExactStepHourUptoSaid : Prop := fnExactStepHourUptoRow.holds Try.pinned (OpenSpec.upto fnExactStepHourSpec)

/-- 'laws.FnExactRunHours', WHERE WHAT IT READS IS OF BULK AT MOST 1048576: true; the input reads as it did. -/
def fnExactRunHoursUptoRow : OpenClaim := { program := "ytnlikinckmoomaa", sum := "f9c7cd4ba7e2b99ba5bb1cd3e7097295e864dacf2252cac811df1464fa4bcb51", func := "loop.example/g01013/laws.FnExactRunHours", spec := "fnExactRunHours", unfollowed := true, recurses := true, apart := false, narrowed := true }
def FnExactRunHoursUptoSaid : Prop := fnExactRunHoursUptoRow.holds Try.pinned (OpenSpec.upto fnExactRunHoursSpec)

end Rows
end Go.Proofs.Ytnlikinckmoomaa
