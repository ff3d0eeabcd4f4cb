/-
  No cell of these rows narrows 'for every input' (looked for: loops, veiled, ifaces, maps, wideKeys, modest, calm, conditions, laid).
  DERIVED. THE GIVEN ROWS OF THIS SEAT. 12 by the template 'for every input the law returns true; each argument reads behind the call as it read before'; 0 by the template 'total and deterministic' (their statements: YtclbbobcdegcbaaTotals.lean).
  GIVEN WITH THE SEED: the statements are not yours to turn. If you find one false, say at which input.
  Laid BY PROGRAM, IN A SANDBOX (cutbox-rows.mjs): the forced cells as the released guide's own fill.sh prints them over the translation d1bf01705d975bbd… (all of the seat's roots in one cut). By AI agents, Wed Nov 11 2026. No macro, syntax, notation, axiom, sorry.
-/
import Derived.Test.YtclbbobcdegcbaaChecked
import GoSem.Claim
import GoSem.ClaimJoined
import GoSem.ClaimMapViews
import Derived.JoinedTies
import Derived.KernelRfl
namespace Go.Proofs.Ytclbbobcdegcbaa
/- THE CELL 'sum', in the pinned program and in every row, IS THE sha256 OF THE DUMP (.gsa) THAT YtclbbobcdegcbaaProg.lean LOADS. Nothing in Lean hashes anything: it is a label: what it is worth is what the hold of that sum in a sandbox is worth. -/
noncomputable def Try.pinned : Pinned := { name := "ytclbbobcdegcbaa", sum := "d1bf01705d975bbd0c3d542a9a31bd29d8333764d9646396ad5db58689bd5b1a", checked := Try.checked }
namespace Rows
def none {H : Type} : Left H := { results := [], args := [] }

/-- 'laws.FnExactConstants': WHATEVER THE INPUT: true; the input reads as it did. -/
def fnExactConstantsSpec : ChangeSpec := { name := "fnExactConstants", fn := fun _ => fun
  | [] => { results := [.lit (.bool true)], args := [] }
  | _ => none }
def fnExactConstantsRow : OpenClaim := { program := "ytclbbobcdegcbaa", sum := "d1bf01705d975bbd0c3d542a9a31bd29d8333764d9646396ad5db58689bd5b1a", func := "loop.example/g01013/laws.FnExactConstants", spec := "fnExactConstants", apart := false }
def FnExactConstantsSaid : Prop := fnExactConstantsRow.holds Try.pinned (OpenSpec.ofChange fnExactConstantsSpec)

/-- ITS FALSE NEIGHBOUR: 'it returns false'. Refute it at one input. -/
def fnExactConstantsWrong : ChangeSpec := { name := "fnExactConstants", fn := fun _ => fun
  | [] => { results := [.lit (.bool false)], args := [] }
  | _ => none }
def FnExactConstantsWrongFalsely : Prop := fnExactConstantsRow.holds Try.pinned (OpenSpec.ofChange fnExactConstantsWrong)

/-- 'laws.FnExactFormName': WHATEVER THE INPUT: true; the input reads as it did. -/
def fnExactFormNameSpec : ChangeSpec := { name := "fnExactFormName", fn := fun _ => fun
  | [d] => { results := [.lit (.bool true)], args := [d] }
  | _ => none }
def fnExactFormNameRow : OpenClaim := { program := "ytclbbobcdegcbaa", sum := "d1bf01705d975bbd0c3d542a9a31bd29d8333764d9646396ad5db58689bd5b1a", func := "loop.example/g01013/laws.FnExactFormName", spec := "fnExactFormName", apart := false }
def FnExactFormNameSaid : Prop := fnExactFormNameRow.holds Try.pinned (OpenSpec.ofChange fnExactFormNameSpec)

/-- ITS FALSE NEIGHBOUR: 'it returns false'. Refute it at one input. -/
def fnExactFormNameWrong : ChangeSpec := { name := "fnExactFormName", fn := fun _ => fun
  | [d] => { results := [.lit (.bool false)], args := [d] }
  | _ => none }
def FnExactFormNameWrongFalsely : Prop := fnExactFormNameRow.holds Try.pinned (OpenSpec.ofChange fnExactFormNameWrong)

/-- 'laws.FnExactSnowMass': WHATEVER THE INPUT: true; the input reads as it did. -/
def fnExactSnowMassSpec : ChangeSpec := { name := "fnExactSnowMass", fn := fun _ => fun
  | [d1, d2] => { results := [.lit (.bool true)], args := [d1, d2] }
  | _ => none }
def fnExactSnowMassRow : OpenClaim := { program := "ytclbbobcdegcbaa", sum := "d1bf01705d975bbd0c3d542a9a31bd29d8333764d9646396ad5db58689bd5b1a", func := "loop.example/g01013/laws.FnExactSnowMass", spec := "fnExactSnowMass", apart := false }
def FnExactSnowMassSaid : Prop := fnExactSnowMassRow.holds Try.pinned (OpenSpec.ofChange fnExactSnowMassSpec)

/-- ITS FALSE NEIGHBOUR: 'it returns false'. Refute it at one input. -/
def fnExactSnowMassWrong : ChangeSpec := { name := "fnExactSnowMass", fn := fun _ => fun
  | [d1, d2] => { results := [.lit (.bool false)], args := [d1, d2] }
  | _ => none }
def FnExactSnowMassWrongFalsely : Prop := fnExactSnowMassRow.holds Try.pinned (OpenSpec.ofChange fnExactSnowMassWrong)

/-- 'laws.FnExactCodeName': WHATEVER THE INPUT: true; the input reads as it did. -/
def fnExactCodeNameSpec : ChangeSpec := { name := "fnExactCodeName", fn := fun _ => fun
  | [d] => { results := [.lit (.bool true)], args := [d] }
  | _ => none }
def fnExactCodeNameRow : OpenClaim := { program := "ytclbbobcdegcbaa", sum := "d1bf01705d975bbd0c3d542a9a31bd29d8333764d9646396ad5db58689bd5b1a", func := "loop.example/g01013/laws.FnExactCodeName", spec := "fnExactCodeName", apart := false }
def FnExactCodeNameSaid : Prop := fnExactCodeNameRow.holds Try.pinned (OpenSpec.ofChange fnExactCodeNameSpec)

/-- ITS FALSE NEIGHBOUR: 'it returns false'. Refute it at one input. -/
def fnExactCodeNameWrong : ChangeSpec := { name := "fnExactCodeName", fn := fun _ => fun
  | [d] => { results := [.lit (.bool false)], args := [d] }
  | _ => none }
def FnExactCodeNameWrongFalsely : Prop := fnExactCodeNameRow.holds Try.pinned (OpenSpec.ofChange fnExactCodeNameWrong)

/-- 'laws.FnExactWindName': WHATEVER THE INPUT: true; the input reads as it did. -/
def fnExactWindNameSpec : ChangeSpec := { name := "fnExactWindName", fn := fun _ => fun
  | [d] => { results := [.lit (.bool true)], args := [d] }
  | _ => none }
def fnExactWindNameRow : OpenClaim := { program := "ytclbbobcdegcbaa", sum := "d1bf01705d975bbd0c3d542a9a31bd29d8333764d9646396ad5db58689bd5b1a", func := "loop.example/g01013/laws.FnExactWindName", spec := "fnExactWindName", apart := false }
def FnExactWindNameSaid : Prop := fnExactWindNameRow.holds Try.pinned (OpenSpec.ofChange fnExactWindNameSpec)

/-- ITS FALSE NEIGHBOUR: 'it returns false'. Refute it at one input. -/
def fnExactWindNameWrong : ChangeSpec := { name := "fnExactWindName", fn := fun _ => fun
  | [d] => { results := [.lit (.bool false)], args := [d] }
  | _ => none }
def FnExactWindNameWrongFalsely : Prop := fnExactWindNameRow.holds Try.pinned (OpenSpec.ofChange fnExactWindNameWrong)

/-- 'laws.FnExactHourNumber': WHATEVER THE INPUT: true; the input reads as it did. -/
def fnExactHourNumberSpec : ChangeSpec := { name := "fnExactHourNumber", fn := fun _ => fun
  | [d1, d2] => { results := [.lit (.bool true)], args := [d1, d2] }
  | _ => none }
def fnExactHourNumberRow : OpenClaim := { program := "ytclbbobcdegcbaa", sum := "d1bf01705d975bbd0c3d542a9a31bd29d8333764d9646396ad5db58689bd5b1a", func := "loop.example/g01013/laws.FnExactHourNumber", spec := "fnExactHourNumber", apart := false }
def FnExactHourNumberSaid : Prop := fnExactHourNumberRow.holds Try.pinned (OpenSpec.ofChange fnExactHourNumberSpec)

/-- ITS FALSE NEIGHBOUR: 'it returns false'. Refute it at one input. -/
def fnExactHourNumberWrong : ChangeSpec := { name := "fnExactHourNumber", fn := fun _ => fun
  | [d1, d2] => { results := [.lit (.bool false)], args := [d1, d2] }
  | _ => none }
def FnExactHourNumberWrongFalsely : Prop := fnExactHourNumberRow.holds Try.pinned (OpenSpec.ofChange fnExactHourNumberWrong)

/-- 'laws.FnExactTestName': WHATEVER THE INPUT: true; the input reads as it did. -/
def fnExactTestNameSpec : ChangeSpec := { name := "fnExactTestName", fn := fun _ => fun
  | [d] => { results := [.lit (.bool true)], args := [d] }
  | _ => none }
def fnExactTestNameRow : OpenClaim := { program := "ytclbbobcdegcbaa", sum := "d1bf01705d975bbd0c3d542a9a31bd29d8333764d9646396ad5db58689bd5b1a", func := "loop.example/g01013/laws.FnExactTestName", spec := "fnExactTestName", apart := false }
def FnExactTestNameSaid : Prop := fnExactTestNameRow.holds Try.pinned (OpenSpec.ofChange fnExactTestNameSpec)

/-- ITS FALSE NEIGHBOUR: 'it returns false'. Refute it at one input. -/
def fnExactTestNameWrong : ChangeSpec := { name := "fnExactTestName", fn := fun _ => fun
  | [d] => { results := [.lit (.bool false)], args := [d] }
  | _ => none }
def FnExactTestNameWrongFalsely : Prop := fnExactTestNameRow.holds Try.pinned (OpenSpec.ofChange fnExactTestNameWrong)

/-- 'laws.FnExactWeekdayOf': WHATEVER THE INPUT: true; the input reads as it did. -/
def fnExactWeekdayOfSpec : ChangeSpec := { name := "fnExactWeekdayOf", fn := fun _ => fun
  | [d] => { results := [.lit (.bool true)], args := [d] }
  | _ => none }
def fnExactWeekdayOfRow : OpenClaim := { program := "ytclbbobcdegcbaa", sum := "d1bf01705d975bbd0c3d542a9a31bd29d8333764d9646396ad5db58689bd5b1a", func := "loop.example/g01013/laws.FnExactWeekdayOf", spec := "fnExactWeekdayOf", apart := false }
def FnExactWeekdayOfSaid : Prop := fnExactWeekdayOfRow.holds Try.pinned (OpenSpec.ofChange fnExactWeekdayOfSpec)

/-- ITS FALSE NEIGHBOUR: 'it returns false'. Refute it at one input. -/
def fnExactWeekdayOfWrong : ChangeSpec := { name := "fnExactWeekdayOf", fn := fun _ => fun
  | [d] => { results := [.lit (.bool false)], args := [d] }
  | _ => none }
def FnExactWeekdayOfWrongFalsely : Prop := fnExactWeekdayOfRow.holds Try.pinned (OpenSpec.ofChange fnExactWeekdayOfWrong)

/-- 'laws.FnExactValidLayer': WHATEVER THE INPUT: true; the input reads as it did. -/
def fnExactValidLayerSpec : ChangeSpec := { name := "fnExactValidLayer", fn := fun _ => fun
  | [d] => { results := [.lit (.bool true)], args := [d] }
  | _ => none }
def fnExactValidLayerRow : OpenClaim := { program := "ytclbbobcdegcbaa", sum := "d1bf01705d975bbd0c3d542a9a31bd29d8333764d9646396ad5db58689bd5b1a", func := "loop.example/g01013/laws.FnExactValidLayer", spec := "fnExactValidLayer", apart := false }
def FnExactValidLayerSaid : Prop := fnExactValidLayerRow.holds Try.pinned (OpenSpec.ofChange fnExactValidLayerSpec)

/-- ITS FALSE NEIGHBOUR: 'it returns false'. Refute it at one input. -/
def fnExactValidLayerWrong : ChangeSpec := { name := "fnExactValidLayer", fn := fun _ => fun
  | [d] => { results := [.lit (.bool false)], args := [d] }
  | _ => none }
def FnExactValidLayerWrongFalsely : Prop := fnExactValidLayerRow.holds Try.pinned (OpenSpec.ofChange fnExactValidLayerWrong)

/-- 'laws.FnExactIsName': WHATEVER THE INPUT: true; the input reads as it did. -/
def fnExactIsNameSpec : ChangeSpec := { name := "fnExactIsName", fn := fun _ => fun
  | [d] => { results := [.lit (.bool true)], args := [d] }
  | _ => none }
def fnExactIsNameRow : OpenClaim := { program := "ytclbbobcdegcbaa", sum := "d1bf01705d975bbd0c3d542a9a31bd29d8333764d9646396ad5db58689bd5b1a", func := "loop.example/g01013/laws.FnExactIsName", spec := "fnExactIsName", apart := false }
def FnExactIsNameSaid : Prop := fnExactIsNameRow.holds Try.pinned (OpenSpec.ofChange fnExactIsNameSpec)

/-- ITS FALSE NEIGHBOUR: 'it returns false'. Refute it at one input. -/
def fnExactIsNameWrong : ChangeSpec := { name := "fnExactIsName", fn := fun _ => fun
  | [d] => { results := [.lit (.bool false)], args := [d] }
  | _ => none }
def FnExactIsNameWrongFalsely : Prop := fnExactIsNameRow.holds Try.pinned (OpenSpec.ofChange fnExactIsNameWrong)

/-- 'laws.FnExactBeaufortOf': WHATEVER THE INPUT: true; the input reads as it did. -/
def fnExactBeaufortOfSpec : ChangeSpec := { name := "fnExactBeaufortOf", fn := fun _ => fun
  | [d] => { results := [.lit (.bool true)], args := [d] }
  | _ => none }
def fnExactBeaufortOfRow : OpenClaim := { program := "ytclbbobcdegcbaa", sum := "d1bf01705d975bbd0c3d542a9a31bd29d8333764d9646396ad5db58689bd5b1a", func := "loop.example/g01013/laws.FnExactBeaufortOf", spec := "fnExactBeaufortOf", apart := false }
def FnExactBeaufortOfSaid : Prop := fnExactBeaufortOfRow.holds Try.pinned (OpenSpec.ofChange fnExactBeaufortOfSpec)

/-- ITS FALSE NEIGHBOUR: 'it returns false'. Refute it at one input. -/
def fnExactBeaufortOfWrong : ChangeSpec := { name := "fnExactBeaufortOf", fn := fun _ => fun
  | [d] => { results := [.lit (.bool false)], args := [d] }
  | _ => none }
def FnExactBeaufortOfWrongFalsely : Prop := fnExactBeaufortOfRow.holds Try.pinned (OpenSpec.ofChange fnExactBeaufortOfWrong)

/-- 'laws.FnExactCrc16': WHATEVER THE INPUT: true; the input reads as it did. -/
def fnExactCrc16Spec : ChangeSpec := { name := "fnExactCrc16", fn := fun _ => fun
  | [d1, d2] => { results := [.lit (.bool true)], args := [d1, d2] }
  | _ => none }
def fnExactCrc16Row : OpenClaim := { program := "ytclbbobcdegcbaa", sum := "d1bf01705d975bbd0c3d542a9a31bd29d8333764d9646396ad5db58689bd5b1a", func := "loop.example/g01013/laws.FnExactCrc16", spec := "fnExactCrc16", apart := false }
def FnExactCrc16Said : Prop := fnExactCrc16Row.holds Try.pinned (OpenSpec.ofChange fnExactCrc16Spec)

/-- ITS FALSE NEIGHBOUR: 'it returns false'. Refute it at one input. -/
def fnExactCrc16Wrong : ChangeSpec := { name := "fnExactCrc16", fn := fun _ => fun
  | [d1, d2] => { results := [.lit (.bool false)], args := [d1, d2] }
  | _ => none }
def FnExactCrc16WrongFalsely : Prop := fnExactCrc16Row.holds Try.pinned (OpenSpec.ofChange fnExactCrc16Wrong)

/- THE SECOND FORM. 'bulk': how many values and letters a reading holds, each counted each time it is reached (what is shared counts as often as it is met; a slice's spare places count too). A statement '..UptoSaid' is the law's where the arguments, and the package variables that the reading takes, are together of bulk at most 1048576: NARROWER than '..Said'. Prove '..Said' where nothing that the law and all that it calls make is longer than what came in: it says more and counts as full. Else prove '..UptoSaid'. A law counts once. -/
mutual
def uptoBulk {H : Type} : DataW H → Nat
  | .lit (.string bytes) => bytes.length + 1
  | .lit _ => 1
  | .nil => 1
  | .ptr d => uptoBulk d + 1
  | .slice elems spare => uptoBulkAll elems + uptoBulkAll spare + 1
  | .agg parts => uptoBulkAll parts + 1
  | .iface _ d => uptoBulk d + 1
  | .map entries => uptoBulkEntries entries + 1
  | .held _ => 1
def uptoBulkAll {H : Type} : List (DataW H) → Nat
  | [] => 0
  | d :: r => uptoBulk d + uptoBulkAll r
def uptoBulkEntries {H : Type} : List (Lit × DataW H) → Nat
  | [] => 0
  | x :: r => uptoBulkEntry x + uptoBulkEntries r
def uptoBulkEntry {H : Type} : Lit × DataW H → Nat
  | (.string bytes, d) => bytes.length + uptoBulk d + 1
  | (_, d) => uptoBulk d + 1
 end
def uptoSmall : (H : Type) → List (DataW H) → Bool := fun _ ds => decide (uptoBulkAll ds ≤ 1048576)
def OpenSpec.upto (s : _root_.Go.ChangeSpec) : _root_.Go.OpenSpec := { _root_.Go.OpenSpec.ofChange s with cond := some uptoSmall }

/-- 'laws.FnExactConstants', WHERE WHAT IT READS IS OF BULK AT MOST 1048576: true; the input reads as it did. -/
def fnExactConstantsUptoRow : OpenClaim := { program := "ytclbbobcdegcbaa", sum := "d1bf01705d975bbd0c3d542a9a31bd29d8333764d9646396ad5db58689bd5b1a", func := "loop.example/g01013/laws.FnExactConstants", spec := "fnExactConstants", apart := false, narrowed := true }
def FnExactConstantsUptoSaid : Prop := fnExactConstantsUptoRow.holds Try.pinned (OpenSpec.upto fnExactConstantsSpec)

/-- 'laws.FnExactFormName', WHERE WHAT IT READS IS OF BULK AT MOST 1048576: true; the input reads as it did. -/
def fnExactFormNameUptoRow : OpenClaim := { program := "ytclbbobcdegcbaa", sum := "d1bf01705d975bbd0c3d542a9a31bd29d8333764d9646396ad5db58689bd5b1a", func := "loop.example/g01013/laws.FnExactFormName", spec := "fnExactFormName", apart := false, narrowed := true }
def FnExactFormNameUptoSaid : Prop := fnExactFormNameUptoRow.holds Try.pinned (OpenSpec.upto fnExactFormNameSpec)

/-- 'laws.FnExactSnowMass', WHERE WHAT IT READS IS OF BULK AT MOST 1048576: true; the input reads as it did. -/
def fnExactSnowMassUptoRow : OpenClaim := { program := "ytclbbobcdegcbaa", sum := "d1bf01705d975bbd0c3d542a9a31bd29d8333764d9646396ad5db58689bd5b1a", func := "loop.example/g01013/laws.FnExactSnowMass", spec := "fnExactSnowMass", apart := false, narrowed := true }
def FnExactSnowMassUptoSaid : Prop := fnExactSnowMassUptoRow.holds Try.pinned (OpenSpec.upto fnExactSnowMassSpec)

/-- 'laws.FnExactCodeName', WHERE WHAT IT READS IS OF BULK AT MOST 1048576: true; the input reads as it did. -/
def fnExactCodeNameUptoRow : OpenClaim := { program := "ytclbbobcdegcbaa", sum := "d1bf01705d975bbd0c3d542a9a31bd29d8333764d9646396ad5db58689bd5b1a", func := "loop.example/g01013/laws.FnExactCodeName", spec := "fnExactCodeName", apart := false, narrowed := true }
def FnExactCodeNameUptoSaid : Prop := fnExactCodeNameUptoRow.holds Try.pinned (OpenSpec.upto fnExactCodeNameSpec)

/-- 'laws.FnExactWindName', WHERE WHAT IT READS IS OF BULK AT MOST 1048576: true; the input reads as it did. -/
def fnExactWindNameUptoRow : OpenClaim := { program := "ytclbbobcdegcbaa", sum := "d1bf01705d975bbd0c3d542a9a31bd29d8333764d9646396ad5db58689bd5b1a", func := "loop.example/g01013/laws.FnExactWindName", spec := "fnExactWindName", apart := false, narrowed := true }
def FnExactWindNameUptoSaid : Prop := fnExactWindNameUptoRow.holds Try.pinned (OpenSpec.upto fnExactWindNameSpec)

/-- 'laws.FnExactHourNumber', WHERE WHAT IT READS IS OF BULK AT MOST 1048576: true; the input reads as it did. -/
def fnExactHourNumberUptoRow : OpenClaim := { program := "ytclbbobcdegcbaa", sum := "d1bf01705d975bbd0c3d542a9a31bd29d8333764d9646396ad5db58689bd5b1a", func := "loop.example/g01013/laws.FnExactHourNumber", spec := "fnExactHourNumber", apart := false, narrowed := true }
def FnExactHourNumberUptoSaid : Prop := fnExactHourNumberUptoRow.holds Try.pinned (OpenSpec.upto fnExactHourNumberSpec)

/-- 'laws.FnExactTestName', WHERE WHAT IT READS IS OF BULK AT MOST 1048576: true; the input reads as it did. -/
def fnExactTestNameUptoRow : OpenClaim := { program := "ytclbbobcdegcbaa", sum := "d1bf01705d975bbd0c3d542a9a31bd29d8333764d9646396ad5db58689bd5b1a", func := "loop.example/g01013/laws.FnExactTestName", spec := "fnExactTestName", apart := false, narrowed := true }
def FnExactTestNameUptoSaid : Prop := fnExactTestNameUptoRow.holds Try.pinned (OpenSpec.upto fnExactTestNameSpec)

/-- 'laws.FnExactWeekdayOf', WHERE WHAT IT READS IS OF BULK AT MOST 1048576: true; the input reads as it did. -/
def fnExactWeekdayOfUptoRow : OpenClaim := { program := "ytclbbobcdegcbaa", sum := "d1bf01705d975bbd0c3d542a9a31bd29d8333764d9646396ad5db58689bd5b1a", func := "loop.example/g01013/laws.FnExactWeekdayOf", spec := "fnExactWeekdayOf", apart := false, narrowed := true }
def FnExactWeekdayOfUptoSaid : Prop := fnExactWeekdayOfUptoRow.holds Try.pinned (OpenSpec.upto fnExactWeekdayOfSpec)

/-- 'laws.FnExactValidLayer', WHERE WHAT IT READS IS OF BULK AT MOST 1048576: true; the input reads as it did. -/
def fnExactValidLayerUptoRow : OpenClaim := { program := "ytclbbobcdegcbaa", sum := "d1bf01705d975bbd0c3d542a9a31bd29d8333764d9646396ad5db58689bd5b1a", func := "loop.example/g01013/laws.FnExactValidLayer", spec := "fnExactValidLayer", apart := false, narrowed := true }
def FnExactValidLayerUptoSaid : Prop := fnExactValidLayerUptoRow.holds Try.pinned (OpenSpec.upto fnExactValidLayerSpec)

/-- 'laws.FnExactIsName', WHERE WHAT IT READS IS OF BULK AT MOST 1048576: true; the input reads as it did. -/
def fnExactIsNameUptoRow : OpenClaim := { program := "ytclbbobcdegcbaa", sum := "d1bf01705d975bbd0c3d542a9a31bd29d8333764d9646396ad5db58689bd5b1a", func := "loop.example/g01013/laws.FnExactIsName", spec := "fnExactIsName", apart := false, narrowed := true }
def FnExactIsNameUptoSaid : Prop := fnExactIsNameUptoRow.holds Try.pinned (OpenSpec.upto fnExactIsNameSpec)

/-- 'laws.FnExactBeaufortOf', WHERE WHAT IT READS IS OF BULK AT MOST 1048576: true; the input reads as it did. -/
def fnExactBeaufortOfUptoRow : OpenClaim := { program := "ytclbbobcdegcbaa", sum := "d1bf01705d975bbd0c3d542a9a31bd29d8333764d9646396ad5db58689bd5b1a", func := "loop.example/g01013/laws.FnExactBeaufortOf", spec := "fnExactBeaufortOf", apart := false, narrowed := true }
def FnExactBeaufortOfUptoSaid : Prop := fnExactBeaufortOfUptoRow.holds Try.pinned (OpenSpec.upto fnExactBeaufortOfSpec)

/-- 'laws.FnExactCrc16', WHERE WHAT IT READS IS OF BULK AT MOST 1048576: true; the input reads as it did. -/
def fnExactCrc16UptoRow : OpenClaim := { program := "ytclbbobcdegcbaa", sum := "d1bf01705d975bbd0c3d542a9a31bd29d8333764d9646396ad5db58689bd5b1a", func := "loop.example/g01013/laws.FnExactCrc16", spec := "fnExactCrc16", apart := false, narrowed := true }
def FnExactCrc16UptoSaid : Prop := fnExactCrc16UptoRow.holds Try.pinned (OpenSpec.upto fnExactCrc16Spec)

end Rows
end Go.Proofs.Ytclbbobcdegcbaa
