/- The program's Decimal: the decimal numeral of every int64, in a world in which the library's table of powers of ten reads as its initialiser lays it. -/
import Derived.Test.YtcpdipopajhajaaDoorLaid
import Derived.Test.YtcpdipopajhajaaDoorShelf
import Derived.Test.YtcpdipopajhajaaDoorTwo
namespace Go.Proofs.YtcpdipopajhajaaDoor
open Go.ChangeShapes Go.WideShapes Go.ChangeAt Go.RowKit
set_option linter.unusedVariables false
/-- The library's table of powers of ten. -/
def TabOk (w : World) : Prop := Lib.TabIs Tryd.prog w "internal/strconv.uint64pow10" .u64 Lib.pow10Tab
theorem TabOk.on {w w' : World} (h : TabOk w) (hb : Below w.heap.size w w') : TabOk w' := (Lib.tabBelow_of_tabIs h) w' hb
theorem TabOk.drewN {w : World} (h : TabOk w) (n : Nat) : TabOk (w.drewN n) := h.on (bl_drewN (Below.refl _ _) n)
theorem implDec_any (n : Int) (w : World) (h0 : -9223372036854775808 ≤ n) (h1 : n ≤ 9223372036854775807) (ht : TabOk w) :
    Calls Tryd.prog 42 #[.int .i64 n] w fun e w' => e = .returned (.string (decS n)) ∧ Below w.heap.size w w' := by
  go_enter Tryd.func42, Tryd.ntmps42
  go_wp2_with (go_at_call 62; refine (Tryd.strconv_FormatInt_10 n h0 h1 _ ht).mono ?_; rintro e w1 ⟨rfl, k, os, rfl⟩)
  go_ret
  exact ⟨rfl, Lib.below_grow _ _ (Nat.le_refl _) k os⟩
end Go.Proofs.YtcpdipopajhajaaDoor
