/- A day as text: the contracts of the program's and of the reference's DateText (the program's in a world with the library's table). -/
import Derived.Test.YtfpiaajnphidiaaDoorDateP
import Derived.Test.YtfpiaajnphidiaaDoorDate2
import Derived.Test.YtfpiaajnphidiaaDoorDecT
namespace Go.Proofs.YtfpiaajnphidiaaDoor
open Go.ChangeShapes Go.WideShapes Go.ChangeAt Go.RowKit
set_option linter.unusedVariables false
set_option maxHeartbeats 1000000 in
theorem implDateT_any (day : Int) (w : World) (ht : TabOk w) : Calls Tryd.prog 13 #[.int .i64 day] w fun e w' => e = .returned (.string (dateT day)) ∧ Below w.heap.size w w' := by
  rcases h : inB day 0 36524 with _ | _
  · have F := Lib.hid (dateT_f h)
    go_enter Tryd.func13, Tryd.ntmps13
    go_wp2_with (go_at_call 29; refine (implDate_no _ _ h).mono ?_; rintro e w' ⟨rfl, rfl⟩)
    go_ret
    exact ⟨(ret_str F.out).symm, Below.refl _ _⟩
  · have F := Lib.hid (dateT_t h)
    obtain ⟨g0, g1⟩ := inB_yes h
    obtain ⟨y0, y1, m0, m1, d0, d1⟩ := dY_bd g0 g1
    have z1 := decS_size (dY day) (by omega) (by omega)
    have z2 := twoS_size (dM day)
    have z3 := twoS_size (dD day)
    have z4 := sz45
    have HT := Lib.hid ht
    clear ht
    go_enter Tryd.func13, Tryd.ntmps13
    go_wp2_with (go_at_call 29; refine (implDate_yes _ _ h).mono ?_; rintro e w' ⟨rfl, rfl⟩)
    refine (implDec_any _ _ (by omega) (by omega) HT.out).mono ?_
    rintro e w1 ⟨rfl, hb1⟩
    go_wp2_with fail
    refine (twoDigits_any _ _ (by omega) (by omega)).mono ?_
    rintro e w2 ⟨rfl, hb2⟩
    go_wp2_with fail
    refine (twoDigits_any _ _ (by omega) (by omega)).mono ?_
    rintro e w3 ⟨rfl, hb3⟩
    go_wp2_with fail
    go_ret
    exact ⟨(ret_str F.out).symm, bl_trans hb1 (bl_trans hb2 hb3)⟩
set_option maxHeartbeats 1000000 in
theorem specDateT_any (day : Int) (w : World) : Calls Tryd.prog 12 #[.int .i64 day] w fun e w' => e = .returned (.string (dateT day)) ∧ Below w.heap.size w w' := by
  rcases h : inB day 0 36524 with _ | _
  · have F := Lib.hid (dateT_f h)
    go_enter Tryd.func12, Tryd.ntmps12
    go_wp2_with (go_at_call 27; refine (l02Day_any _ _).mono ?_; rintro e w' ⟨rfl, rfl⟩)
    go_ret
    exact ⟨(ret_str F.out).symm, Below.refl _ _⟩
  · have F := Lib.hid (dateT_t h)
    obtain ⟨g0, g1⟩ := inB_yes h
    obtain ⟨y0, y1, m0, m1, d0, d1⟩ := dY_bd g0 g1
    have z1 := decS_size (dY day) (by omega) (by omega)
    have z2 := twoS_size (dM day)
    have z3 := twoS_size (dD day)
    have z4 := sz45
    go_enter Tryd.func12, Tryd.ntmps12
    go_wp2_with (first | (go_at_call 27; refine (l02Day_any _ _).mono ?_; rintro e w' ⟨rfl, rfl⟩) | (go_at_call 28; go_in))
    refine (l02Date_any _ _ g0 g1).mono ?_
    rintro e w0 ⟨rfl, hb0⟩
    go_wp2_with fail
    refine (l01DecS_any _ _ (by omega) (by omega)).mono ?_
    rintro e w1 ⟨rfl, hb1⟩
    go_wp2_with fail
    refine (l02Two_any _ _ (by omega) (by omega)).mono ?_
    rintro e w2 ⟨rfl, hb2⟩
    go_wp2_with fail
    refine (l02Two_any _ _ (by omega) (by omega)).mono ?_
    rintro e w3 ⟨rfl, hb3⟩
    go_wp2_with fail
    go_ret
    exact ⟨(ret_str F.out).symm, bl_trans hb0 (bl_trans hb1 (bl_trans hb2 hb3))⟩
end Go.Proofs.YtfpiaajnphidiaaDoor
