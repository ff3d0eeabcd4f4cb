/- The contracts of the program's and of the reference's ThicknessOf. -/
import Derived.Test.YtgjdljfhdaeeeaaLyF
import Derived.Test.YtgjdljfhdaeeeaaSum
namespace Go.Proofs.Ytgjdljfhdaeeeaa
open Go.ChangeShapes Go.WideShapes Go.ChangeAt Go.RowKit Go.Joins Go.Deep
set_option linter.unusedVariables false
def thickV (x : Ly) : Int := if lyOk x then thick x else 0
def thickC (x : Ly) : Int := if lyOk x then 0 else 1
theorem thick_f {x : Ly} (h : lyOk x = false) : thickV x = 0 ∧ thickC x = 1 := by unfold thickV thickC; rw [h]; exact ⟨rfl, rfl⟩
theorem thick_t {x : Ly} (h : lyOk x = true) : thickV x = thick x ∧ thickC x = 0 := by unfold thickV thickC; rw [h]; exact ⟨rfl, rfl⟩
theorem specThick_any (x : Ly) (w : World) : Calls Try.prog 11 #[.agg #[.int .i64 x.form, .int .i64 x.ice, .int .i64 x.water, .int .i64 x.dens, .int .i64 x.deg, .int .i64 x.hard, .int .i64 x.age]] w fun e w' => e = .returned (.tuple #[.int .i64 (thickV x), .int .i64 (thickC x)]) ∧ Below w.heap.size w w' := by
  have hl := LyAt.new w 26 x
  rcases h : lyOk x with _ | _
  · have F := Lib.hid (thick_f h)
    go_enter Try.func11, Try.ntmps11
    go_wp2_with fail
    refine (l03One_any x _ _ _ hl).mono ?_
    rintro e w' ⟨rfl, rfl⟩
    go_wp2_with fail
    go_ret2
    exact ⟨(ret2i F.out.1 F.out.2).symm, bl_alloc (Below.refl _ _) _⟩
  · have F := Lib.hid (thick_t h)
    have hB := lyOk_b h
    go_enter Try.func11, Try.ntmps11
    go_wp2_with fail
    refine (l03One_any x _ _ _ hl).mono ?_
    rintro e w' ⟨rfl, rfl⟩
    go_wp2_with fail
    refine (l03Thick_any x _ _ _ hB hl).mono ?_
    rintro e w' ⟨rfl, nd, rfl⟩
    go_wp2_with fail
    go_ret2
    exact ⟨(ret2i F.out.1 F.out.2).symm, bl_drewN (bl_alloc (Below.refl _ _) _) _⟩
theorem implThick_any (x : Ly) (w : World) : Calls Try.prog 13 #[.agg #[.int .i64 x.form, .int .i64 x.ice, .int .i64 x.water, .int .i64 x.dens, .int .i64 x.deg, .int .i64 x.hard, .int .i64 x.age]] w fun e w' => e = .returned (.tuple #[.int .i64 (thickV x), .int .i64 (thickC x)]) ∧ Below w.heap.size w w' := by
  have hl := LyAt.new w 26 x
  rcases h : lyOk x with _ | _
  · have F := Lib.hid (thick_f h)
    go_enter Try.func13, Try.ntmps13
    go_wp2_with fail
    refine (validLayer_any x _).mono ?_
    rintro e w1 ⟨rfl, hb1⟩
    go_wp2_with fail
    go_ret2
    exact ⟨(ret2i F.out.1 F.out.2).symm, bl_trans (bl_alloc (Below.refl _ _) _) hb1⟩
  · have F := Lib.hid (thick_t h)
    have hB := lyOk_b h
    go_enter Try.func13, Try.ntmps13
    go_wp2_with fail
    refine (validLayer_any x _).mono ?_
    rintro e w1 ⟨rfl, hb1⟩
    obtain ⟨c0, c1, c2, c3, c4, c5, c6⟩ := (hl.below hb1 (by simp)).box
    go_wp2_with fail
    clear c0 c1 c2 c3 c4 c5 c6
    refine (thickness_any x _ hB).mono ?_
    rintro e w2 ⟨rfl, hb2⟩
    go_wp2_with fail
    go_ret2
    exact ⟨(ret2i F.out.1 F.out.2).symm, bl_trans (bl_trans (bl_alloc (Below.refl _ _) _) hb1) hb2⟩
end Go.Proofs.Ytgjdljfhdaeeeaa
