/- StrengthBounds itself, the program's and the reference's. -/
import Derived.Test.YtgjdljfhdaeeeaaStrength
namespace Go.Proofs.Ytgjdljfhdaeeeaa
open Go.ChangeShapes Go.WideShapes Go.ChangeAt Go.RowKit Go.Joins Go.Deep
set_option linter.unusedVariables false
def strLo (x : Ly) (d : Int) : Int := if lyOk x = true ∧ inB d 0 1000 = true then lowF x d else 0
def strHi (x : Ly) (d : Int) : Int := if lyOk x = true ∧ inB d 0 1000 = true then highF x d else 0
def strC (x : Ly) (d : Int) : Int := if lyOk x = true then (if inB d 0 1000 = true then 0 else 2) else 1
theorem str_f {x : Ly} (d : Int) (h : lyOk x = false) : strLo x d = 0 ∧ strHi x d = 0 ∧ strC x d = 1 := by simp [strLo, strHi, strC, h]
theorem str_d {x : Ly} {d : Int} (h : lyOk x = true) (k : inB d 0 1000 = false) : strLo x d = 0 ∧ strHi x d = 0 ∧ strC x d = 2 := by simp [strLo, strHi, strC, h, k]
theorem str_t {x : Ly} {d : Int} (h : lyOk x = true) (k : inB d 0 1000 = true) : strLo x d = lowF x d ∧ strHi x d = highF x d ∧ strC x d = 0 := by simp [strLo, strHi, strC, h, k]
theorem r3 {a b c a' b' c' : Int} (h : a = a' ∧ b = b' ∧ c = c') : Ending.returned (.tuple #[.int .i64 a', .int .i64 b', .int .i64 c']) = .returned (.tuple #[.int .i64 a, .int .i64 b, .int .i64 c]) := by rw [h.1, h.2.1, h.2.2]
theorem l07Doubt_any (d : Int) (w : World) : Calls Try.prog 40 #[.int .i64 d] w fun e w' => e = .returned (.bool (inB d 0 1000)) ∧ w = w' := by
  go_enter Try.func40, Try.ntmps40
  go_wp2_with fail
  refine (l00In_any _ _ _ _).mono ?_
  rintro e w' ⟨rfl, rfl⟩
  go_wp2_with fail
  go_ret
  exact ⟨rfl, rfl⟩
theorem doubtValid_any (d : Int) (w : World) : Calls Try.prog 42 #[.int .i64 d] w fun e w' => e = .returned (.bool (inB d 0 1000)) ∧ w = w' := by
  by_cases h : 0 ≤ d <;> by_cases k : d ≤ 1000
  all_goals
    have F : Hid (inB d 0 1000 = (decide (0 ≤ d) && decide (d ≤ 1000))) := by show _ = _; simp [inB]
    go_enter Try.func42, Try.ntmps42
    go_wp2
    go_ret
    exact ⟨by first | (rw [F.out]; simp [h, k]; done) | (simp [h, k]; done) | rw [F.out], rfl⟩
theorem specStrength_any (x : Ly) (d : Int) (w : World) : Calls Try.prog 17 #[.agg #[.int .i64 x.form, .int .i64 x.ice, .int .i64 x.water, .int .i64 x.dens, .int .i64 x.deg, .int .i64 x.hard, .int .i64 x.age], .int .i64 d] w fun e w' => e = .returned (.tuple #[.int .i64 (strLo x d), .int .i64 (strHi x d), .int .i64 (strC x d)]) ∧ Below w.heap.size w w' := by
  have hl := LyAt.new w 26 x
  rcases h : lyOk x with _ | _
  · have F := Lib.hid (str_f d h)
    go_enter Try.func17, Try.ntmps17
    go_wp2_with (first | (go_at_call 32; refine (l03One_any x _ _ _ hl).mono ?_; rintro e w' ⟨rfl, rfl⟩))
    go_ret3
    exact ⟨r3 F.out, bl_alloc (Below.refl _ _) _⟩
  · rcases k : inB d 0 1000 with _ | _
    · have F := Lib.hid (str_d h k)
      go_enter Try.func17, Try.ntmps17
      go_wp2_with (first | (go_at_call 32; refine (l03One_any x _ _ _ hl).mono ?_; rintro e w' ⟨rfl, rfl⟩) | (go_at_call 40; refine (l07Doubt_any _ _).mono ?_; rintro e w' ⟨rfl, rfl⟩))
      go_ret3
      exact ⟨r3 F.out, bl_alloc (Below.refl _ _) _⟩
    · have F := Lib.hid (str_t h k)
      have hB := lyOk_b h
      have kk : 0 ≤ d ∧ d ≤ 1000 := by simpa [inB] using k
      go_enter Try.func17, Try.ntmps17
      go_wp2_with (first | (go_at_call 32; refine (l03One_any x _ _ _ hl).mono ?_; rintro e w' ⟨rfl, rfl⟩) | (go_at_call 40; refine (l07Doubt_any _ _).mono ?_; rintro e w' ⟨rfl, rfl⟩) | (go_at_call 41; refine (l07Strength_any x _ _ _ _ hB hl kk.1 kk.2).mono ?_; rintro e w1 ⟨rfl, hb1⟩))
      go_ret3
      exact ⟨r3 F.out, bl_trans (bl_alloc (Below.refl _ _) _) hb1⟩
theorem implStrength_any (x : Ly) (d : Int) (w : World) : Calls Try.prog 18 #[.agg #[.int .i64 x.form, .int .i64 x.ice, .int .i64 x.water, .int .i64 x.dens, .int .i64 x.deg, .int .i64 x.hard, .int .i64 x.age], .int .i64 d] w fun e w' => e = .returned (.tuple #[.int .i64 (strLo x d), .int .i64 (strHi x d), .int .i64 (strC x d)]) ∧ Below w.heap.size w w' := by
  have hl := LyAt.new w 26 x
  rcases h : lyOk x with _ | _
  · have F := Lib.hid (str_f d h)
    go_enter Try.func18, Try.ntmps18
    go_wp2_with fail
    refine (validLayer_any x _).mono ?_
    rintro e w1 ⟨rfl, hb1⟩
    go_wp2_with fail
    go_ret3
    exact ⟨r3 F.out, bl_trans (bl_alloc (Below.refl _ _) _) hb1⟩
  · rcases k : inB d 0 1000 with _ | _
    · have F := Lib.hid (str_d h k)
      go_enter Try.func18, Try.ntmps18
      go_wp2_with fail
      refine (validLayer_any x _).mono ?_
      rintro e w1 ⟨rfl, hb1⟩
      obtain ⟨c0, c1, c2, c3, c4, c5, c6⟩ := (hl.below hb1 (by simp)).box
      go_wp2_with fail
      refine (doubtValid_any _ _).mono ?_
      rintro e w2 ⟨rfl, rfl⟩
      go_wp2_with fail
      go_ret3
      exact ⟨r3 F.out, bl_trans (bl_alloc (Below.refl _ _) _) hb1⟩
    · have F := Lib.hid (str_t h k)
      have hB := lyOk_b h
      have kk : 0 ≤ d ∧ d ≤ 1000 := by simpa [inB] using k
      go_enter Try.func18, Try.ntmps18
      go_wp2_with fail
      refine (validLayer_any x _).mono ?_
      rintro e w1 ⟨rfl, hb1⟩
      obtain ⟨c0, c1, c2, c3, c4, c5, c6⟩ := (hl.below hb1 (by simp)).box
      go_wp2_with fail
      refine (doubtValid_any _ _).mono ?_
      rintro e w2 ⟨rfl, rfl⟩
      go_wp2_with fail
      refine (strength_any x _ _ hB kk.1 kk.2).mono ?_
      rintro e w3 ⟨rfl, hb3⟩
      clear c0 c1 c2 c3 c4 c5 c6
      go_wp2_with fail
      go_ret3
      exact ⟨r3 F.out, bl_trans (bl_trans (bl_alloc (Below.refl _ _) _) hb1) hb3⟩
end Go.Proofs.Ytgjdljfhdaeeeaa
