/- StrengthBounds itself, the program's and the reference's. -/
import Derived.Test.YtfndcahjjlcnaaaStrength
namespace Go.Proofs.Ytfndcahjjlcnaaa
open Go.ChangeShapes Go.WideShapes Go.ChangeAt Go.RowKit Go.Joins Go.Deep
set_option linter.unusedVariables false
def strLo (x : Ly) (d : Int) : Int := if lyOk x = true ∧ inB d 0 1000 = true then lowF x d else 0
def strHi (x : Ly) (d : Int) : Int := if lyOk x = true ∧ inB d 0 1000 = true then highF x d else 0
def strC (x : Ly) (d : Int) : Int := if lyOk x = true then (if inB d 0 1000 = true then 0 else 2) else 1
theorem str_f {x : Ly} (d : Int) (h : lyOk x = false) : strLo x d = 0 ∧ strHi x d = 0 ∧ strC x d = 1 := by simp [strLo, strHi, strC, h]
theorem str_d {x : Ly} {d : Int} (h : lyOk x = true) (k : inB d 0 1000 = false) : strLo x d = 0 ∧ strHi x d = 0 ∧ strC x d = 2 := by simp [strLo, strHi, strC, h, k]
theorem str_t {x : Ly} {d : Int} (h : lyOk x = true) (k : inB d 0 1000 = true) : strLo x d = lowF x d ∧ strHi x d = highF x d ∧ strC x d = 0 := by simp [strLo, strHi, strC, h, k]
theorem r3 {a b c a' b' c' : Int} (h : a = a' ∧ b = b' ∧ c = c') : Ending.returned (.tuple #[.int .i64 a', .int .i64 b', .int .i64 c']) = .returned (.tuple #[.int .i64 a, .int .i64 b, .int .i64 c]) := by rw [h.1, h.2.1, h.2.2]
theorem l07Doubt_any (d : Int) (w : World) : Calls Try.prog 49 #[.int .i64 d] w fun e w' => e = .returned (.bool (inB d 0 1000)) ∧ w = w' := by
  go_enter Try.func49, Try.ntmps49
  go_wp2_with fail
  refine (l00In_any _ _ _ _).mono ?_
  rintro e w' ⟨rfl, rfl⟩
  go_wp2_with fail
  go_ret
  exact ⟨rfl, rfl⟩
theorem doubtValid_any (d : Int) (w : World) : Calls Try.prog 51 #[.int .i64 d] w fun e w' => e = .returned (.bool (inB d 0 1000)) ∧ w = w' := by
  by_cases h : 0 ≤ d <;> by_cases k : d ≤ 1000
  all_goals
    have F : Hid (inB d 0 1000 = (decide (0 ≤ d) && decide (d ≤ 1000))) := by show _ = _; simp [inB]
    go_enter Try.func51, Try.ntmps51
    go_wp2
    go_ret
    exact ⟨by first | (rw [F.out]; simp [h, k]; done) | (simp [h, k]; done) | rw [F.out], rfl⟩
end Go.Proofs.Ytfndcahjjlcnaaa
