/- A number on a line through two points: the contracts of the program's blend and of the reference's l01Line (ends up to a million). -/
import Derived.Test.YtnkmcejaemcfeaaDiv
namespace Go.Proofs.Ytnkmcejaemcfeaa
open Go.ChangeShapes Go.WideShapes Go.ChangeAt Go.RowKit
set_option linter.unusedVariables false
def lineF (x0 y0 x1 y1 x : Int) : Int := if x ≤ x0 ∨ x1 ≤ x0 then y0 else if x1 ≤ x then y1 else y0 + rdiv ((y1 - y0) * (x - x0)) (x1 - x0)
theorem line_a {x0 y0 x1 y1 x : Int} (h : x ≤ x0) : lineF x0 y0 x1 y1 x = y0 := by unfold lineF; rw [if_pos (.inl h)]
theorem line_b {x0 y0 x1 y1 x : Int} (h : x1 ≤ x0) : lineF x0 y0 x1 y1 x = y0 := by unfold lineF; rw [if_pos (.inr h)]
theorem line_c {x0 y0 x1 y1 x : Int} (h : ¬ x ≤ x0) (k : ¬ x1 ≤ x0) (l : x1 ≤ x) : lineF x0 y0 x1 y1 x = y1 := by unfold lineF; rw [if_neg (by omega), if_pos l]
theorem line_d {x0 y0 x1 y1 x : Int} (h : ¬ x ≤ x0) (k : ¬ x1 ≤ x0) (l : ¬ x1 ≤ x) : lineF x0 y0 x1 y1 x = y0 + rdiv ((y1 - y0) * (x - x0)) (x1 - x0) := by unfold lineF; rw [if_neg (by omega), if_neg l]
theorem prod_bd (a b : Int) (h0 : -2000000 ≤ a) (h1 : a ≤ 2000000) (h2 : 0 ≤ b) (h3 : b ≤ 2000000) : -4000000000000 ≤ a * b ∧ a * b ≤ 4000000000000 := by
  have e1 : a * b ≤ 2000000 * b := Int.mul_le_mul_of_nonneg_right h1 h2
  have e2 : -2000000 * b ≤ a * b := Int.mul_le_mul_of_nonneg_right h0 h2
  omega
theorem rdivP_bd (m b : Int) (hm : 0 ≤ m) (hb : 0 < b) : 0 ≤ rdiv m b ∧ rdiv m b ≤ m + 1 := by
  obtain ⟨d1, d2⟩ := div_le_self m b hm hb
  by_cases h : b - m % b ≤ m % b
  · rw [rdiv_pp_up m b hm hb h]; omega
  · rw [rdiv_pp_dn m b hm hb (by omega)]; omega
theorem rdiv_bd (a b : Int) (hb : 0 < b) (l : Int) (h0 : -l ≤ a) (h1 : a ≤ l) : -l - 1 ≤ rdiv a b ∧ rdiv a b ≤ l + 1 := by
  by_cases ha : a < 0
  · obtain ⟨m, rfl⟩ : ∃ m, a = -m := ⟨-a, by omega⟩
    obtain ⟨d1, d2⟩ := div_le_self m b (by omega) hb
    by_cases h : b - m % b ≤ m % b
    · rw [rdiv_np_up m b (by omega) hb h]; omega
    · rw [rdiv_np_dn m b (by omega) hb (by omega)]; omega
  · have := rdivP_bd a b (by omega) hb
    omega
section
variable (x0 y0 x1 y1 x : Int) (w : World) (a0 : -1000000 ≤ x0) (b0 : x0 ≤ 1000000) (a1 : -1000000 ≤ y0) (b1 : y0 ≤ 1000000) (a2 : -1000000 ≤ x1) (b2 : x1 ≤ 1000000) (a3 : -1000000 ≤ y1) (b3 : y1 ≤ 1000000)
include a0 b0 a1 b1 a2 b2 a3 b3
theorem l01Line_any : Calls Try.prog 65 #[.int .i64 x0, .int .i64 y0, .int .i64 x1, .int .i64 y1, .int .i64 x] w fun e w' => e = .returned (.int .i64 (lineF x0 y0 x1 y1 x)) ∧ w = w' := by
  by_cases h : x ≤ x0
  · have F := Lib.hid (line_a (y0 := y0) (x1 := x1) (y1 := y1) h)
    go_enter Try.func65, Try.ntmps65
    go_wp2
    go_ret
    exact ⟨(ret_int F.out).symm, rfl⟩
  by_cases k : x1 ≤ x0
  · have F := Lib.hid (line_b (y0 := y0) (y1 := y1) (x := x) k)
    go_enter Try.func65, Try.ntmps65
    go_wp2
    go_ret
    exact ⟨(ret_int F.out).symm, rfl⟩
  by_cases l : x1 ≤ x
  · have F := Lib.hid (line_c (y0 := y0) (y1 := y1) h k l)
    go_enter Try.func65, Try.ntmps65
    go_wp2
    go_ret
    exact ⟨(ret_int F.out).symm, rfl⟩
  have F := Lib.hid (line_d (y0 := y0) (y1 := y1) h k l)
  obtain ⟨p1, p2⟩ := prod_bd (y1 - y0) (x - x0) (by omega) (by omega) (by omega) (by omega)
  obtain ⟨q1, q2⟩ := rdiv_bd ((y1 - y0) * (x - x0)) (x1 - x0) (by omega) 4000000000000 p1 p2
  go_enter Try.func65, Try.ntmps65
  go_wp2_with (go_at_call 51; refine (l01Div_any _ _ _ (by omega) (by omega) (by omega) (by omega) (by omega)).mono ?_; rintro e w' ⟨rfl, rfl⟩)
  go_ret
  exact ⟨(ret_int F.out).symm, rfl⟩
theorem blend_any : Calls Try.prog 66 #[.int .i64 x0, .int .i64 y0, .int .i64 x1, .int .i64 y1, .int .i64 x] w fun e w' => e = .returned (.int .i64 (lineF x0 y0 x1 y1 x)) ∧ ∃ n, w' = w.drewN n := by
  by_cases h : x ≤ x0
  · have F := Lib.hid (line_a (y0 := y0) (x1 := x1) (y1 := y1) h)
    go_enter Try.func66, Try.ntmps66
    go_wp2
    go_ret
    exact ⟨(ret_int F.out).symm, 0, rfl⟩
  by_cases k : x1 ≤ x0
  · have F := Lib.hid (line_b (y0 := y0) (y1 := y1) (x := x) k)
    go_enter Try.func66, Try.ntmps66
    go_wp2
    go_ret
    exact ⟨(ret_int F.out).symm, 0, rfl⟩
  by_cases l : x1 ≤ x
  · have F := Lib.hid (line_c (y0 := y0) (y1 := y1) h k l)
    go_enter Try.func66, Try.ntmps66
    go_wp2
    go_ret
    exact ⟨(ret_int F.out).symm, 0, rfl⟩
  have F := Lib.hid (line_d (y0 := y0) (y1 := y1) h k l)
  obtain ⟨p1, p2⟩ := prod_bd (y1 - y0) (x - x0) (by omega) (by omega) (by omega) (by omega)
  obtain ⟨q1, q2⟩ := rdiv_bd ((y1 - y0) * (x - x0)) (x1 - x0) (by omega) 4000000000000 p1 p2
  go_enter Try.func66, Try.ntmps66
  go_wp2_with (go_at_call 53; refine (divRound_any _ _ _ (by omega) (by omega) (by omega) (by omega) (by omega)).mono ?_; rintro e w' ⟨rfl, nd, rfl⟩)
  go_ret
  exact ⟨(ret_int F.out).symm, _, rfl⟩
end
end Go.Proofs.Ytnkmcejaemcfeaa
