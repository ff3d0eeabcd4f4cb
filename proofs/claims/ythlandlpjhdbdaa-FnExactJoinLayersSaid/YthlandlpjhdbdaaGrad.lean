/- The gradient between two layers: the contracts of GradientOf and what it calls, on both sides. -/
import Derived.Test.YthlandlpjhdbdaaHeight
import Derived.Test.YthlandlpjhdbdaaLst
import Derived.RegionTactic
import Derived.BigRegion
import Derived.Deep.RegionHeld3
import Derived.Deep.DeepCutAuto
namespace Go.Proofs.Ythlandlpjhdbdaa
open Go.ChangeShapes Go.WideShapes Go.ChangeAt Go.RowKit Go.Joins Go.Deep
set_option linter.unusedVariables false
def maxI (a b : Int) : Int := if b < a then a else b
def wayF (x y : Ly) : Int := maxI 1 ((thick x + thick y) / 2)
def gradF (x y : Ly) : Int := rdiv ((y.deg - x.deg) * 1000) (wayF x y)
theorem wayF_bd {x y : Ly} (hx : LyB x) (hy : LyB y) : 1 ≤ wayF x y ∧ wayF x y ≤ 1000000 := by
  have := thick_bd hx
  have := thick_bd hy
  unfold wayF maxI
  split <;> omega
theorem gradF_bd {x y : Ly} (hx : LyB x) (hy : LyB y) : -4000001 ≤ gradF x y ∧ gradF x y ≤ 4000001 := by
  obtain ⟨w0, w1⟩ := wayF_bd hx hy
  have d0 := hx.g0
  have d1 := hx.g1
  have e0 := hy.g0
  have e1 := hy.g1
  unfold gradF
  generalize wayF x y = b at *
  have hd : -4000000 ≤ (y.deg - x.deg) * 1000 ∧ (y.deg - x.deg) * 1000 ≤ 4000000 := by omega
  generalize (y.deg - x.deg) * 1000 = a at *
  unfold rdiv rdivP
  rw [if_neg (by omega)]
  split
  · have h1 : 0 ≤ (b - 2 * a) / (2 * b) := Int.ediv_nonneg (by omega) (by omega)
    have h2 : (b - 2 * a) / (2 * b) ≤ 4000001 := by
      refine Int.le_trans (Int.ediv_le_ediv (c := 2 * b) (by omega) (show b - 2 * a ≤ 4000001 * (2 * b) by omega)) ?_
      rw [Int.mul_ediv_cancel _ (by omega)]; exact Int.le_refl _
    omega
  · have h1 : 0 ≤ (2 * a + b) / (2 * b) := Int.ediv_nonneg (by omega) (by omega)
    have h2 : (2 * a + b) / (2 * b) ≤ 4000001 := by
      refine Int.le_trans (Int.ediv_le_ediv (c := 2 * b) (by omega) (show 2 * a + b ≤ 4000001 * (2 * b) by omega)) ?_
      rw [Int.mul_ediv_cancel _ (by omega)]; exact Int.le_refl _
    omega
theorem quiet_add_left {P : Program} {f : FuncId} {args : Array Value} {w : World} {a n : Nat} {v : Value}
    (h : Calls P f args (w.drewN (a + n)) fun e w' => e = .returned v ∧ w.drewN (a + n) = w') :
    Calls P f args (w.drewN (a + n)) fun e w'' => e = .returned v ∧ ∃ m, w'' = w.drewN (a + m) :=
  h.mono fun _ _ ⟨he, hm⟩ => ⟨he, n, hm.symm⟩
theorem l00Max_any (a b : Int) (w : World) : Calls Try.prog 24 #[.int .i64 a, .int .i64 b] w fun e w' => e = .returned (.int .i64 (maxI a b)) ∧ w = w' := by
  by_cases h : b < a
  · have F : Hid (maxI a b = a) := by show maxI a b = a; unfold maxI; rw [if_pos h]
    go_enter Try.func24, Try.ntmps24
    go_wp2
    go_ret
    exact ⟨(ret_int F.out).symm, rfl⟩
  · have F : Hid (maxI a b = b) := by show maxI a b = b; unfold maxI; rw [if_neg h]
    go_enter Try.func24, Try.ntmps24
    go_wp2
    go_ret
    exact ⟨(ret_int F.out).symm, rfl⟩
end Go.Proofs.Ythlandlpjhdbdaa
