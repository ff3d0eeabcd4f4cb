/- The contracts of the program's and of the reference's HeightOf and of the loops behind them. -/
import Derived.Test.YthlandlpjhdbdaaLyF
import Derived.Test.YthlandlpjhdbdaaSum
namespace Go.Proofs.Ythlandlpjhdbdaa
open Go.ChangeShapes Go.WideShapes Go.ChangeAt Go.RowKit Go.Joins Go.Deep
set_option linter.unusedVariables false
theorem thick_bd {x : Ly} (h : LyB x) : 0 ≤ thick x ∧ thick x ≤ 1000000 := by
  have := h.i0
  have := h.i1
  have := h.d0
  have := h.d1
  have e : thick x = (2 * x.ice + x.dens) / (2 * x.dens) := by unfold thick rdiv; rw [if_neg (by omega), rdivP_pos _ _ (by omega)]
  rw [e]
  refine ⟨Int.ediv_nonneg (by omega) (by omega), ?_⟩
  exact Int.le_trans (Int.ediv_le_ediv (by omega) (show 2 * x.ice + x.dens ≤ 1000000 * (2 * x.dens) by omega)) (by rw [Int.mul_ediv_cancel _ (by omega)]; exact Int.le_refl _)
theorem LyAt.drewN {w : World} {g o : Nat} {x : Ly} (h : LyAt w g o x) (n : Nat) : LyAt (w.drewN n) g o x := h.of_block rfl
end Go.Proofs.Ythlandlpjhdbdaa
