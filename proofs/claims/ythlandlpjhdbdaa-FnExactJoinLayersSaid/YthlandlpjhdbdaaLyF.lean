/- One layer's thickness and cold: contracts of the program's and of the reference's functions. The layer is a valid one. -/
import Derived.Test.YthlandlpjhdbdaaOkL
import Derived.Test.YthlandlpjhdbdaaDiv
import Derived.StillTailTactics
namespace Go.Proofs.Ythlandlpjhdbdaa
open Go.ChangeShapes Go.WideShapes Go.ChangeAt Go.RowKit Go.Joins Go.Deep
set_option linter.unusedVariables false
def thick (x : Ly) : Int := rdiv x.ice x.dens
theorem bl_drewB {w a : World} {B : Nat} (h : Below B w a) (n : Nat) : Below B w (a.drewN n) := ⟨h.os, h.tape, h.output, h.size, h.block⟩
def coldP (x : Ly) : Int := -x.ice * x.deg
def coldF (x : Ly) : Int := (coldP x * 21 + 999) / 1000
theorem coldP_bd {x : Ly} (h : LyB x) : 0 ≤ coldP x ∧ coldP x ≤ 4000000000 := by
  obtain ⟨f0, f1, i0, i1, _, _, d0, d1, g0, g1, _, _, _, _⟩ := h
  have e : coldP x = x.ice * -x.deg := by unfold coldP; rw [Int.neg_mul, Int.mul_neg]
  have h1 : 0 ≤ x.ice * -x.deg := Int.mul_nonneg (by omega) (by omega)
  have h2 : x.ice * -x.deg ≤ 1000000 * 4000 := Int.mul_le_mul i1 (by omega) (by omega) (by omega)
  omega
theorem coldF_bd {x : Ly} (h : LyB x) : 0 ≤ coldF x ∧ coldF x ≤ 84000001 := by
  have := coldP_bd h
  unfold coldF
  omega
end Go.Proofs.Ythlandlpjhdbdaa
