/- A layer an hour later under a load: the contracts of the program's and of the reference's functions. -/
import Derived.Test.YthlandlpjhdbdaaOkL
import Derived.Test.YthlandlpjhdbdaaSum
namespace Go.Proofs.Ythlandlpjhdbdaa
open Go.ChangeShapes Go.WideShapes Go.ChangeAt Go.RowKit Go.Joins Go.Deep
set_option linter.unusedVariables false
def settleD (d load : Int) : Int := if d < 550 then (if d + (550 - d) * load / 10000000 ≤ 550 then d + (550 - d) * load / 10000000 else 550) else d
def settleA (a : Int) : Int := if a + 1 ≤ 10000 then a + 1 else 10000
def settleF (x : Ly) (load : Int) : Ly := { x with dens := settleD x.dens load, age := settleA x.age }
theorem sD_lo {d l : Int} (h : d < 550) (k : d + (550 - d) * l / 10000000 ≤ 550) : settleD d l = d + (550 - d) * l / 10000000 := by unfold settleD; rw [if_pos h, if_pos k]
theorem sD_hi {d l : Int} (h : d < 550) (k : ¬ d + (550 - d) * l / 10000000 ≤ 550) : settleD d l = 550 := by unfold settleD; rw [if_pos h, if_neg k]
theorem sD_no {d l : Int} (h : ¬ d < 550) : settleD d l = d := by unfold settleD; rw [if_neg h]
theorem sA_lo {a : Int} (h : a + 1 ≤ 10000) : settleA a = a + 1 := by unfold settleA; rw [if_pos h]
theorem sA_hi {a : Int} (h : ¬ a + 1 ≤ 10000) : settleA a = 10000 := by unfold settleA; rw [if_neg h]
theorem prod_load (d l : Int) (h0 : 30 ≤ d) (h1 : d < 550) (h2 : 0 ≤ l) (h3 : l ≤ 32000000) : 0 ≤ (550 - d) * l ∧ (550 - d) * l ≤ 17600000000 := by
  have a : 0 ≤ (550 - d) * l := Int.mul_nonneg (by omega) h2
  have b : (550 - d) * l ≤ 550 * 32000000 := Int.mul_le_mul (by omega) h3 h2 (by omega)
  omega
theorem settleD_bd (d l : Int) (h0 : 30 ≤ d) (h1 : d ≤ 900) (h2 : 0 ≤ l) (h3 : l ≤ 32000000) : 30 ≤ settleD d l ∧ settleD d l ≤ 900 := by
  unfold settleD
  split
  · have := prod_load d l h0 (by assumption) h2 h3
    split <;> omega
  · omega
theorem settle_b {x : Ly} (h : LyB x) (l : Int) (h2 : 0 ≤ l) (h3 : l ≤ 32000000) : LyB (settleF x l) := by
  have e := settleD_bd x.dens l h.d0 h.d1 h2 h3
  obtain ⟨f0, f1, i0, i1, w0, w1, d0, d1, g0, g1, k0, k1, a0, a1⟩ := h
  refine ⟨f0, f1, i0, i1, w0, w1, e.1, e.2, g0, g1, k0, k1, ?_, ?_⟩ <;> (simp only [settleF, settleA]; split <;> omega)
def minI (a b : Int) : Int := if a < b then a else b
theorem l00Min_any (a b : Int) (w : World) : Calls Try.prog 23 #[.int .i64 a, .int .i64 b] w fun e w' => e = .returned (.int .i64 (minI a b)) ∧ w = w' := by
  by_cases h : a < b
  · have F : Hid (minI a b = a) := by show minI a b = a; unfold minI; rw [if_pos h]
    go_enter Try.func23, Try.ntmps23
    go_wp2
    go_ret
    exact ⟨(ret_int F.out).symm, rfl⟩
  · have F : Hid (minI a b = b) := by show minI a b = b; unfold minI; rw [if_neg h]
    go_enter Try.func23, Try.ntmps23
    go_wp2
    go_ret
    exact ⟨(ret_int F.out).symm, rfl⟩
end Go.Proofs.Ythlandlpjhdbdaa
