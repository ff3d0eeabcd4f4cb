/- The nearest quotient, halves away from 0: plain laws, and the contracts of the program's and of the reference's function (numbers up to 10^17). -/
import Derived.Test.YtjmojlinfjiacaaDoorBase
import Derived.Deep.QuietTactic
import Derived.BigQuiet
namespace Go.Proofs.YtjmojlinfjiacaaDoor
open Go.ChangeShapes Go.WideShapes Go.ChangeAt Go.RowKit
set_option linter.unusedVariables false
/-! ### plain laws -/
def rdivP (a b : Int) : Int := if a < 0 then -((b - 2 * a) / (2 * b)) else (2 * a + b) / (2 * b)
def rdiv (a b : Int) : Int := if b < 0 then rdivP (-a) (-b) else rdivP a b
theorem rd_up (m b : Int) (hm : 0 ≤ m) (hb : 0 < b) (h : b - m % b ≤ m % b) : (2 * m + b) / (2 * b) = m / b + 1 := by
  have h1 := Int.mul_ediv_add_emod m b
  have h2 := Int.emod_lt_of_pos m hb
  have e : 2 * m + b = (2 * (m % b) + b) + (2 * b) * (m / b) := by
    have : (2 * b) * (m / b) = 2 * (b * (m / b)) := by rw [Int.mul_assoc]
    omega
  rw [e, Int.add_mul_ediv_left _ _ (by omega)]
  have l1 : 1 ≤ (2 * (m % b) + b) / (2 * b) := (Int.le_ediv_iff_mul_le (by omega)).2 (by omega)
  have l2 : (2 * (m % b) + b) / (2 * b) < 2 := Int.ediv_lt_of_lt_mul (by omega) (by omega)
  omega
theorem rd_down (m b : Int) (hm : 0 ≤ m) (hb : 0 < b) (h : m % b < b - m % b) : (2 * m + b) / (2 * b) = m / b := by
  have h1 := Int.mul_ediv_add_emod m b
  have h0 := Int.emod_nonneg m (by omega : b ≠ 0)
  have e : 2 * m + b = (2 * (m % b) + b) + (2 * b) * (m / b) := by
    have : (2 * b) * (m / b) = 2 * (b * (m / b)) := by rw [Int.mul_assoc]
    omega
  rw [e, Int.add_mul_ediv_left _ _ (by omega)]
  have : (2 * (m % b) + b) / (2 * b) = 0 := Int.ediv_eq_zero_of_lt (by omega) (by omega)
  omega
theorem rdiv_neg (a b : Int) (hb : b ≠ 0) : rdiv (-a) (-b) = rdiv a b := by
  unfold rdiv
  by_cases h : b < 0
  · rw [if_neg (by omega), if_pos h]
  · rw [if_pos (by omega), if_neg h, Int.neg_neg, Int.neg_neg]
theorem rdivP_neg (m b : Int) (hm : 0 < m) : rdivP (-m) b = -((2 * m + b) / (2 * b)) := by
  unfold rdivP
  rw [if_pos (by omega), show b - 2 * -m = 2 * m + b from by omega]
theorem rdivP_pos (m b : Int) (hm : 0 ≤ m) : rdivP m b = (2 * m + b) / (2 * b) := by
  unfold rdivP
  rw [if_neg (by omega)]
theorem tdiv_neg (m b : Int) (hm : 0 ≤ m) : (-m).tdiv b = -(m / b) := by
  rw [Int.neg_tdiv, Int.tdiv_eq_ediv_of_nonneg hm]
theorem tmod_neg (m b : Int) (hm : 0 ≤ m) : (-m).tmod b = -(m % b) := by
  rw [Int.neg_tmod, Int.tmod_eq_emod_of_nonneg hm]
theorem div_le_self (m b : Int) (hm : 0 ≤ m) (hb : 0 < b) : 0 ≤ m / b ∧ m / b ≤ m :=
  ⟨Int.ediv_nonneg hm (by omega), Int.ediv_le_self b hm⟩
theorem mod_bd (m b : Int) (hb : 0 < b) : 0 ≤ m % b ∧ m % b < b := ⟨Int.emod_nonneg m (by omega), Int.emod_lt_of_pos m hb⟩
def absI (n : Int) : Int := if n < 0 then -n else n
theorem absI_n {n : Int} (h : n < 0) : absI n = -n := by unfold absI; rw [if_pos h]
theorem absI_p {n : Int} (h : ¬ n < 0) : absI n = n := by unfold absI; rw [if_neg h]
theorem abs_any (n : Int) (w : World) (h : -9000000000000000000 ≤ n) (h' : n ≤ 9000000000000000000) : Calls Tryd.prog 51 #[.int .i64 n] w fun e w' => e = .returned (.int .i64 (absI n)) ∧ w = w' := by
  by_cases h0 : n < 0
  · have F := Lib.hid (absI_n h0)
    go_enter Tryd.func51, Tryd.ntmps51
    go_wp2
    go_ret
    exact ⟨(ret_int F.out).symm, rfl⟩
  · have F := Lib.hid (absI_p h0)
    go_enter Tryd.func51, Tryd.ntmps51
    go_wp2
    go_ret
    exact ⟨(ret_int F.out).symm, rfl⟩
end Go.Proofs.YtjmojlinfjiacaaDoor
