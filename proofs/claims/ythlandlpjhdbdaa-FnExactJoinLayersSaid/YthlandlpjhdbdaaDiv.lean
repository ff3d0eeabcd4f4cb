/- The nearest quotient, halves away from 0: plain laws, and the contracts of the program's and of the reference's function (numbers up to 10^17). -/
import Derived.Test.YthlandlpjhdbdaaBase
import Derived.Deep.QuietTactic
import Derived.BigQuiet
namespace Go.Proofs.Ythlandlpjhdbdaa
open Go.ChangeShapes Go.WideShapes Go.ChangeAt Go.RowKit
set_option linter.unusedVariables false
/-! ### plain laws -/
def rdivP (a b : Int) : Int := if a < 0 then -((b - 2 * a) / (2 * b)) else (2 * a + b) / (2 * b)
def rdiv (a b : Int) : Int := if b < 0 then rdivP (-a) (-b) else rdivP a b
theorem rd_up (m b : Int) (hm : 0 ≤ m) (hb : 0 < b) (h : b - m % b ≤ m % b) : (2 * m + b) / (2 * b) = m / b + 1 := by
  have h1 := Int.mul_ediv_add_emod m b
  have h2 := Int.emod_lt_of_pos m hb
  have e : 2 * m + b = (2 * (m % b) + b) + (2 * b) * (m / b) := by
    have : (2 * b) * (m / b) = 2 * (b * (m / b)) := by rw [Int.mul_assoc]
    omega
  rw [e, Int.add_mul_ediv_left _ _ (by omega)]
  have l1 : 1 ≤ (2 * (m % b) + b) / (2 * b) := (Int.le_ediv_iff_mul_le (by omega)).2 (by omega)
  have l2 : (2 * (m % b) + b) / (2 * b) < 2 := Int.ediv_lt_of_lt_mul (by omega) (by omega)
  omega
theorem rd_down (m b : Int) (hm : 0 ≤ m) (hb : 0 < b) (h : m % b < b - m % b) : (2 * m + b) / (2 * b) = m / b := by
  have h1 := Int.mul_ediv_add_emod m b
  have h0 := Int.emod_nonneg m (by omega : b ≠ 0)
  have e : 2 * m + b = (2 * (m % b) + b) + (2 * b) * (m / b) := by
    have : (2 * b) * (m / b) = 2 * (b * (m / b)) := by rw [Int.mul_assoc]
    omega
  rw [e, Int.add_mul_ediv_left _ _ (by omega)]
  have : (2 * (m % b) + b) / (2 * b) = 0 := Int.ediv_eq_zero_of_lt (by omega) (by omega)
  omega
theorem rdiv_neg (a b : Int) (hb : b ≠ 0) : rdiv (-a) (-b) = rdiv a b := by
  unfold rdiv
  by_cases h : b < 0
  · rw [if_neg (by omega), if_pos h]
  · rw [if_pos (by omega), if_neg h, Int.neg_neg, Int.neg_neg]
theorem rdivP_neg (m b : Int) (hm : 0 < m) : rdivP (-m) b = -((2 * m + b) / (2 * b)) := by
  unfold rdivP
  rw [if_pos (by omega), show b - 2 * -m = 2 * m + b from by omega]
theorem rdivP_pos (m b : Int) (hm : 0 ≤ m) : rdivP m b = (2 * m + b) / (2 * b) := by
  unfold rdivP
  rw [if_neg (by omega)]
theorem tdiv_neg (m b : Int) (hm : 0 ≤ m) : (-m).tdiv b = -(m / b) := by
  rw [Int.neg_tdiv, Int.tdiv_eq_ediv_of_nonneg hm]
theorem tmod_neg (m b : Int) (hm : 0 ≤ m) : (-m).tmod b = -(m % b) := by
  rw [Int.neg_tmod, Int.tmod_eq_emod_of_nonneg hm]
theorem div_le_self (m b : Int) (hm : 0 ≤ m) (hb : 0 < b) : 0 ≤ m / b ∧ m / b ≤ m :=
  ⟨Int.ediv_nonneg hm (by omega), Int.ediv_le_self b hm⟩
theorem mod_bd (m b : Int) (hb : 0 < b) : 0 ≤ m % b ∧ m % b < b := ⟨Int.emod_nonneg m (by omega), Int.emod_lt_of_pos m hb⟩
def absI (n : Int) : Int := if n < 0 then -n else n
theorem absI_n {n : Int} (h : n < 0) : absI n = -n := by unfold absI; rw [if_pos h]
theorem absI_p {n : Int} (h : ¬ n < 0) : absI n = n := by unfold absI; rw [if_neg h]
theorem abs_any (n : Int) (w : World) (h : -9000000000000000000 ≤ n) (h' : n ≤ 9000000000000000000) : Calls Try.prog 27 #[.int .i64 n] w fun e w' => e = .returned (.int .i64 (absI n)) ∧ w = w' := by
  by_cases h0 : n < 0
  · have F := Lib.hid (absI_n h0)
    go_enter Try.func27, Try.ntmps27
    go_wp2
    go_ret
    exact ⟨(ret_int F.out).symm, rfl⟩
  · have F := Lib.hid (absI_p h0)
    go_enter Try.func27, Try.ntmps27
    go_wp2
    go_ret
    exact ⟨(ret_int F.out).symm, rfl⟩
theorem quiet_left {P : Program} {f : FuncId} {args : Array Value} {w : World} {n : Nat} {v : Value}
    (h : Calls P f args (w.drewN n) fun e w' => e = .returned v ∧ w.drewN n = w') : Calls P f args (w.drewN n) fun e w' => e = .returned v ∧ ∃ m, w' = w.drewN m :=
  h.mono fun _ _ ⟨he, hm⟩ => ⟨he, n, hm.symm⟩
theorem rdiv_pp_up (m b : Int) (hm : 0 ≤ m) (hb : 0 < b) (h : b - m % b ≤ m % b) : rdiv m b = m / b + 1 := by
  unfold rdiv; rw [if_neg (by omega), rdivP_pos m b hm, rd_up m b hm hb h]
theorem rdiv_pp_dn (m b : Int) (hm : 0 ≤ m) (hb : 0 < b) (h : m % b < b - m % b) : rdiv m b = m / b := by
  unfold rdiv; rw [if_neg (by omega), rdivP_pos m b hm, rd_down m b hm hb h]
theorem rdiv_np_up (m b : Int) (hm : 0 < m) (hb : 0 < b) (h : b - m % b ≤ m % b) : rdiv (-m) b = -(m / b) - 1 := by
  unfold rdiv; rw [if_neg (by omega), rdivP_neg m b hm, rd_up m b (by omega) hb h]; omega
theorem rdiv_np_dn (m b : Int) (hm : 0 < m) (hb : 0 < b) (h : m % b < b - m % b) : rdiv (-m) b = -(m / b) := by
  unfold rdiv; rw [if_neg (by omega), rdivP_neg m b hm, rd_down m b (by omega) hb h]
theorem rdiv_pn_up (m b : Int) (hm : 0 ≤ m) (hb : 0 < b) (h : b - m % b ≤ m % b) : rdiv m (-b) = -(m / b) - 1 := by
  have h0 : 0 < m := by
    rcases Int.lt_or_lt_of_ne (show m ≠ 0 from fun e => by subst e; simp at h; omega) with c | c
    · omega
    · exact c
  rw [← rdiv_neg m (-b) (by omega), Int.neg_neg]
  exact rdiv_np_up m b h0 hb h
theorem rdiv_pn_dn (m b : Int) (hm : 0 ≤ m) (hb : 0 < b) (h : m % b < b - m % b) : rdiv m (-b) = -(m / b) := by
  rw [← rdiv_neg m (-b) (by omega), Int.neg_neg]
  by_cases h0 : 0 < m
  · exact rdiv_np_dn m b h0 hb h
  · obtain rfl : m = 0 := by omega
    have := rdiv_pp_dn 0 b (by omega) hb h
    simpa using this
theorem rdiv_nn_up (m b : Int) (hm : 0 < m) (hb : 0 < b) (h : b - m % b ≤ m % b) : rdiv (-m) (-b) = m / b + 1 := by
  rw [rdiv_neg m b (by omega)]; exact rdiv_pp_up m b (by omega) hb h
theorem rdiv_nn_dn (m b : Int) (hm : 0 < m) (hb : 0 < b) (h : m % b < b - m % b) : rdiv (-m) (-b) = m / b := by
  rw [rdiv_neg m b (by omega)]; exact rdiv_pp_dn m b (by omega) hb h
theorem divRound_pp (m b : Int) (w : World) (h0 : 0 ≤ m) (h1 : m ≤ 100000000000000000) (h2 : 1 ≤ b) (h3 : b ≤ 100000000000000000) : Calls Try.prog 18 #[.int .i64 m, .int .i64 b] w fun e w' => e = .returned (.int .i64 (rdiv m b)) ∧ ∃ n, w' = w.drewN n := by
  obtain ⟨m1, m2⟩ := mod_bd m b (by omega)
  obtain ⟨d1, d2⟩ := div_le_self m b (by omega) (by omega)
  have ab := absI_p (n := m % b) (by omega)
  have bb := absI_p (n := b) (by omega)
  have s1 : decide (m < 0) = false := by simp; omega
  have s2 : decide (b < 0) = false := by simp; omega
  by_cases hr : b - m % b ≤ m % b
  · have F := Lib.hid (rdiv_pp_up m b h0 (by omega) hr)
    go_enter Try.func18, Try.ntmps18
    go_wp2_with fail
    go_quiet ((go_at_call 27; exact quiet_left (abs_any _ _ (by omega) (by omega))))
    go_wp2_with (go_at_call 27; refine (abs_any _ _ (by omega) (by omega)).mono ?_; rintro e w' ⟨rfl, rfl⟩)
    go_ret
    exact ⟨(ret_int F.out).symm, _, rfl⟩
  · have F := Lib.hid (rdiv_pp_dn m b h0 (by omega) (by omega))
    go_enter Try.func18, Try.ntmps18
    go_wp2_with fail
    go_quiet ((go_at_call 27; exact quiet_left (abs_any _ _ (by omega) (by omega))))
    go_wp2_with (go_at_call 27; refine (abs_any _ _ (by omega) (by omega)).mono ?_; rintro e w' ⟨rfl, rfl⟩)
    go_ret
    exact ⟨(ret_int F.out).symm, _, rfl⟩
theorem divRound_np (m b : Int) (w : World) (h0 : 0 < m) (h1 : m ≤ 100000000000000000) (h2 : 1 ≤ b) (h3 : b ≤ 100000000000000000) : Calls Try.prog 18 #[.int .i64 (-m), .int .i64 b] w fun e w' => e = .returned (.int .i64 (rdiv (-m) b)) ∧ ∃ n, w' = w.drewN n := by
  obtain ⟨m1, m2⟩ := mod_bd m b (by omega)
  obtain ⟨d1, d2⟩ := div_le_self m b (by omega) (by omega)
  have e1 := tdiv_neg m b (by omega)
  have e2 := tmod_neg m b (by omega)
  have ab : absI (-(m % b)) = m % b := by unfold absI; split <;> omega
  have bb := absI_p (n := b) (by omega)
  have s1 : decide (0 < m) = true := by simp; omega
  have s2 : decide (b < 0) = false := by simp; omega
  by_cases hr : b - m % b ≤ m % b
  · have F := Lib.hid (rdiv_np_up m b h0 (by omega) hr)
    go_enter Try.func18, Try.ntmps18
    go_wp2_with fail
    go_quiet ((go_at_call 27; exact quiet_left (abs_any _ _ (by omega) (by omega))))
    go_wp2_with (go_at_call 27; refine (abs_any _ _ (by omega) (by omega)).mono ?_; rintro e w' ⟨rfl, rfl⟩)
    go_ret
    exact ⟨(ret_int F.out).symm, _, rfl⟩
  · have F := Lib.hid (rdiv_np_dn m b h0 (by omega) (by omega))
    go_enter Try.func18, Try.ntmps18
    go_wp2_with fail
    go_quiet ((go_at_call 27; exact quiet_left (abs_any _ _ (by omega) (by omega))))
    go_wp2_with (go_at_call 27; refine (abs_any _ _ (by omega) (by omega)).mono ?_; rintro e w' ⟨rfl, rfl⟩)
    go_ret
    exact ⟨(ret_int F.out).symm, _, rfl⟩
theorem divRound_pn (m b : Int) (w : World) (h0 : 0 ≤ m) (h1 : m ≤ 100000000000000000) (h2 : 1 ≤ b) (h3 : b ≤ 100000000000000000) : Calls Try.prog 18 #[.int .i64 m, .int .i64 (-b)] w fun e w' => e = .returned (.int .i64 (rdiv m (-b))) ∧ ∃ n, w' = w.drewN n := by
  obtain ⟨m1, m2⟩ := mod_bd m b (by omega)
  obtain ⟨d1, d2⟩ := div_le_self m b (by omega) (by omega)
  have e1 : m.tdiv (-b) = -(m / b) := by rw [Int.tdiv_neg, Int.tdiv_eq_ediv_of_nonneg (by omega)]
  have e2 : m.tmod (-b) = m % b := by rw [Int.tmod_neg, Int.tmod_eq_emod_of_nonneg (by omega)]
  have ab := absI_p (n := m % b) (by omega)
  have bb : absI (-b) = b := by unfold absI; split <;> omega
  have s1 : decide (m < 0) = false := by simp; omega
  have s2 : decide (0 < b) = true := by simp; omega
  by_cases hr : b - m % b ≤ m % b
  · have F := Lib.hid (rdiv_pn_up m b h0 (by omega) hr)
    go_enter Try.func18, Try.ntmps18
    go_wp2_with fail
    go_quiet ((go_at_call 27; exact quiet_left (abs_any _ _ (by omega) (by omega))))
    go_wp2_with (go_at_call 27; refine (abs_any _ _ (by omega) (by omega)).mono ?_; rintro e w' ⟨rfl, rfl⟩)
    go_ret
    exact ⟨(ret_int F.out).symm, _, rfl⟩
  · have F := Lib.hid (rdiv_pn_dn m b h0 (by omega) (by omega))
    go_enter Try.func18, Try.ntmps18
    go_wp2_with fail
    go_quiet ((go_at_call 27; exact quiet_left (abs_any _ _ (by omega) (by omega))))
    go_wp2_with (go_at_call 27; refine (abs_any _ _ (by omega) (by omega)).mono ?_; rintro e w' ⟨rfl, rfl⟩)
    go_ret
    exact ⟨(ret_int F.out).symm, _, rfl⟩
theorem divRound_nn (m b : Int) (w : World) (h0 : 0 < m) (h1 : m ≤ 100000000000000000) (h2 : 1 ≤ b) (h3 : b ≤ 100000000000000000) : Calls Try.prog 18 #[.int .i64 (-m), .int .i64 (-b)] w fun e w' => e = .returned (.int .i64 (rdiv (-m) (-b))) ∧ ∃ n, w' = w.drewN n := by
  obtain ⟨m1, m2⟩ := mod_bd m b (by omega)
  obtain ⟨d1, d2⟩ := div_le_self m b (by omega) (by omega)
  have e1 : (-m).tdiv (-b) = m / b := by rw [Int.tdiv_neg, Int.neg_tdiv, Int.neg_neg, Int.tdiv_eq_ediv_of_nonneg (by omega)]
  have e2 : (-m).tmod (-b) = -(m % b) := by rw [Int.tmod_neg, Int.neg_tmod, Int.tmod_eq_emod_of_nonneg (by omega)]
  have ab : absI (-(m % b)) = m % b := by unfold absI; split <;> omega
  have bb : absI (-b) = b := by unfold absI; split <;> omega
  have s1 : decide (0 < m) = true := by simp; omega
  have s2 : decide (0 < b) = true := by simp; omega
  by_cases hr : b - m % b ≤ m % b
  · have F := Lib.hid (rdiv_nn_up m b h0 (by omega) hr)
    go_enter Try.func18, Try.ntmps18
    go_wp2_with fail
    go_quiet ((go_at_call 27; exact quiet_left (abs_any _ _ (by omega) (by omega))))
    go_wp2_with (go_at_call 27; refine (abs_any _ _ (by omega) (by omega)).mono ?_; rintro e w' ⟨rfl, rfl⟩)
    go_ret
    exact ⟨(ret_int F.out).symm, _, rfl⟩
  · have F := Lib.hid (rdiv_nn_dn m b h0 (by omega) (by omega))
    go_enter Try.func18, Try.ntmps18
    go_wp2_with fail
    go_quiet ((go_at_call 27; exact quiet_left (abs_any _ _ (by omega) (by omega))))
    go_wp2_with (go_at_call 27; refine (abs_any _ _ (by omega) (by omega)).mono ?_; rintro e w' ⟨rfl, rfl⟩)
    go_ret
    exact ⟨(ret_int F.out).symm, _, rfl⟩
theorem divRound_any (a b : Int) (w : World) (h0 : -100000000000000000 ≤ a) (h1 : a ≤ 100000000000000000) (h2 : -100000000000000000 ≤ b) (h3 : b ≤ 100000000000000000) (h4 : b ≠ 0) : Calls Try.prog 18 #[.int .i64 a, .int .i64 b] w fun e w' => e = .returned (.int .i64 (rdiv a b)) ∧ ∃ n, w' = w.drewN n := by
  by_cases ha : a < 0
  · obtain ⟨m, rfl⟩ : ∃ m, a = -m := ⟨-a, by omega⟩
    by_cases hb : b < 0
    · obtain ⟨k, rfl⟩ : ∃ k, b = -k := ⟨-b, by omega⟩
      exact divRound_nn m k w (by omega) (by omega) (by omega) (by omega)
    · exact divRound_np m b w (by omega) (by omega) (by omega) (by omega)
  · by_cases hb : b < 0
    · obtain ⟨k, rfl⟩ : ∃ k, b = -k := ⟨-b, by omega⟩
      exact divRound_pn a k w (by omega) (by omega) (by omega) (by omega)
    · exact divRound_pp a b w (by omega) (by omega) (by omega) (by omega)
theorem l01Div_p (a b : Int) (w : World) (h0 : -100000000000000000 ≤ a) (h1 : a ≤ 100000000000000000) (h2 : 1 ≤ b) (h3 : b ≤ 100000000000000000) : Calls Try.prog 22 #[.int .i64 a, .int .i64 b] w fun e w' => e = .returned (.int .i64 (rdiv a b)) ∧ w = w' := by
  by_cases ha : a < 0
  · have F : Hid (rdiv a b = -((b - 2 * a) / (2 * b))) := by
      show rdiv a b = _
      unfold rdiv rdivP
      rw [if_neg (by omega), if_pos ha]
    obtain ⟨d1, d2⟩ := div_le_self (b - 2 * a) (2 * b) (by omega) (by omega)
    go_enter Try.func22, Try.ntmps22
    go_wp2
    go_ret
    exact ⟨(ret_int F.out).symm, rfl⟩
  · have F : Hid (rdiv a b = (2 * a + b) / (2 * b)) := by
      show rdiv a b = _
      unfold rdiv rdivP
      rw [if_neg (by omega), if_neg ha]
    obtain ⟨d1, d2⟩ := div_le_self (2 * a + b) (2 * b) (by omega) (by omega)
    go_enter Try.func22, Try.ntmps22
    go_wp2
    go_ret
    exact ⟨(ret_int F.out).symm, rfl⟩
theorem l01Div_n (a k : Int) (w : World) (h0 : -100000000000000000 ≤ a) (h1 : a ≤ 100000000000000000) (h2 : 1 ≤ k) (h3 : k ≤ 100000000000000000) : Calls Try.prog 22 #[.int .i64 a, .int .i64 (-k)] w fun e w' => e = .returned (.int .i64 (rdiv a (-k))) ∧ w = w' := by
  by_cases ha : 0 < a
  · have F : Hid (rdiv a (-k) = -((k - 2 * -a) / (2 * k))) := by
      show rdiv a (-k) = _
      unfold rdiv rdivP
      rw [if_pos (by omega), if_pos (by omega), Int.neg_neg]
    obtain ⟨d1, d2⟩ := div_le_self (k - 2 * -a) (2 * k) (by omega) (by omega)
    go_enter Try.func22, Try.ntmps22
    go_wp2
    go_ret
    exact ⟨(ret_int F.out).symm, rfl⟩
  · have F : Hid (rdiv a (-k) = (2 * -a + k) / (2 * k)) := by
      show rdiv a (-k) = _
      unfold rdiv rdivP
      rw [if_pos (by omega), if_neg (by omega), Int.neg_neg]
    obtain ⟨d1, d2⟩ := div_le_self (2 * -a + k) (2 * k) (by omega) (by omega)
    go_enter Try.func22, Try.ntmps22
    go_wp2
    go_ret
    exact ⟨(ret_int F.out).symm, rfl⟩
theorem l01Div_any (a b : Int) (w : World) (h0 : -100000000000000000 ≤ a) (h1 : a ≤ 100000000000000000) (h2 : -100000000000000000 ≤ b) (h3 : b ≤ 100000000000000000) (h4 : b ≠ 0) : Calls Try.prog 22 #[.int .i64 a, .int .i64 b] w fun e w' => e = .returned (.int .i64 (rdiv a b)) ∧ w = w' := by
  by_cases hb : b < 0
  · obtain ⟨k, rfl⟩ : ∃ k, b = -k := ⟨-b, by omega⟩
    exact l01Div_n a k w h0 h1 (by omega) (by omega)
  · exact l01Div_p a b w h0 h1 (by omega) h3
end Go.Proofs.Ythlandlpjhdbdaa
