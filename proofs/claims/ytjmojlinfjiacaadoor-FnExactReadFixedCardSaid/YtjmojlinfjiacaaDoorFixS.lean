/- Numbers with places as text: the contracts of the reference's l02Ten, l02Fixed and FixedText. -/
import Derived.Test.YtjmojlinfjiacaaDoorPad
import Derived.Test.YtjmojlinfjiacaaDoorDec
import Derived.Lib.Strings
import Derived.StillTailTactics
import Derived.Deep.RegionHeld3
namespace Go.Proofs.YtjmojlinfjiacaaDoor
open Go.ChangeShapes Go.WideShapes Go.ChangeAt Go.RowKit
set_option linter.unusedVariables false
theorem pow6 : ∀ (k : Nat), k ≤ 6 → (1 : Int) ≤ ((10 ^ k : Nat) : Int) ∧ ((10 ^ k : Nat) : Int) ≤ 1000000 ∧ (k < 6 → ((10 ^ k : Nat) : Int) ≤ 100000) ∧ (1 ≤ k → 10 ≤ ((10 ^ k : Nat) : Int)) := fun k hk => by
  have : k = 0 ∨ k = 1 ∨ k = 2 ∨ k = 3 ∨ k = 4 ∨ k = 5 ∨ k = 6 := by omega
  rcases this with rfl | rfl | rfl | rfl | rfl | rfl | rfl <;> decide
theorem pow_x (k : Nat) : ((10 ^ (k + 1) : Nat) : Int) = ((10 ^ k : Nat) : Int) * 10 := by rw [Nat.pow_succ]; push_cast; rfl
theorem nil_app (x : ByteArray) : (⟨#[]⟩ : ByteArray) ++ x = x := by
  apply eq_of_list
  rw [ByteArray.data_append]
  simp
theorem fix_spec (m p : Nat) (b : Int) (hb : b = ((10 ^ p : Nat) : Int)) : 1 ≤ (decS ((m : Int) % b + b)).size ∧ decS ((m : Int) / b) ++ ⟨#[46]⟩ ++ (decS ((m : Int) % b + b)).extract 1 (decS ((m : Int) % b + b)).size = ⟨(fixA m p).toArray⟩ := by
  have hp : 0 < 10 ^ p := Nat.pow_pos (by omega)
  have e1 : (m : Int) / b = ((m / 10 ^ p : Nat) : Int) := by rw [hb]; push_cast; rfl
  have e2 : (m : Int) % b + b = ((m % 10 ^ p + 10 ^ p : Nat) : Int) := by rw [hb]; push_cast; rfl
  have hr := rest_eq (p := p) (r := m % 10 ^ p) (Nat.mod_lt _ hp)
  have hR : (decS ((m : Int) % b + b)).data.toList = 49 :: padD p (m % 10 ^ p) := by
    rw [e2]
    unfold decS
    rw [itoa_pos', hr]
  have hS : (decS ((m : Int) % b + b)).size = p + 1 := by
    have := congrArg List.length hR
    rw [List.length_cons, padD_len] at this
    simpa using this
  refine ⟨by omega, ?_⟩
  have hX : (decS ((m : Int) % b + b)).extract 1 (decS ((m : Int) % b + b)).size = ⟨(padD p (m % 10 ^ p)).toArray⟩ := by
    apply eq_of_list
    rw [Lib.extract_data, hR, hS]
    show ((padD p (m % 10 ^ p))).take (p + 1 - 1) = padD p (m % 10 ^ p)
    rw [List.take_of_length_le (by rw [padD_len]; omega)]
  have hD : decS ((m : Int) / b) = ⟨(Lib.decDigits (m / 10 ^ p)).toArray⟩ := by
    rw [e1]
    unfold decS
    rw [itoa_pos']
  rw [hX, hD]
  show (⟨(Lib.decDigits (m / 10 ^ p)).toArray⟩ : ByteArray) ++ ⟨[46].toArray⟩ ++ _ = _
  rw [cat_bytes, cat_bytes]
  rfl
theorem fixS_neg (m p : Nat) (h : 0 < m) : fixS (-(m : Int)) p = ⟨#[45]⟩ ++ ⟨(fixA m p).toArray⟩ := by
  unfold fixS
  rw [fixL_n p (by omega), Int.natAbs_neg, Int.natAbs_natCast]
  show _ = (⟨[45].toArray⟩ : ByteArray) ++ _
  rw [cat_bytes]
theorem fixS_pos (m p : Nat) : fixS (m : Int) p = ⟨(fixA m p).toArray⟩ := by
  unfold fixS
  rw [fixL_p p (by omega), Int.natAbs_natCast]
theorem l02Ten_any (p : Nat) (w : World) (hp : p ≤ 6) : Calls Tryd.prog 24 #[.int .i64 (p : Int)] w fun e w' => e = .returned (.int .i64 ((10 ^ p : Nat) : Int)) ∧ w = w' := by
  go_enter Tryd.func24, Tryd.ntmps24
  go_wp2_with fail
  go_loop [3, 4] (fun o i => ∃ (k : Nat) (t : Int), k ≤ p ∧ i = .int .i64 k ∧ o = .int .i64 t ∧ Hid (t = ((10 ^ k : Nat) : Int)) ∧ 1 ≤ t ∧ t ≤ 1000000) (fun _ i => p - (intOf i).toNat)
  case atStart => exact ⟨0, 1, Nat.zero_le _, rfl, rfl, rfl, by omega, by omega⟩
  case round =>
    obtain ⟨k, t, hk, rfl, rfl, ht, t0, t1⟩ := hrel
    by_cases hlt : k < p
    · have h5 : t ≤ 100000 := by rw [ht.out]; exact (pow6 k (by omega)).2.2.1 (by omega)
      go_wp2_with fail
      go_round
      case rel => exact ⟨k + 1, t * 10, by omega, by go_num, rfl, by show _ = _; rw [pow_x, ht.out], by omega, by omega⟩
      case measure => simp [intOf]; omega
    · obtain rfl : k = p := by omega
      go_wp2_with fail
      go_ret
      exact ⟨ret_int ht.out, rfl⟩
set_option maxHeartbeats 1000000 in
theorem l02Fixed_any (n : Int) (p : Nat) (w : World) (h0 : -1000000000 ≤ n) (h1 : n ≤ 1000000000) (p0 : 1 ≤ p) (p1 : p ≤ 6) :
    Calls Tryd.prog 26 #[.int .i64 n, .int .i64 (p : Int)] w fun e w' => e = .returned (.string (fixS n p)) ∧ Below w.heap.size w w' := by
  obtain ⟨b, hb⟩ : ∃ b : Int, b = ((10 ^ p : Nat) : Int) := ⟨_, rfl⟩
  obtain ⟨b0, b1, _, b2⟩ := pow6 p p1
  have b2 := b2 p0
  rw [← hb] at b0 b1 b2
  have HTen := Lib.hid (fun W : World => l02Ten_any p W p1)
  rw [← hb] at HTen
  by_cases hn : n < 0
  · obtain ⟨m, rfl⟩ : ∃ m : Nat, n = -(m : Int) := ⟨n.natAbs, by omega⟩
    obtain ⟨s1, hF⟩ := fix_spec m p b hb
    have F := Lib.hid ((fixS_neg m p (by omega)).trans (by rw [← hF, ← ByteArray.append_assoc, ← ByteArray.append_assoc]))
    have m0 := Int.emod_nonneg (m : Int) (show b ≠ 0 by omega)
    have m1 := Int.emod_lt_of_pos (m : Int) (show 0 < b by omega)
    have d0 := Int.ediv_nonneg (show (0 : Int) ≤ (m : Int) by omega) (show 0 ≤ b by omega)
    have d1 : (m : Int) / b ≤ m := Int.ediv_le_self b (by omega)
    have z1 := decS_size ((m : Int) % b + b) (by omega) (by omega)
    have z2 := decS_size ((m : Int) / b) (by omega) (by omega)
    have z3 : ((decS ((m : Int) % b + b)).extract 1 (decS ((m : Int) % b + b)).size).size ≤ 21 := by rw [ByteArray.size_extract]; omega
    have z4 : (⟨#[46]⟩ : ByteArray).size ≤ 1 := by decide
    have z5 : (⟨#[45]⟩ : ByteArray).size ≤ 1 := by decide
    have sg : decide ((0 : Int) < m) = true := by simp; omega
    have hm : 0 < m := by omega
    have hm2 : m ≤ 1000000000 := by omega
    have i1 : (1 : Int) ≤ ((decS ((m : Int) % b + b)).size : Int) := by omega
    have q1 : (m : Int).tdiv b = (m : Int) / b := Int.tdiv_eq_ediv_of_nonneg (by omega)
    have q2 : (b == 0) = false := by simp; omega
    have q3 : IntKind.i64.wrap ((m : Int) / b) = (m : Int) / b := by rw [IntKind.wrap_i64]; omega
    clear hb hF hn h0 h1
    go_enter Tryd.func26, Tryd.ntmps26
    go_wp2_with (go_at_call 24; refine (HTen.out _).mono ?_; rintro e w' ⟨rfl, rfl⟩)
    refine (l01DecS_any _ _ (by omega) (by omega)).mono ?_
    rintro e w1 ⟨rfl, hb1⟩
    go_wp2_with fail
    go_region_with ((go_at_call 38; refine (l01DecS_any _ _ (by omega) (by omega)).mono ?_; rintro e w2 ⟨rfl, hb2⟩))
    all_goals
      go_wp2_with fail
      go_ret
      exact ⟨ret_str F.out.symm, bl_trans hb1 (by first | exact hb2 | exact (bl_drewN (Below.refl _ _) 1).trans (hb2.mono (Nat.le_refl _)))⟩
  · obtain ⟨m, rfl⟩ := Int.eq_ofNat_of_zero_le (by omega : 0 ≤ n)
    obtain ⟨s1, hF⟩ := fix_spec m p b hb
    have F := Lib.hid ((fixS_pos m p).trans hF.symm)
    have m0 := Int.emod_nonneg (m : Int) (show b ≠ 0 by omega)
    have m1 := Int.emod_lt_of_pos (m : Int) (show 0 < b by omega)
    have d0 := Int.ediv_nonneg (show (0 : Int) ≤ (m : Int) by omega) (show 0 ≤ b by omega)
    have d1 : (m : Int) / b ≤ m := Int.ediv_le_self b (by omega)
    have z1 := decS_size ((m : Int) % b + b) (by omega) (by omega)
    have z2 := decS_size ((m : Int) / b) (by omega) (by omega)
    have z3 : ((decS ((m : Int) % b + b)).extract 1 (decS ((m : Int) % b + b)).size).size ≤ 21 := by rw [ByteArray.size_extract]; omega
    have z4 : (⟨#[46]⟩ : ByteArray).size ≤ 1 := by decide
    have z5 : (⟨#[]⟩ : ByteArray).size ≤ 1 := by decide
    have sg : decide ((m : Int) < 0) = false := by simp
    have NA := nil_app (decS ((m : Int) / b))
    have hm2 : m ≤ 1000000000 := by omega
    have i1 : (1 : Int) ≤ ((decS ((m : Int) % b + b)).size : Int) := by omega
    have q1 : (m : Int).tdiv b = (m : Int) / b := Int.tdiv_eq_ediv_of_nonneg (by omega)
    have q2 : (b == 0) = false := by simp; omega
    have q3 : IntKind.i64.wrap ((m : Int) / b) = (m : Int) / b := by rw [IntKind.wrap_i64]; omega
    clear hb hF hn h0 h1
    go_enter Tryd.func26, Tryd.ntmps26
    go_wp2_with (go_at_call 24; refine (HTen.out _).mono ?_; rintro e w' ⟨rfl, rfl⟩)
    refine (l01DecS_any _ _ (by omega) (by omega)).mono ?_
    rintro e w1 ⟨rfl, hb1⟩
    go_wp2_with fail
    go_region_with ((go_at_call 38; refine (l01DecS_any _ _ (by omega) (by omega)).mono ?_; rintro e w2 ⟨rfl, hb2⟩))
    all_goals
      go_wp2_with fail
      go_ret
      exact ⟨ret_str F.out.symm, bl_trans hb1 (by first | exact hb2 | exact (bl_drewN (Below.refl _ _) 1).trans (hb2.mono (Nat.le_refl _)))⟩
end Go.Proofs.YtjmojlinfjiacaaDoor
