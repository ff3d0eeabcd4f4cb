/- Numbers with places as text: the contracts of the program's and of the reference's FixedText (the program's in a world with the library's table). -/
import Derived.Test.YtjmojlinfjiacaaDoorPad
import Derived.Test.YtjmojlinfjiacaaDoorDiv
import Derived.Test.YtjmojlinfjiacaaDoorDecT
namespace Go.Proofs.YtjmojlinfjiacaaDoor
open Go.ChangeShapes Go.WideShapes Go.ChangeAt Go.RowKit
set_option linter.unusedVariables false
theorem pow_bd : ∀ (k : Nat), k ≤ 6 → (1 : Int) ≤ ((10 ^ k : Nat) : Int) ∧ ((10 ^ k : Nat) : Int) ≤ 1000000 := fun k hk => by
  have : k = 0 ∨ k = 1 ∨ k = 2 ∨ k = 3 ∨ k = 4 ∨ k = 5 ∨ k = 6 := by omega
  rcases this with rfl | rfl | rfl | rfl | rfl | rfl | rfl <;> decide
theorem pow_s (k : Nat) : ((10 ^ (k + 1) : Nat) : Int) = ((10 ^ k : Nat) : Int) * 10 := by rw [Nat.pow_succ]; push_cast; rfl
def zS (k m : Nat) : ByteArray := ⟨(zpad k m).toArray⟩
theorem zS_size (k m : Nat) : (zS k m).size = k + (Lib.decDigits m).length := by
  rw [← zpad_len]
  simp [zS, ByteArray.size]
theorem zS_s (k m : Nat) : (⟨#[48]⟩ : ByteArray) ++ zS k m = zS (k + 1) m := by
  show (⟨[48].toArray⟩ : ByteArray) ++ ⟨(zpad k m).toArray⟩ = _
  rw [cat_bytes, zpad_s]
  rfl
theorem decS_abs (n : Int) : decS (absI n) = zS 0 n.natAbs := by
  have e : absI n = (n.natAbs : Int) := by unfold absI; split <;> omega
  rw [e]
  unfold decS zS
  rw [itoa_pos', zpad_0]
/-- The point, and the digits on its two sides. -/
theorem fix_cut {p k m : Nat} (hp : 1 ≤ p) (hk : k = 0 ∨ k + (Lib.decDigits m).length ≤ p + 1) (he : p < k + (Lib.decDigits m).length) :
    ∃ a, (zS k m).size = a + p ∧ (zS k m).extract 0 a ++ ⟨#[46]⟩ ++ (zS k m).extract a (zS k m).size = ⟨(fixA m p).toArray⟩ := by
  have hz := zpad_end hp hk he
  refine ⟨(Lib.decDigits (m / 10 ^ p)).length, ?_, ?_⟩
  · have := congrArg List.length hz
    rw [zpad_len, List.length_append, padD_len] at this
    rw [zS_size]; exact this
  · have e0 : (zS k m).data.toList = Lib.decDigits (m / 10 ^ p) ++ padD p (m % 10 ^ p) := by rw [← hz]; rfl
    have e1 : (zS k m).extract 0 (Lib.decDigits (m / 10 ^ p)).length = ⟨(Lib.decDigits (m / 10 ^ p)).toArray⟩ := by
      apply eq_of_list
      rw [Lib.extract_data, e0]
      simp
    have e2 : (zS k m).extract (Lib.decDigits (m / 10 ^ p)).length (zS k m).size = ⟨(padD p (m % 10 ^ p)).toArray⟩ := by
      apply eq_of_list
      rw [Lib.extract_data, e0]
      have : (zS k m).size - (Lib.decDigits (m / 10 ^ p)).length = p := by
        have := congrArg List.length hz
        rw [zpad_len, List.length_append, padD_len] at this
        rw [zS_size]; omega
      rw [List.drop_left, this]
      rw [List.take_of_length_le (by rw [padD_len]; exact Nat.le_refl _)]
    rw [e1, e2]
    show (⟨(Lib.decDigits (m / 10 ^ p)).toArray⟩ : ByteArray) ++ ⟨[46].toArray⟩ ++ _ = _
    rw [cat_bytes, cat_bytes]
    rfl
theorem fixS_n {n : Int} (p : Nat) (h : n < 0) : fixS n p = ⟨#[45]⟩ ++ ⟨(fixA n.natAbs p).toArray⟩ := by
  unfold fixS
  rw [fixL_n p h]
  show _ = (⟨[45].toArray⟩ : ByteArray) ++ _
  rw [cat_bytes]
theorem fixS_p {n : Int} (p : Nat) (h : ¬ n < 0) : fixS n p = ⟨(fixA n.natAbs p).toArray⟩ := by
  unfold fixS
  rw [fixL_p p h]
set_option maxHeartbeats 1000000 in
theorem implFix_any (n p : Int) (w : World) (ht : TabOk w) : Calls Tryd.prog 30 #[.int .i64 n, .int .i64 p] w fun e w' => e = .returned (.string (fixT n p)) ∧ Below w.heap.size w w' := by
  rcases h1 : inB n (-1000000000) 1000000000 with _ | _
  · have F := Lib.hid (fixT_1 (p := p) h1)
    go_enter Tryd.func30, Tryd.ntmps30
    go_wp2_with (go_at_call 50; refine (within_any _ _ _ _).mono ?_; rintro e w' ⟨rfl, rfl⟩)
    go_ret
    exact ⟨(ret_str F.out).symm, Below.refl _ _⟩
  rcases h2 : inB p 1 6 with _ | _
  · have F := Lib.hid (fixT_2 (n := n) h2)
    go_enter Tryd.func30, Tryd.ntmps30
    go_wp2_with (go_at_call 50; refine (within_any _ _ _ _).mono ?_; rintro e w' ⟨rfl, rfl⟩)
    go_ret
    exact ⟨(ret_str F.out).symm, Below.refl _ _⟩
  obtain ⟨x0, x1⟩ := inB_yes h1
  obtain ⟨y0, y1⟩ := inB_yes h2
  obtain ⟨q, rfl⟩ := Int.eq_ofNat_of_zero_le (by omega : 0 ≤ p)
  have F0 := fixT_t h1 h2
  rw [Int.toNat_natCast] at F0
  have F := Lib.hid F0
  clear F0
  have HA := Lib.hid (decS_abs n)
  have hm : n.natAbs ≤ 1000000000 := by omega
  have hl : (Lib.decDigits n.natAbs).length ≤ 20 := by rw [Lib.decDigits_length]; exact Lib.nDigits_le20 _ (by omega)
  have ab : -1000000000 ≤ absI n ∧ absI n ≤ 1000000000 := by unfold absI; split <;> omega
  have HL := Lib.hid (show ∃ u, u = (Lib.decDigits n.natAbs).length from ⟨_, rfl⟩)
  go_enter Tryd.func30, Tryd.ntmps30
  go_wp2_with (first | (go_at_call 50; refine (within_any _ _ _ _).mono ?_; rintro e w' ⟨rfl, rfl⟩) | (go_at_call 51; refine (abs_any _ _ (by omega) (by omega)).mono ?_; rintro e w' ⟨rfl, rfl⟩))
  refine (implDec_any _ _ (by omega) (by omega) ht).mono ?_
  rintro e w1 ⟨rfl, hb1⟩
  rw [HA.out]
  go_wp2_with fail
  go_loop [5] (fun s => ∃ k : Nat, s = .string (zS k n.natAbs) ∧ (k = 0 ∨ k + (Lib.decDigits n.natAbs).length ≤ q + 1)) (fun s => match s with | .string b => q + 1 - b.size | _ => 0)
  case atStart => exact ⟨0, rfl, .inl rfl⟩
  case round =>
    obtain ⟨k, rfl, hk⟩ := hrel
    have hz := zS_size k n.natAbs
    by_cases hlt : k + (Lib.decDigits n.natAbs).length ≤ q
    · have hs := zS_s k n.natAbs
      have hz2 := zS_size (k + 1) n.natAbs
      have HZ := Lib.hid hz
      have HZ2 := Lib.hid hz2
      have h100 : (zS k n.natAbs).size ≤ 100 := by omega
      have hle : ((zS k n.natAbs).size : Int) ≤ (q : Int) := by omega
      clear hz hz2
      go_wp2_with fail
      go_round
      case rel => exact ⟨k + 1, rfl, .inr (by omega)⟩
      case measure => have := HZ.out; have := HZ2.out; simp; omega
    · obtain ⟨a, ha, hc⟩ := fix_cut (p := q) (k := k) (m := n.natAbs) (by omega) hk (by omega)
      have HC := Lib.hid hc
      have HSZ := Lib.hid ha
      have h100 : (zS k n.natAbs).size ≤ 100 := by omega
      have hle : ¬ ((zS k n.natAbs).size : Int) ≤ (q : Int) := by omega
      have hsub : ((zS k n.natAbs).size : Int) - (q : Int) = (a : Int) := by omega
      have ha100 : a ≤ (zS k n.natAbs).size := by omega
      have haw : IntKind.i64.wrap (((zS k n.natAbs).size : Int) - (q : Int)) = (a : Int) := by rw [IntKind.wrap_i64]; omega
      have z1 : ((zS k n.natAbs).extract 0 a).size ≤ 100 := by rw [ByteArray.size_extract]; omega
      have z2 : ((zS k n.natAbs).extract a (zS k n.natAbs).size).size ≤ 100 := by rw [ByteArray.size_extract]; omega
      have z3 : (⟨#[46]⟩ : ByteArray).size ≤ 1 := by decide
      have z4 : (⟨#[45]⟩ : ByteArray).size ≤ 1 := by decide
      clear hz ha hc
      by_cases hn : n < 0
      · have FN := Lib.hid (fixS_n q hn)
        go_wp2_with fail
        go_quiet (fail)
        go_wp2_with fail
        go_ret
        exact ⟨ret_str (by rw [F.out, FN.out, ← HC.out]), bl_drewN hb1 _⟩
      · have FN := Lib.hid (fixS_p q hn)
        go_wp2_with fail
        go_quiet (fail)
        go_wp2_with fail
        go_ret
        exact ⟨ret_str (by rw [F.out, FN.out, ← HC.out]), bl_drewN hb1 _⟩
end Go.Proofs.YtjmojlinfjiacaaDoor
