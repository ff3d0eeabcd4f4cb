/- Numbers below 100 as two digits; minutes as text. -/
import Derived.Test.YtnkmcejaemcfeaaDec
namespace Go.Proofs.Ytnkmcejaemcfeaa
open Go.ChangeShapes Go.WideShapes Go.ChangeAt Go.RowKit
set_option linter.unusedVariables false
def two (n : Int) : List UInt8 := [UInt8.ofNat (48 + (n / 10).toNat), UInt8.ofNat (48 + (n % 10).toNat)]
def twoS (n : Int) : ByteArray := ⟨(two n).toArray⟩
theorem two_small (n : Int) (h0 : 0 ≤ n) (h1 : n < 10) : two n = 48 :: Lib.itoa n := by
  obtain ⟨u, rfl⟩ := Int.eq_ofNat_of_zero_le h0
  rw [itoa_pos', Lib.decDigits_one (by omega)]
  unfold two
  rw [show ((u : Int) / 10).toNat = 0 from by omega, show ((u : Int) % 10).toNat = u from by omega]
  rfl
theorem two_big (n : Int) (h0 : 10 ≤ n) (h1 : n < 100) : two n = Lib.itoa n := by
  obtain ⟨u, rfl⟩ := Int.eq_ofNat_of_zero_le (show 0 ≤ n by omega)
  rw [itoa_pos', Lib.decDigits_two (by omega) (by omega)]
  unfold two
  rw [show ((u : Int) / 10).toNat = u / 10 from by omega, show ((u : Int) % 10).toNat = u % 10 from by omega]
theorem two_byte1 (n : Int) (h0 : 0 ≤ n) (h1 : n < 100) : ((UInt8.ofNat (48 + (n / 10).toNat)).toNat : Int) = 48 + n / 10 := by
  have := digit_byte (n / 10).toNat (by omega)
  omega
theorem two_byte2 (n : Int) (h0 : 0 ≤ n) (h1 : n < 100) : ((UInt8.ofNat (48 + (n % 10).toNat)).toNat : Int) = 48 + n % 10 := by
  have := digit_byte (n % 10).toNat (by omega)
  omega
theorem cat_bytes (l m : List UInt8) : (⟨l.toArray⟩ : ByteArray) ++ ⟨m.toArray⟩ = ⟨(l ++ m).toArray⟩ := by
  apply ByteArray.ext
  rw [ByteArray.data_append]
  simp
def decS (n : Int) : ByteArray := ⟨(Lib.itoa n).toArray⟩
theorem decS_size (n : Int) (h0 : -9223372036854775808 ≤ n) (h1 : n ≤ 9223372036854775807) : (decS n).size ≤ 21 := by
  have := Lib.itoa_length_le n h0 h1
  simpa [decS, ByteArray.size] using this
theorem twoS_size (n : Int) : (twoS n).size ≤ 2 := by simp [twoS, two, ByteArray.size]
theorem sz48 : (⟨#[48]⟩ : ByteArray).size ≤ 1 := by decide
theorem sz58 : (⟨#[58]⟩ : ByteArray).size ≤ 1 := by decide
theorem l01DecS_any (n : Int) (w : World) (h0 : -9223372036854775808 ≤ n) (h1 : n ≤ 9223372036854775807) : Calls Try.prog 87 #[.int .i64 n] w fun e w' => e = .returned (.string (decS n)) ∧ Below w.heap.size w w' := l01Dec_any n w h0 h1
theorem l02Two_any (n : Int) (w : World) (h0 : 0 ≤ n) (h1 : n < 100) : Calls Try.prog 82 #[.int .i64 n] w fun e w' => e = .returned (.string (twoS n)) ∧ Below w.heap.size w w' := by
  have z1 := decS_size n (by omega) (by omega)
  have z2 := sz48
  by_cases h : n < 10
  · have F : Hid (twoS n = ⟨#[48]⟩ ++ decS n) := by
      show _ = ⟨#[48]⟩ ++ (⟨(Lib.itoa n).toArray⟩ : ByteArray)
      rw [show (#[48] : Array UInt8) = [48].toArray from rfl, cat_bytes]
      unfold twoS
      rw [two_small n h0 h]
      rfl
    go_enter Try.func82, Try.ntmps82
    go_wp2_with (go_at_call 87; refine (l01DecS_any _ _ (by omega) (by omega)).mono ?_; rintro e w1 ⟨rfl, hb1⟩)
    go_ret
    exact ⟨(ret_str F.out).symm, hb1⟩
  · have F : Hid (twoS n = decS n) := by
      show _ = (⟨(Lib.itoa n).toArray⟩ : ByteArray)
      unfold twoS
      rw [two_big n (by omega) h1]
    go_enter Try.func82, Try.ntmps82
    go_wp2_with (go_at_call 87; refine (l01DecS_any _ _ (by omega) (by omega)).mono ?_; rintro e w1 ⟨rfl, hb1⟩)
    go_ret
    exact ⟨(ret_str F.out).symm, hb1⟩
theorem conv_two (n : Int) (h0 : 0 ≤ n) (h1 : n < 100) (W : World) :
    (convert 69 9 (.slice (some ⟨W.heap.size, 0, none⟩) 2 2)).run Try.prog (W.alloc (.cells #[.int .u8 (48 + n / 10), .int .u8 (48 + n % 10)] 5)) = .ok (.string (twoS n)) (W.alloc (.cells #[.int .u8 (48 + n / 10), .int .u8 (48 + n % 10)] 5)) := by
  refine run_convert_bytes_back _ 69 9 5 ⟨W.heap.size, 0, none⟩ 2 (two n) Try.underlying69 Try.underlying5 Try.underlying9 ?_
  intro j hj
  have e1 := two_byte1 n h0 h1
  have e2 := two_byte2 n h0 h1
  rw [Go.WideShapes.add_plain, Nat.zero_add]
  match j, hj with
  | 0, _ => rw [show (two n)[0] = UInt8.ofNat (48 + (n / 10).toNat) from rfl, e1]; simp [go_sem]
  | 1, _ => rw [show (two n)[1] = UInt8.ofNat (48 + (n % 10).toNat) from rfl, e2]; simp [go_sem]
theorem twoDigits_any (n : Int) (w : World) (h0 : 0 ≤ n) (h1 : n < 100) : Calls Try.prog 56 #[.int .i64 n] w fun e w' => e = .returned (.string (twoS n)) ∧ Below w.heap.size w w' := by
  have hc := conv_two n h0 h1
  go_enter Try.func56, Try.ntmps56
  go_wp2
  go_ret
  exact ⟨rfl, by repeat (first | exact Below.refl _ _ | apply bl_alloc)⟩
def clockS (m : Int) : ByteArray := twoS (m / 60) ++ ⟨#[58]⟩ ++ twoS (m % 60)
def clockT (m : Int) : ByteArray := if inB m 0 1439 then clockS m else ⟨#[]⟩
theorem clockT_t {m : Int} (h : inB m 0 1439 = true) : clockT m = twoS (m / 60) ++ ⟨#[58]⟩ ++ twoS (m % 60) := by unfold clockT; rw [if_pos h]; rfl
theorem clockT_f {m : Int} (h : inB m 0 1439 = false) : clockT m = ⟨#[]⟩ := by unfold clockT; rw [h]; rfl
theorem implClock_any (m : Int) (w : World) : Calls Try.prog 23 #[.int .i64 m] w fun e w' => e = .returned (.string (clockT m)) ∧ Below w.heap.size w w' := by
  rcases h : inB m 0 1439 with _ | _
  · have F := Lib.hid (clockT_f h)
    go_enter Try.func23, Try.ntmps23
    go_wp2_with (go_at_call 52; refine (within_any _ _ _ _).mono ?_; rintro e w' ⟨rfl, rfl⟩)
    go_ret
    exact ⟨(ret_str F.out).symm, Below.refl _ _⟩
  · have F := Lib.hid (clockT_t h)
    obtain ⟨x0, x1⟩ := inB_yes h
    have z1 := twoS_size (m / 60)
    have z2 := twoS_size (m % 60)
    have z3 := sz58
    go_enter Try.func23, Try.ntmps23
    go_wp2_with (go_at_call 52; refine (within_any _ _ _ _).mono ?_; rintro e w' ⟨rfl, rfl⟩)
    refine (twoDigits_any _ _ (by omega) (by omega)).mono ?_
    rintro e w1 ⟨rfl, hb1⟩
    go_wp2_with fail
    refine (twoDigits_any _ _ (by omega) (by omega)).mono ?_
    rintro e w2 ⟨rfl, hb2⟩
    go_wp2_with fail
    go_ret
    exact ⟨(ret_str F.out).symm, bl_trans hb1 hb2⟩
theorem specClock_any (m : Int) (w : World) : Calls Try.prog 22 #[.int .i64 m] w fun e w' => e = .returned (.string (clockT m)) ∧ Below w.heap.size w w' := by
  rcases h : inB m 0 1439 with _ | _
  · have F := Lib.hid (clockT_f h)
    go_enter Try.func22, Try.ntmps22
    go_wp2_with (go_at_call 50; refine (l00In_any _ _ _ _).mono ?_; rintro e w' ⟨rfl, rfl⟩)
    go_ret
    exact ⟨(ret_str F.out).symm, Below.refl _ _⟩
  · have F := Lib.hid (clockT_t h)
    obtain ⟨x0, x1⟩ := inB_yes h
    have z1 := twoS_size (m / 60)
    have z2 := twoS_size (m % 60)
    have z3 := sz58
    go_enter Try.func22, Try.ntmps22
    go_wp2_with (first | (go_at_call 50; refine (l00In_any _ _ _ _).mono ?_; rintro e w' ⟨rfl, rfl⟩) | (go_at_call 55; go_in))
    refine (l02Two_any _ _ (by omega) (by omega)).mono ?_
    rintro e w1 ⟨rfl, hb1⟩
    go_wp2_with fail
    refine (l02Two_any _ _ (by omega) (by omega)).mono ?_
    rintro e w2 ⟨rfl, hb2⟩
    go_wp2_with fail
    go_ret
    exact ⟨(ret_str F.out).symm, bl_trans hb1 hb2⟩
end Go.Proofs.Ytnkmcejaemcfeaa
