/- Numbers below 100 as two digits; minutes as text. -/
import Derived.Test.YtfpiaajnphidiaaDoorDec
namespace Go.Proofs.YtfpiaajnphidiaaDoor
open Go.ChangeShapes Go.WideShapes Go.ChangeAt Go.RowKit
set_option linter.unusedVariables false
def two (n : Int) : List UInt8 := [UInt8.ofNat (48 + (n / 10).toNat), UInt8.ofNat (48 + (n % 10).toNat)]
def twoS (n : Int) : ByteArray := ⟨(two n).toArray⟩
theorem two_small (n : Int) (h0 : 0 ≤ n) (h1 : n < 10) : two n = 48 :: Lib.itoa n := by
  obtain ⟨u, rfl⟩ := Int.eq_ofNat_of_zero_le h0
  rw [itoa_pos', Lib.decDigits_one (by omega)]
  unfold two
  rw [show ((u : Int) / 10).toNat = 0 from by omega, show ((u : Int) % 10).toNat = u from by omega]
  rfl
theorem two_big (n : Int) (h0 : 10 ≤ n) (h1 : n < 100) : two n = Lib.itoa n := by
  obtain ⟨u, rfl⟩ := Int.eq_ofNat_of_zero_le (show 0 ≤ n by omega)
  rw [itoa_pos', Lib.decDigits_two (by omega) (by omega)]
  unfold two
  rw [show ((u : Int) / 10).toNat = u / 10 from by omega, show ((u : Int) % 10).toNat = u % 10 from by omega]
theorem two_byte1 (n : Int) (h0 : 0 ≤ n) (h1 : n < 100) : ((UInt8.ofNat (48 + (n / 10).toNat)).toNat : Int) = 48 + n / 10 := by
  have := digit_byte (n / 10).toNat (by omega)
  omega
theorem two_byte2 (n : Int) (h0 : 0 ≤ n) (h1 : n < 100) : ((UInt8.ofNat (48 + (n % 10).toNat)).toNat : Int) = 48 + n % 10 := by
  have := digit_byte (n % 10).toNat (by omega)
  omega
theorem cat_bytes (l m : List UInt8) : (⟨l.toArray⟩ : ByteArray) ++ ⟨m.toArray⟩ = ⟨(l ++ m).toArray⟩ := by
  apply ByteArray.ext
  rw [ByteArray.data_append]
  simp
def decS (n : Int) : ByteArray := ⟨(Lib.itoa n).toArray⟩
theorem decS_size (n : Int) (h0 : -9223372036854775808 ≤ n) (h1 : n ≤ 9223372036854775807) : (decS n).size ≤ 21 := by
  have := Lib.itoa_length_le n h0 h1
  simpa [decS, ByteArray.size] using this
theorem twoS_size (n : Int) : (twoS n).size ≤ 2 := by simp [twoS, two, ByteArray.size]
theorem sz48 : (⟨#[48]⟩ : ByteArray).size ≤ 1 := by decide
theorem sz58 : (⟨#[58]⟩ : ByteArray).size ≤ 1 := by decide
theorem l01DecS_any (n : Int) (w : World) (h0 : -9223372036854775808 ≤ n) (h1 : n ≤ 9223372036854775807) : Calls Tryd.prog 20 #[.int .i64 n] w fun e w' => e = .returned (.string (decS n)) ∧ Below w.heap.size w w' := l01Dec_any n w h0 h1
theorem l02Two_any (n : Int) (w : World) (h0 : 0 ≤ n) (h1 : n < 100) : Calls Tryd.prog 41 #[.int .i64 n] w fun e w' => e = .returned (.string (twoS n)) ∧ Below w.heap.size w w' := by
  have z1 := decS_size n (by omega) (by omega)
  have z2 := sz48
  by_cases h : n < 10
  · have F : Hid (twoS n = ⟨#[48]⟩ ++ decS n) := by
      show _ = ⟨#[48]⟩ ++ (⟨(Lib.itoa n).toArray⟩ : ByteArray)
      rw [show (#[48] : Array UInt8) = [48].toArray from rfl, cat_bytes]
      unfold twoS
      rw [two_small n h0 h]
      rfl
    go_enter Tryd.func41, Tryd.ntmps41
    go_wp2_with (go_at_call 20; refine (l01DecS_any _ _ (by omega) (by omega)).mono ?_; rintro e w1 ⟨rfl, hb1⟩)
    go_ret
    exact ⟨(ret_str F.out).symm, hb1⟩
  · have F : Hid (twoS n = decS n) := by
      show _ = (⟨(Lib.itoa n).toArray⟩ : ByteArray)
      unfold twoS
      rw [two_big n (by omega) h1]
    go_enter Tryd.func41, Tryd.ntmps41
    go_wp2_with (go_at_call 20; refine (l01DecS_any _ _ (by omega) (by omega)).mono ?_; rintro e w1 ⟨rfl, hb1⟩)
    go_ret
    exact ⟨(ret_str F.out).symm, hb1⟩
theorem conv_two (n : Int) (h0 : 0 ≤ n) (h1 : n < 100) (W : World) :
    (convert 44 9 (.slice (some ⟨W.heap.size, 0, none⟩) 2 2)).run Tryd.prog (W.alloc (.cells #[.int .u8 (48 + n / 10), .int .u8 (48 + n % 10)] 5)) = .ok (.string (twoS n)) (W.alloc (.cells #[.int .u8 (48 + n / 10), .int .u8 (48 + n % 10)] 5)) := by
  refine run_convert_bytes_back _ 44 9 5 ⟨W.heap.size, 0, none⟩ 2 (two n) Tryd.underlying44 Tryd.underlying5 Tryd.underlying9 ?_
  intro j hj
  have e1 := two_byte1 n h0 h1
  have e2 := two_byte2 n h0 h1
  rw [Go.WideShapes.add_plain, Nat.zero_add]
  match j, hj with
  | 0, _ => rw [show (two n)[0] = UInt8.ofNat (48 + (n / 10).toNat) from rfl, e1]; simp [go_sem]
  | 1, _ => rw [show (two n)[1] = UInt8.ofNat (48 + (n % 10).toNat) from rfl, e2]; simp [go_sem]
theorem twoDigits_any (n : Int) (w : World) (h0 : 0 ≤ n) (h1 : n < 100) : Calls Tryd.prog 30 #[.int .i64 n] w fun e w' => e = .returned (.string (twoS n)) ∧ Below w.heap.size w w' := by
  have hc := conv_two n h0 h1
  go_enter Tryd.func30, Tryd.ntmps30
  go_wp2
  go_ret
  exact ⟨rfl, by repeat (first | exact Below.refl _ _ | apply bl_alloc)⟩
end Go.Proofs.YtfpiaajnphidiaaDoor
