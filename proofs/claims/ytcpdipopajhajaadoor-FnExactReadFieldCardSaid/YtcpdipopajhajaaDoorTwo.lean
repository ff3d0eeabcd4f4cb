/- Numbers below 100 as two digits; minutes as text. -/
import Derived.Test.YtcpdipopajhajaaDoorDec
namespace Go.Proofs.YtcpdipopajhajaaDoor
open Go.ChangeShapes Go.WideShapes Go.ChangeAt Go.RowKit
set_option linter.unusedVariables false
def two (n : Int) : List UInt8 := [UInt8.ofNat (48 + (n / 10).toNat), UInt8.ofNat (48 + (n % 10).toNat)]
def twoS (n : Int) : ByteArray := ⟨(two n).toArray⟩
theorem two_small (n : Int) (h0 : 0 ≤ n) (h1 : n < 10) : two n = 48 :: Lib.itoa n := by
  obtain ⟨u, rfl⟩ := Int.eq_ofNat_of_zero_le h0
  rw [itoa_pos', Lib.decDigits_one (by omega)]
  unfold two
  rw [show ((u : Int) / 10).toNat = 0 from by omega, show ((u : Int) % 10).toNat = u from by omega]
  rfl
theorem two_big (n : Int) (h0 : 10 ≤ n) (h1 : n < 100) : two n = Lib.itoa n := by
  obtain ⟨u, rfl⟩ := Int.eq_ofNat_of_zero_le (show 0 ≤ n by omega)
  rw [itoa_pos', Lib.decDigits_two (by omega) (by omega)]
  unfold two
  rw [show ((u : Int) / 10).toNat = u / 10 from by omega, show ((u : Int) % 10).toNat = u % 10 from by omega]
theorem two_byte1 (n : Int) (h0 : 0 ≤ n) (h1 : n < 100) : ((UInt8.ofNat (48 + (n / 10).toNat)).toNat : Int) = 48 + n / 10 := by
  have := digit_byte (n / 10).toNat (by omega)
  omega
theorem two_byte2 (n : Int) (h0 : 0 ≤ n) (h1 : n < 100) : ((UInt8.ofNat (48 + (n % 10).toNat)).toNat : Int) = 48 + n % 10 := by
  have := digit_byte (n % 10).toNat (by omega)
  omega
theorem cat_bytes (l m : List UInt8) : (⟨l.toArray⟩ : ByteArray) ++ ⟨m.toArray⟩ = ⟨(l ++ m).toArray⟩ := by
  apply ByteArray.ext
  rw [ByteArray.data_append]
  simp
def decS (n : Int) : ByteArray := ⟨(Lib.itoa n).toArray⟩
theorem decS_size (n : Int) (h0 : -9223372036854775808 ≤ n) (h1 : n ≤ 9223372036854775807) : (decS n).size ≤ 21 := by
  have := Lib.itoa_length_le n h0 h1
  simpa [decS, ByteArray.size] using this
theorem twoS_size (n : Int) : (twoS n).size ≤ 2 := by simp [twoS, two, ByteArray.size]
theorem sz48 : (⟨#[48]⟩ : ByteArray).size ≤ 1 := by decide
theorem sz58 : (⟨#[58]⟩ : ByteArray).size ≤ 1 := by decide
theorem l01DecS_any (n : Int) (w : World) (h0 : -9223372036854775808 ≤ n) (h1 : n ≤ 9223372036854775807) : Calls Tryd.prog 59 #[.int .i64 n] w fun e w' => e = .returned (.string (decS n)) ∧ Below w.heap.size w w' := l01Dec_any n w h0 h1
end Go.Proofs.YtcpdipopajhajaaDoor
