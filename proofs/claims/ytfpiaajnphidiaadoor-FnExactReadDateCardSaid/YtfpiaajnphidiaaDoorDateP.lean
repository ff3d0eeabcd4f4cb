/- Every day of the century has a date; a date as text. Plain laws, no condition. -/
import Derived.Test.YtfpiaajnphidiaaDoorDate
import Derived.Test.YtfpiaajnphidiaaDoorPad
namespace Go.Proofs.YtfpiaajnphidiaaDoor
open Go.ChangeShapes Go.WideShapes Go.ChangeAt Go.RowKit
set_option linter.unusedVariables false
theorem isDate_ex : ∀ n : Nat, ∃ y m d : Int, IsDate (n : Int) y m d
  | 0 => ⟨2000, 1, 1, by omega, by omega, by omega, by omega, by have := mlit1 2000; omega, by have := dn_2000; simp; omega⟩
  | n + 1 => by
    obtain ⟨y, m, d, h⟩ := isDate_ex n
    by_cases hd : d < mlen y m
    · exact ⟨y, m, d + 1, h.lo, h.m1, h.m2, by have := h.d1; omega, by omega, by have := h.eq; push_cast; omega⟩
    · have hd2 : d = mlen y m := by have := h.d2; omega
      by_cases hm : m < 12
      · refine ⟨y, m + 1, 1, h.lo, by have := h.m1; omega, by omega, by omega, ?_, ?_⟩
        · have := mlen_bd y (m + 1) (by have := h.m1; omega) (by omega); omega
        · have := h.eq; have := dn_m y m; push_cast; omega
      · obtain rfl : m = 12 := by have := h.m2; omega
        refine ⟨y + 1, 1, 1, by have := h.lo; omega, by omega, by omega, by omega, ?_, ?_⟩
        · have := mlit1 (y + 1); omega
        · have := h.eq; have := dn_m y 12; have := dn_next y; simp only [show (12 : Int) + 1 = 13 from rfl] at *; push_cast; omega
theorem isDate_all {day : Int} (h0 : 0 ≤ day) : IsDate day (dY day) (dM day) (dD day) := by
  obtain ⟨n, rfl⟩ := Int.eq_ofNat_of_zero_le h0
  obtain ⟨y, m, d, h⟩ := isDate_ex n
  obtain ⟨e1, e2, e3⟩ := d_eq h
  rw [e1, e2, e3]
  exact h
theorem dY_bd {day : Int} (h0 : 0 ≤ day) (h1 : day ≤ 36524) : 2000 ≤ dY day ∧ dY day ≤ 2099 ∧ 1 ≤ dM day ∧ dM day ≤ 12 ∧ 1 ≤ dD day ∧ dD day ≤ 31 := by
  have h := isDate_all h0
  have hm := mlen_bd (dY day) (dM day) h.m1 h.m2
  have hc := (cum_bd (dY day) (dM day) h.m1 (by have := h.m2; omega)).1
  have e := h.eq
  rw [dn_cum] at e
  have := dn_le (dY day) (by have := h.d1; omega)
  exact ⟨h.lo, this, h.m1, h.m2, h.d1, by have := h.d2; omega⟩
theorem IsDate.day_bd {day y m d : Int} (h : IsDate day y m d) (hy : y ≤ 2099) : 0 ≤ day ∧ day ≤ 36524 := by
  have hc := cum_bd y m h.m1 (by have := h.m2; omega)
  have h13 := cum_mono y m 13 h.m1 (by have := h.m2; omega) (by omega)
  have c13 := cum13 y
  have e := h.eq
  have := dn_lo y h.lo
  have h1 := h.d1
  have h2 := h.d2
  have := h.lo
  rw [dn_cum] at e
  have hl := leap_01 y
  have hx : dn y 1 + 365 + leap y ≤ 36525 := by
    have h2 := dn_y y
    have h3 : dn (y + 1) 1 ≤ 36525 := by unfold dn; rw [cum1]; omega
    omega
  omega
/-- A date as text. -/
def ymd (y m d : Int) : ByteArray := decS y ++ ⟨#[45]⟩ ++ twoS m ++ ⟨#[45]⟩ ++ twoS d
noncomputable def dateS (day : Int) : ByteArray := ymd (dY day) (dM day) (dD day)
noncomputable def dateT (day : Int) : ByteArray := if inB day 0 36524 then dateS day else ⟨#[]⟩
theorem dateT_t {day : Int} (h : inB day 0 36524 = true) : dateT day = decS (dY day) ++ ⟨#[45]⟩ ++ twoS (dM day) ++ ⟨#[45]⟩ ++ twoS (dD day) := by unfold dateT; rw [if_pos h]; rfl
theorem dateT_f {day : Int} (h : inB day 0 36524 = false) : dateT day = ⟨#[]⟩ := by unfold dateT; rw [h]; rfl
theorem ymd_list (y m d : Int) : (ymd y m d).data.toList = Lib.itoa y ++ [45] ++ two m ++ [45] ++ two d := by
  unfold ymd decS twoS
  rw [show (#[45] : Array UInt8) = [45].toArray from rfl, cat_bytes, cat_bytes, cat_bytes, cat_bytes]
theorem sz45 : (⟨#[45]⟩ : ByteArray).size ≤ 1 := by decide
end Go.Proofs.YtfpiaajnphidiaaDoor
